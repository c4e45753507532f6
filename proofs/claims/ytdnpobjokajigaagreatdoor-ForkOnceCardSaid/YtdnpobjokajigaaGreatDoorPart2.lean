/-
  Builders: what they hold; WriteString, WriteByte, Len, String.
  Builders: WriteString, Len.
  Items: as data; how they are written.
  Items are written.
  Lists are written; Encode.
-/
import Derived.Test.YtdnpobjokajigaaGreatDoorProg
import Derived.Test.YtdnpobjokajigaaGreatDoorK
import Derived.KernelRfl
import Derived.Outline
import Derived.Lib.Builder
import Derived.Lib.AppendStr
import Derived.Lib.UnsafeStr
import Derived.RegionTactic
import Derived.BigRegion
import Derived.Laws.Externs
import Derived.Test.YtdnpobjokajigaaGreatDoorPart1
import Derived.Deep.RegionWith
import Derived.Deep.RegionHeld3
namespace Go.Proofs.YtdnpobjokajigaaGreatDoor
open Go.RowKit Go.Proofs K

/-- A type whose variables may be builders. -/
def BT (T : TypeId) : Prop := liesAt Tryz.prog Tryz.prog.depth T (2 / Tryz.prog.cellsOf T) 0 241 1 = true
theorem bt_builder : BT 241 := by unfold BT; kernel_rfl
theorem szBuilder : (Tryz.prog.info? 241).map (·.size) = some 2 := by kernel_rfl
/-- What a builder's first cell holds. -/
def selfP (b : Nat) (p : Value) : Prop := p = .pointer none ∨ p = .pointer (some ⟨b, 0, none⟩)
/-- A builder in block b, and the bytes that it holds. -/
def bldP (T : TypeId) (b : Nat) (l : List UInt8) : Hp :=
  ⟨fun F w => ∃ p v, F b ∧ w.heap[b]? = some (.cells #[p, v] T (0, 0)) ∧ selfP b p ∧ (l = [] → v = .slice none 0 0) ∧ w.ownsRow 0 5 1 v l.length (Lib.byteCells l) ∧ ∀ k, v.ownBlock = some k → F k ∧ k ≠ b,
    fun {F _ _} h ⟨p, v, hb, hc, hp, hn, ho, hk⟩ => ⟨p, v, hb, (h b hb).trans hc, hp, hn, ((own 5 1 v l.length (Lib.byteCells l)).loc (F := F) h ⟨ho, fun k e => (hk k e).1⟩).1, hk⟩⟩
section
variable {H0 H : Hs} {w0 w : World} {X : Nat → Prop} {ps : List Hp} {T : TypeId} {b : Nat} {l : List UInt8}
theorem openBld (h : St H0 w0 X H w ps) (i : Nat) (hi : ps[i]? = some (bldP T b l)) : ∃ p v, selfP b p ∧ (l = [] → v = .slice none 0 0) ∧ St H0 w0 X H w (blk b (.cells #[p, v] T) :: own 5 1 v l.length (Lib.byteCells l) :: ps.eraseIdx i) := by
  obtain ⟨F, ⟨p, v, hb, hc, hp, hn, ho, hk⟩, _, _⟩ := h.step hi
  refine ⟨p, v, hp, hn, h.split i hi fun F' ⟨p', v', hb', hc', hp', hn', ho', hk'⟩ => ?_⟩
  obtain ⟨rfl, rfl⟩ : p = p' ∧ v = v' := by
    rw [hc] at hc'
    simpa using hc'
  exact ⟨fun x => x = b, fun x => v.ownBlock = some x, ⟨rfl, hc⟩, ⟨ho', fun _ e => e⟩, fun x hx => hx ▸ hb', fun x hx => (hk' x hx).1, fun x hx hx' => (hk' x hx').2 hx⟩
theorem shutBld {p v : Value} (h : St H0 w0 X H w (blk b (.cells #[p, v] T) :: own 5 1 v l.length (Lib.byteCells l) :: ps)) (hp : selfP b p) (hn : l = [] → v = .slice none 0 0) : St H0 w0 X H w (bldP T b l :: ps) :=
  h.join fun _ _ ⟨a, c⟩ ⟨d, e⟩ hd => ⟨p, v, .inl a, c, hp, hn, d, fun k hk => ⟨.inr (e k hk), fun hkb => hd b a (hkb ▸ e k hk)⟩⟩
theorem newBld (h : St H0 w0 X H w ps) (T : TypeId) : St H0 w0 X H (w.alloc (.cells #[.pointer none, .slice none 0 0] T)) (bldP T w.heap.size [] :: ps) :=
  shutBld (l := []) (((h.alloc (.cells #[.pointer none, .slice none 0 0] T)).own_nil (e := 5) (size := 1)).pick 1 rfl) (.inl rfl) fun _ => rfl

/-- A step that leaves a tuple of nothing. -/
def RetS (v : Value) (H0 H : Hs) (w0 : World) (X : Nat → Prop) (qs : List Hp) (e : Ending) (w' : World) : Prop := e = .returned v ∧ St H0 w0 X H w' qs
set_option maxRecDepth 100000 in
theorem copyCheck_st (S : St H0 w0 X H w ps) (i : Nat) {p v : Value} (hi : ps[i]? = some (blk b (.cells #[p, v] T))) (hp : selfP b p) (hT : BT T) :
    Calls Tryz.prog 217 #[.pointer (some ⟨b, 0, none⟩)] w (RetS (.tuple #[]) H0 H w0 X (blk b (.cells #[.pointer (some ⟨b, 0, none⟩), v] T) :: ps.eraseIdx i)) := by
  have HS := Lib.hid S
  have hc : w.cell? ⟨b, 0, none⟩ = some p := S.cell i hi rfl
  have hf : w.frozen? ⟨b, 0, none⟩ = false := S.frozen i hi 0
  have hsh : w.shape? b = some (T, 2) := by have := S.blk_at i hi; simp [World.shape?, this]
  obtain ⟨j, hj, hjs⟩ := Option.map_eq_some_iff.1 szBuilder
  rcases hp with rfl | rfl
  · clear S
    go_enter Tryz.func217, Tryz.ntmps217
    go_wp2
    rw [Lib.run_to_unsafe w ⟨b, 0, none⟩ Tryz.underlying239 Tryz.underlying343 hj (by rw [hjs]; decide) hsh (Nat.zero_lt_succ 1)]
    simp only [Result.andThen]
    rw [Oper.upon_value]
    go_wp2
    rw [run_callFunc_extern (show Tryz.prog.funcs[242]? = some Tryz.f242 by kernel_rfl) (by kernel_rfl) (by kernel_rfl) (by kernel_rfl) (e := Extern.AbiNoEscape.same) (by kernel_rfl)]
    rw [Lib.run_noEscape]
    simp only [Result.andThen]
    rw [Oper.upon_value]
    go_wp2
    rw [Lib.run_from_unsafe w ⟨b, 0, none⟩ Tryz.underlying343 Tryz.underlying239 hj hsh hT]
    simp only [Result.andThen]
    rw [Oper.upon_value]
    go_wp2
    go_end0
    exact ⟨rfl, HS.out.setCell i hi _⟩
  · clear S
    go_enter Tryz.func217, Tryz.ntmps217
    go_wp2
    rw [Lib.run_neq_ptr_same w _ Tryz.underlying239 hj]
    go_wp2
    go_end0
    exact ⟨rfl, HS.out.pick i hi⟩
theorem infoU8 : (Tryz.prog.info? 5).map (fun i => (i.zero, i.size, i.bytes)) = some (some (.int .u8 0), 1, 1) := by kernel_rfl
/-- 'append' of a text onto an own row of bytes. -/
theorem wpList_appendStr_st {ops : Array Oper} {rest : List Oper} {o : Oper} {a : Act} {Q : Exit → Act → World → Prop} {n : Nat} {v : Value} {xs : List Value} (i : Nat) (S : St H0 w0 X H w ps) (hi : ps[i]? = some (own 5 1 v n xs))
    (hgd : o.guard = none) (sl x : Operand) (ho : o.op = .call { callee := .builtin .append, args := #[sl, x], argTypes := #[144, 9] }) (hs : a.eval sl = v) (s : ByteArray) (hx : a.eval x = .string s) (hn : n + s.size ≤ 140737488355328)
    (h : ∀ v' w', St H0 w0 X H w' (own 5 1 v' (n + s.size) (xs ++ Lib.strCells s) :: ps.eraseIdx i) → (v' = .slice none 0 0 ↔ v = .slice none 0 0 ∧ s.size = 0) → wpList Tryz.prog ops Q rest (a.put o.dst v') w') : wpList Tryz.prog ops Q (o :: rest) a w := by
  obtain ⟨i0, hi0, hz0, hz1, hz2⟩ := info_parts infoU8
  refine wpList_plain hgd fun K hK => ?_
  have hob := S.own_at i hi
  obtain ⟨v', w', hr, h2, h3, h4⟩ := Lib.run_append_own_string (P := Tryz.prog) w 0 144 9 o.type 5 i0 Tryz.underlying144 Tryz.underlying9 hi0 hz0 hz1 hz2 v n xs hob s (by unfold maxLen; omega) hn (Nat.zero_le _)
  have hb : v'.ownBlock = v.ownBlock ∨ v'.ownBlock = some w.heap.size := by
    rcases hob.2 with ⟨rfl, rfl⟩ | ⟨g, cap, cur, rfl, hbg, hg, hnc, hcm, hcs, htake⟩
    · by_cases hm : s.size = 0
      · exact .inl (by rw [h4.2 ⟨rfl, hm⟩])
      · have hr2 := run_append_nil_string (P := Tryz.prog) w 144 9 o.type 5 i0 (.int .u8 0) Tryz.underlying144 Tryz.underlying9 hi0 hz0 s (by omega) (by omega) (by rw [hz2]; omega)
        rw [hr] at hr2
        cases hr2
        exact .inr rfl
    · by_cases hroom : n + s.size ≤ cap
      · have hr2 := Lib.run_append_room_string (P := Tryz.prog) w 144 9 o.type 5 i0 Tryz.underlying144 Tryz.underlying9 hi0 hz1 g n cap cur hg s hroom (by omega)
        rw [hr] at hr2
        cases hr2
        exact .inl rfl
      · have holds : ∀ j u, xs[j]? = some u → w.cell? ((⟨g, 0, none⟩ : Addr).add j) = some u := hob.cells (g := g) rfl
        have hr2 := Lib.run_append_grow_string (P := Tryz.prog) w 144 9 o.type 5 i0 (.int .u8 0) Tryz.underlying144 Tryz.underlying9 hi0 hz0 ⟨g, 0, none⟩ n cap xs (by rw [hz1]; simpa using hob.1) holds s (by omega) (by omega) (by rw [hz2]; exact growslice_fits (by omega) (by omega))
        rw [hr] at hr2
        cases hr2
        exact .inr rfl
  unfold Oper.wp execOp
  simp only [ho, resolve, invoke, builtin, Sem.run_bind, Sem.run_pure, Result.andThen_ok, List.map_toArray, List.map_cons, List.map_nil, hs, hx, hr]
  exact hK _ _ (h v' w' (S.appended i hi h2 h3 hb) h4)
theorem heap_freeze_other (w : World) (g n : Nat) {k : Nat} (h : k ≠ g) : (w.freeze ⟨g, 0, none⟩ n).heap[k]? = w.heap[k]? := by
  unfold World.freeze
  split
  · rfl
  · simp only [Array.getElem?_modify]
    rw [if_neg (fun e => h e.symm)]
theorem St.froze {F : Nat → Prop} {g : Nat} (hw : Ag H w) (hF : ∀ x, F x → x < w.heap.size ∧ H x = none) (hg : F g) (n : Nat) : St H w F H (w.freeze ⟨g, 0, none⟩ n) [] := by
  have hk : ∀ k, k ≠ g → (w.freeze ⟨g, 0, none⟩ n).heap[k]? = w.heap[k]? := fun k h => heap_freeze_other w g n h
  have hs : (w.freeze ⟨g, 0, none⟩ n).heap.size = w.heap.size := by unfold World.freeze; split <;> simp
  have h3 : (w.freeze ⟨g, 0, none⟩ n).os = w.os ∧ (w.freeze ⟨g, 0, none⟩ n).tape = w.tape ∧ (w.freeze ⟨g, 0, none⟩ n).output = w.output := by unfold World.freeze; split <;> exact ⟨rfl, rfl, rfl⟩
  refine ⟨h3.1, h3.2.1, h3.2.2, by rw [hs]; exact Nat.le_refl _, fun x hx hX => hk x fun e => hX (e ▸ hg), Le.refl _, fun _ _ h => .inl h, fun x o hx => ?_, trivial⟩
  have hne : x ≠ g := fun e => by rw [e, (hF g hg).2] at hx; cases hx
  exact (hk x hne).trans (hw x o hx)
theorem szU8 : Tryz.prog.cellsOf 5 = 1 := by kernel_rfl

set_option maxRecDepth 100000 in
theorem string_st (S : St H0 w0 X H w ps) (i : Nat) (hi : ps[i]? = some (bldP T b l)) (h0 : l ≠ []) :
    Calls Tryz.prog 132 #[.pointer (some ⟨b, 0, none⟩)] w (RetS (.string ⟨l.toArray⟩) H0 H w0 X (ps.eraseIdx i)) := by
  obtain ⟨F, ⟨p, v, hFb, hbk, hp, hnil, hown, hob⟩, hF, k⟩ := S.drew.step hi
  have hl0 : l.length ≠ 0 := by simpa using h0
  obtain ⟨g, cap, cur, rfl, hbg, hg, hnc, hcm, hcs, htake⟩ : ∃ g cap cur, v = .slice (some ⟨g, 0, none⟩) l.length cap ∧ 0 ≤ g ∧ w.drew.heap[g]? = some (.cells cur 5 (0, 0)) ∧ l.length ≤ cap ∧ cap ≤ maxLen ∧ cur.size = cap * 1 ∧ cur.toList.take (l.length * 1) = Lib.byteCells l := by
    rcases hown.2 with ⟨_, hz⟩ | ⟨g, cap, cur, hv, r⟩
    · exact absurd hz hl0
    · exact ⟨g, cap, cur, hv, r⟩
  have c1 : w.drew.cell? ⟨b, 1, none⟩ = some (.slice (some ⟨g, 0, none⟩) l.length cap) := by
    rw [cell_of_row _ _ _ _ _ _ hbk]; rfl
  have hSD : (Builtin.unsafeSliceData_ #[144] 286 #[.slice (some ⟨g, 0, none⟩) l.length cap]).run Tryz.prog w.drew = .ok (.pointer (some ⟨g, 0, none⟩)) w.drew :=
    Lib.run_unsafeSliceData_row _ _ _ _ _ _ (by omega)
  have hUS : (Builtin.unsafeString_ #[286, 3] 9 #[.pointer (some ⟨g, 0, none⟩), .int .i64 l.length]).run Tryz.prog w.drew = .ok (.string ⟨l.toArray⟩) (w.drew.freeze ⟨g, 0, none⟩ l.length) := by
    refine Lib.run_unsafeString_row w.drew 286 3 9 5 Tryz.underlying286 szU8 g cur.size (by simp [World.shape?, hg]) l h0 (by omega) (by unfold maxLen at hcm; omega) ?_
    intro j x hx
    exact hown.cells (g := g) rfl j (.int .u8 x.toNat) (by simp [Lib.byteCells, hx])
  have HK := Lib.hid (k H (w.drew.freeze ⟨g, 0, none⟩ l.length) [] (St.froze S.drew.ag hF (hob g rfl).1 _))
  clear hnil hp hob hown hF k S hcs htake hg hbk
  go_enter Tryz.func132, Tryz.ntmps132
  go_wp2
  go_region
  all_goals
    go_wp2
    go_ret
    exact ⟨rfl, HK.out⟩
set_option maxRecDepth 100000 in
theorem string0_st (S : St H0 w0 X H w ps) (i : Nat) (hi : ps[i]? = some (bldP T b [])) :
    Calls Tryz.prog 132 #[.pointer (some ⟨b, 0, none⟩)] w (RetS (.string ⟨#[]⟩) H0 H w0 X (ps.eraseIdx i)) := by
  obtain ⟨F, ⟨p, v, hFb, hbk, hp, hnil, hown, hob⟩, hF, k⟩ := S.drew.step hi
  obtain rfl := hnil rfl
  have c1 : w.drew.cell? ⟨b, 1, none⟩ = some (.slice none 0 0) := by
    rw [cell_of_row _ _ _ _ _ _ hbk]; rfl
  have hSD : (Builtin.unsafeSliceData_ #[144] 286 #[.slice none 0 0]).run Tryz.prog w.drew = .ok (.pointer none) w.drew := rfl
  have hUS : (Builtin.unsafeString_ #[286, 3] 9 #[.pointer none, .int .i64 0]).run Tryz.prog w.drew = .ok (.string .empty) w.drew := Lib.run_unsafeString_none w.drew _ _ _ none
  have HK := Lib.hid ((S.drop i).drew)
  clear hnil hp hob hown hF k S hbk
  go_enter Tryz.func132, Tryz.ntmps132
  go_wp2
  go_region
  all_goals
    go_wp2
    go_ret
    exact ⟨rfl, HK.out⟩
end
end Go.Proofs.YtdnpobjokajigaaGreatDoor

namespace Go.Proofs.YtdnpobjokajigaaGreatDoor
open Go.RowKit Go.Proofs K
section
variable {H0 H : Hs} {w0 w : World} {X : Nat → Prop} {ps : List Hp} {T : TypeId} {b : Nat} {l : List UInt8}
set_option maxRecDepth 100000 in
theorem writeString_st (S : St H0 w0 X H w ps) (i : Nat) (hi : ps[i]? = some (bldP T b l)) (hT : BT T) (s : ByteArray) (hn : l.length + s.size ≤ 140737488355328) :
    Calls Tryz.prog 173 #[.pointer (some ⟨b, 0, none⟩), .string s] w (RetS (.tuple #[.int .i64 s.size, .nilIface]) H0 H w0 X (bldP T b (l ++ s.data.toList) :: ps.eraseIdx i)) := by
  obtain ⟨p, v, hp, hnil, S1⟩ := openBld S i hi
  have HS1 := Lib.hid S1
  have HP := Lib.hid hp
  have HN := Lib.hid hnil
  clear S S1 hp hnil
  go_enter Tryz.func173, Tryz.ntmps173
  go_wp2_with fail
  refine (copyCheck_st HS1.out 0 rfl HP.out hT).mono ?_
  rintro e w1 ⟨rfl, S2⟩
  have HS2 := Lib.hid S2
  have c1 : w1.cell? ⟨b, 1, none⟩ = some v := S2.cell 0 rfl rfl
  clear HS1 S2
  go_wp2_with (first
    | (at_builtin; refine wpList_appendStr_st 1 HS2.out rfl rfl _ _ rfl rfl s rfl (by rw [Nat.add_comm]; omega) ?_)
    | fail)
  intro v' w2 S3 hiff
  obtain ⟨ao, n', cap, rfl⟩ : ∃ ao n' cap, v' = .slice ao n' cap := by
    rcases (S3.own_at 0 rfl).2 with ⟨hv, _⟩ | ⟨g, cap, cur, hv, _⟩
    · exact ⟨_, _, _, hv⟩
    · exact ⟨_, _, _, hv⟩
  have HS3 := Lib.hid S3
  have HI := Lib.hid hiff
  have d1 : w2.cell? ⟨b, 1, none⟩ = some v := S3.cell 1 rfl rfl
  have f1 : w2.frozen? ⟨b, 1, none⟩ = false := S3.frozen 1 rfl 1
  clear S3 hiff HS2
  go_wp2_with fail
  go_ret2
  refine ⟨rfl, ?_⟩
  have S4 := (HS3.out.setCell (j := 1) 1 rfl (.slice ao n' cap))
  refine shutBld (p := .pointer (some ⟨b, 0, none⟩)) (v := .slice ao n' cap) ?_ (.inr rfl) ?_
  · simpa [Lib.byteCells_append, Lib.strCells_eq] using S4
  · intro e
    have e1 := List.append_eq_nil_iff.1 e
    exact HI.out.2 ⟨HN.out e1.1, by simpa using congrArg List.length e1.2⟩
theorem len_st (S : St H0 w0 X H w ps) (i : Nat) (hi : ps[i]? = some (bldP T b l)) :
    Calls Tryz.prog 175 #[.pointer (some ⟨b, 0, none⟩)] w (RetS (.int .i64 l.length) H0 H w0 X (bldP T b l :: ps.eraseIdx i)) := by
  obtain ⟨p, v, hp, hnil, S1⟩ := openBld S i hi
  obtain ⟨ao, cap, rfl⟩ : ∃ ao cap, v = .slice ao l.length cap := by
    rcases (S1.own_at 1 rfl).2 with ⟨hv, h0⟩ | ⟨g, cap, cur, hv, _⟩
    · exact ⟨none, 0, by rw [h0]; exact hv⟩
    · exact ⟨_, _, hv⟩
  have c1 : w.cell? ⟨b, 1, none⟩ = some (.slice ao l.length cap) := S1.cell 0 rfl rfl
  have HS := Lib.hid (S.pick i hi)
  clear S S1 hnil hp
  go_enter Tryz.func175, Tryz.ntmps175
  go_wp2
  go_ret
  exact ⟨rfl, HS.out⟩

end
end Go.Proofs.YtdnpobjokajigaaGreatDoor

namespace Go.Proofs.YtdnpobjokajigaaGreatDoor
open Go.RowKit Go.Proofs K

theorem numL_len (n : Int) : (numL n).length ≤ 8 := by
  unfold numL Lib.trimLeftB
  exact Nat.le_trans (List.dropWhile_sublist _).length_le (by simp [nbS, strOfNums, nbL])
/-- What stands ahead of n bytes. -/
def aheadL (base n : Nat) : List UInt8 := if n ≤ 55 then [UInt8.ofNat (base + n)] else UInt8.ofNat (base + 55 + (numL (n : Int)).length) :: numL (n : Int)
def aheadS (base n : Nat) : ByteArray := ⟨(aheadL base n).toArray⟩

theorem bytes_ext {a b : ByteArray} (h : a.data.toList = b.data.toList) : a = b := ByteArray.ext (Array.toList_inj.1 h)
theorem data_append (a b : ByteArray) : (a ++ b).data.toList = a.data.toList ++ b.data.toList := by
  rw [ByteArray.data_append, Array.toList_append]
theorem data_mk (l : List UInt8) : (⟨l.toArray⟩ : ByteArray).data.toList = l := rfl
theorem cat_one (x : Int) (n : Int) : strOfNums [x] ++ numS n = ⟨(UInt8.ofNat x.toNat :: numL n).toArray⟩ := bytes_ext (by rw [data_append]; rfl)
set_option maxRecDepth 100000 in
theorem ahead_any (base n : Nat) (hb : base ≤ 192) (hn : n ≤ 140737488355328) (w : World) : Calls Tryz.prog 174 #[.int .u8 base, .int .i64 n] w (RetV (.string (aheadS base n)) w) := by
  by_cases h : n ≤ 55
  · have hconv := run_convert_bytes_arg (w.alloc (.cells #[.int .u8 ((base : Int) + n)] 5)) 144 5 Tryz.underlying144 Tryz.underlying5 w.heap.size 0 1 1 [(base : Int) + n] rfl (fun i hi => by
      rw [cell_of_row _ _ _ _ _ _ (heap_alloc_new w _)]
      obtain rfl : i = 0 := by omega
      rfl) 9 Tryz.underlying9
    go_enter Tryz.func174, Tryz.ntmps174
    go_wp2
    go_ret
    refine ⟨?_, (Below.refl _ _).alloc (Nat.le_refl _) _⟩
    rw [aheadS, aheadL, if_pos h]
    rfl
  · go_enter Tryz.func174, Tryz.ntmps174
    go_wp2_with fail
    refine (number_any _ _).mono ?_
    rintro e w1 ⟨rfl, hb1⟩
    have hl := numL_len (n : Int)
    have hsz : (numS (n : Int)).size = (numL (n : Int)).length := by simp [numS, ByteArray.size]
    have hs8 : (numS (n : Int)).size ≤ 8 := by omega
    have hconv := run_convert_bytes_arg (w1.alloc (.cells #[.int .u8 ((base : Int) + 55 + (numS (n : Int)).size)] 5)) 144 5 Tryz.underlying144 Tryz.underlying5 w1.heap.size 0 1 1 [(base : Int) + 55 + (numS (n : Int)).size] rfl (fun i hi => by
      rw [cell_of_row _ _ _ _ _ _ (heap_alloc_new w1 _)]
      obtain rfl : i = 0 := by omega
      rfl) 9 Tryz.underlying9
    have hcat : (strOfNums [(base : Int) + 55 + (numS (n : Int)).size]).size + (numS (n : Int)).size ≤ 9223372036854775807 := by rw [strOfNums_size]; simp; omega
    have HZ := Lib.hid hsz
    clear hsz
    go_wp2_with fail
    go_ret
    refine ⟨?_, hb1.alloc hb1.size _⟩
    rw [HZ.out, cat_one, aheadS, aheadL, if_neg h]
    congr 6

/-- An item: a text, or a list. -/
inductive It where
  | text (s : ByteArray)
  | list (l : List It)
mutual
def It.d : It → List D
  | .text s => [.v (.bool false), .v (.string s), .sl 3 0 []]
  | .list l => [.v (.bool true), .v (.string ⟨#[]⟩), .sl 3 l.length (itsD l)]
def itsD : List It → List D
  | [] => []
  | i :: l => i.d ++ itsD l
end
theorem It.d_length (i : It) : i.d.length = 3 := by cases i <;> simp [It.d]
theorem itsD_flat : ∀ l : List It, itsD l = l.flatMap It.d
  | [] => by simp [itsD]
  | i :: l => by rw [itsD, List.flatMap_cons, itsD_flat l]
theorem itsD_length (l : List It) : (itsD l).length = l.length * 3 := by rw [itsD_flat, flat_length It.d_length]
/-- Its bytes. -/
def textL (s : ByteArray) : List UInt8 := match s.data.toList with | [c] => if c < 128 then [c] else aheadL 128 1 ++ [c] | l => aheadL 128 l.length ++ l
mutual
def It.enc : It → List UInt8
  | .text s => textL s
  | .list l => aheadL 192 (encL l).length ++ encL l
def encL : List It → List UInt8
  | [] => []
  | i :: l => i.enc ++ encL l
end
theorem encL_flat : ∀ l : List It, encL l = l.flatMap It.enc
  | [] => by simp [encL]
  | i :: l => by rw [encL, List.flatMap_cons, encL_flat l]
theorem encL_take (l : List It) {k : Nat} (h : k < l.length) : encL (l.take (k + 1)) = encL (l.take k) ++ l[k].enc := by
  rw [encL_flat, encL_flat, List.take_succ_eq_append_getElem h, List.flatMap_append]
  simp
theorem encL_take_le (l : List It) (k : Nat) : (encL (l.take k)).length ≤ (encL l).length := by
  have h : encL l = encL (l.take k) ++ encL (l.drop k) := by rw [encL_flat, encL_flat, encL_flat, ← List.flatMap_append, List.take_append_drop]
  rw [h, List.length_append]
  omega
/-- What a list's k-th is, in memory. -/
theorem its_at {H : Hs} {cs : List Value} {l : List It} (h : RepL H cs (itsD l)) {k : Nat} (hk : k < l.length) : ∃ x y z, cs[k * 3]? = some x ∧ cs[k * 3 + 1]? = some y ∧ cs[k * 3 + 2]? = some z ∧ RepL H [x, y, z] l[k].d := by
  rw [itsD_flat] at h
  have g : ∀ {j : Nat} {d : D}, l[k].d[j]? = some d → ∃ x, cs[k * 3 + j]? = some x ∧ RepV H x d := fun {j d} hd => h.get (by
    rw [flat_get It.d_length (List.getElem?_eq_getElem hk) (by have := (List.getElem?_eq_some_iff.1 hd).1; rw [It.d_length] at this; exact this)]
    exact hd)
  obtain ⟨d0, d1, d2, hd⟩ : ∃ d0 d1 d2, l[k].d = [d0, d1, d2] := by
    cases l[k] with
    | text s => exact ⟨_, _, _, rfl⟩
    | list l => exact ⟨_, _, _, rfl⟩
  rw [hd] at g ⊢
  obtain ⟨x, hx, rx⟩ := g (j := 0) rfl
  obtain ⟨y, hy, ry⟩ := g (j := 1) rfl
  obtain ⟨z, hz, rz⟩ := g (j := 2) rfl
  exact ⟨x, y, z, hx, hy, hz, .cons rx (.cons ry (.cons rz .nil))⟩

theorem it_cells {H : Hs} {x y z : Value} : ∀ {i : It}, RepL H [x, y, z] i.d → ∃ p s A n c, x = .bool p ∧ y = .string s ∧ z = .slice A n c
  | .text s, h => by
    obtain ⟨_, e, h⟩ := RepL.pl_inv h
    cases e
    obtain ⟨_, e, h⟩ := RepL.pl_inv h
    cases e
    obtain ⟨_, _, e, h, _⟩ := h.cons_inv
    cases e
    obtain ⟨A, c, _, rfl, _⟩ := h.sl_inv
    exact ⟨_, _, _, _, _, rfl, rfl, rfl⟩
  | .list l, h => by
    obtain ⟨_, e, h⟩ := RepL.pl_inv h
    cases e
    obtain ⟨_, e, h⟩ := RepL.pl_inv h
    cases e
    obtain ⟨_, _, e, h, _⟩ := h.cons_inv
    cases e
    obtain ⟨A, c, _, rfl, _⟩ := h.sl_inv
    exact ⟨_, _, _, _, _, rfl, rfl, rfl⟩
/-- Writing an item puts its bytes behind what a builder holds. -/
def ItemOk (i : It) : Prop := ∀ (H0 H : Hs) (w0 w : World) (X : Nat → Prop) (ps : List Hp) (T : TypeId) (b : Nat) (acc : List UInt8) (j : Nat) (x y z : Value), St H0 w0 X H w ps → ps[j]? = some (bldP T b acc) → BT T → RepL H [x, y, z] i.d → acc.length + i.enc.length ≤ 1099511627776 →
  Calls Tryz.prog 131 #[.pointer (some ⟨b, 0, none⟩), .agg #[x, y, z]] w (RetS (.tuple #[]) H0 H w0 X (bldP T b (acc ++ i.enc) :: ps.eraseIdx j))

set_option maxRecDepth 100000 in
theorem each_st (l : List It) (hall : ∀ i ∈ l, ItemOk i) {H0 H : Hs} {w0 w : World} {X : Nat → Prop} {ps : List Hp} {T : TypeId} {b : Nat} {acc : List UInt8} (S : St H0 w0 X H w ps) (j : Nat) (hj : ps[j]? = some (bldP T b acc)) (hT : BT T) (v : Value) (hv : RepV H v (.sl 3 l.length (itsD l))) (hl : l.length ≤ 1099511627776) (hn : acc.length + (encL l).length ≤ 1099511627776) :
    Calls Tryz.prog 172 #[v, .func (.func 131) #[.pointer (some ⟨b, 0, none⟩)] #[]] w (RetS (.tuple #[]) H0 H w0 X (bldP T b (acc ++ encL l) :: ps.eraseIdx j)) := by
  obtain ⟨A, c, cs, rfl, hnc, hA, hlen, hr, hd⟩ := hv.sl_inv
  have HS := Lib.hid (S.pick j hj)
  have HR := Lib.hid hr
  have HD := Lib.hid hd
  have HALL := Lib.hid hall
  have HT := Lib.hid hT
  clear S hv hr hd hlen hall hA hT
  go_enter Tryz.func172, Tryz.ntmps172
  go_wp2_with fail
  go_loopw [8] (fun i wr => ∃ k : Nat, i = .int .i64 k ∧ k ≤ l.length ∧ Hid (St H0 w0 X H wr (bldP T b (acc ++ encL (l.take k)) :: ps.eraseIdx j))) (fun i _ => l.length - (intOf i).toNat)
  case atStart => exact ⟨0, rfl, by omega, by simpa [encL] using HS⟩
  case round =>
    clear HS
    obtain ⟨k, rfl, hk, HS⟩ := hrel
    by_cases hlt : k < l.length
    · obtain ⟨x, y, z, hx, hy, hz, hxyz⟩ := its_at HD.out hlt
      obtain ⟨p, s, A', n', c', rfl, rfl, rfl⟩ := it_cells hxyz
      have HX := Lib.hid hxyz
      clear hxyz
      obtain ⟨b0, o, rfl, hb0, hcell⟩ := HR.out.cells HS.out.ag (by rintro rfl; simp at hx)
      have h0 := hcell _ _ hx
      have h1 := hcell _ _ hy
      have h2 := hcell _ _ hz
      rw [← Nat.add_assoc] at h1 h2
      clear hcell hx hy hz
      have HS1 := Lib.hid (HS.out.alloc (.cells #[.bool p, .string s, .slice A' n' c'] 123))
      have hle := encL_take_le l (k + 1)
      have he := encL_take l hlt
      have hb1 : (acc ++ encL (l.take k)).length + l[k].enc.length ≤ 1099511627776 := by
        rw [he, List.length_append] at hle
        rw [List.length_append]
        omega
      have HE := Lib.hid he
      clear he HS
      go_wp2_with fail
      refine (HALL.out _ (List.getElem_mem hlt) H0 H w0 _ X _ T b _ 1 _ _ _ HS1.out rfl HT.out HX.out hb1).mono ?_
      rintro e w2 ⟨rfl, S2⟩
      have HS2 := Lib.hid (S2.drop 1)
      clear S2 HS1
      go_wp2_with fail
      go_roundw
      case rel => exact ⟨k + 1, by go_num, by omega, by rw [HE.out, ← List.append_assoc]; exact HS2⟩
      case measure => simp [intOf]; omega
    · obtain rfl : k = l.length := by omega
      go_wp2_with fail
      go_end0
      rw [List.take_length] at HS
      exact ⟨rfl, HS.out⟩
end Go.Proofs.YtdnpobjokajigaaGreatDoor

namespace Go.Proofs.YtdnpobjokajigaaGreatDoor
open Go.RowKit Go.Proofs K

theorem text_cells {H : Hs} {x y z : Value} {s : ByteArray} (h : RepL H [x, y, z] (It.text s).d) : ∃ A c, x = .bool false ∧ y = .string s ∧ z = .slice A 0 c := by
  obtain ⟨_, e, h⟩ := RepL.pl_inv h
  cases e
  obtain ⟨_, e, h⟩ := RepL.pl_inv h
  cases e
  obtain ⟨_, _, e, h, _⟩ := h.cons_inv
  cases e
  obtain ⟨A, c, _, rfl, _⟩ := h.sl_inv
  exact ⟨A, c, rfl, rfl, rfl⟩
theorem list_cells {H : Hs} {x y z : Value} {l : List It} (h : RepL H [x, y, z] (It.list l).d) : ∃ A c, x = .bool true ∧ y = .string ⟨#[]⟩ ∧ z = .slice A l.length c ∧ RepV H (.slice A l.length c) (.sl 3 l.length (itsD l)) := by
  obtain ⟨_, e, h⟩ := RepL.pl_inv h
  cases e
  obtain ⟨_, e, h⟩ := RepL.pl_inv h
  cases e
  obtain ⟨_, _, e, h, _⟩ := h.cons_inv
  cases e
  obtain ⟨A, c, _, rfl, _⟩ := h.sl_inv
  exact ⟨A, c, rfl, rfl, rfl, h⟩
/-- The two ways of a text. -/
theorem textL_one {s : ByteArray} (h : s.size = 1) (h2 : s[0].toNat < 128) : textL s = s.data.toList := by
  obtain ⟨⟨l⟩⟩ := s
  match l, h with
  | [c], _ => 
    have : c < 128 := h2
    simp [textL, this]
theorem textL_big {s : ByteArray} (h : s.size = 1) (h2 : ¬ s[0].toNat < 128) : textL s = aheadL 128 1 ++ s.data.toList := by
  obtain ⟨⟨l⟩⟩ := s
  match l, h with
  | [c], _ => 
    have : ¬ c < 128 := h2
    simp [textL, this]
theorem textL_other {s : ByteArray} (h : s.size ≠ 1) : textL s = aheadL 128 s.size ++ s.data.toList := by
  obtain ⟨⟨l⟩⟩ := s
  match l, h with
  | [], _ => rfl
  | [c], h => exact absurd rfl h
  | a :: b :: l, _ => rfl
theorem aheadL_len (base n : Nat) : (aheadL base n).length ≤ 9 := by
  unfold aheadL
  split
  · simp
  · have := numL_len (n : Int)
    simp
    omega
theorem aheadS_size (base n : Nat) : (aheadS base n).size = (aheadL base n).length := by simp [aheadS, ByteArray.size]

theorem writeString_h {H0 H : Hs} {w0 w : World} {X : Nat → Prop} {ps : List Hp} {T : TypeId} {b : Nat} {l : List UInt8} {q : Hp} (S : St H0 w0 X H w (q :: ps)) (j : Nat) (hj : ps[j]? = some (bldP T b l)) (hT : BT T) (s : ByteArray) (hn : l.length + s.size ≤ 140737488355328) :
    Calls Tryz.prog 173 #[.pointer (some ⟨b, 0, none⟩), .string s] w (RetS (.tuple #[.int .i64 s.size, .nilIface]) H0 H w0 X (q :: bldP T b (l ++ s.data.toList) :: ps.eraseIdx j)) := by
  refine (writeString_st S (j + 1) (by simpa using hj) hT s hn).mono ?_
  rintro e w' ⟨he, S2⟩
  refine ⟨he, ?_⟩
  rw [List.eraseIdx_cons_succ] at S2
  exact S2.pick 1 rfl
theorem ahead128 (n : Nat) (hn : n ≤ 140737488355328) (w : World) : Calls Tryz.prog 174 #[.int .u8 128, .int .i64 n] w (RetV (.string (aheadS 128 n)) w) := ahead_any 128 n (by decide) hn w
theorem ahead192 (n : Nat) (hn : n ≤ 140737488355328) (w : World) : Calls Tryz.prog 174 #[.int .u8 192, .int .i64 n] w (RetV (.string (aheadS 192 n)) w) := ahead_any 192 n (by decide) hn w
set_option maxRecDepth 100000 in
theorem item_one (s : ByteArray) (h1 : s.size = 1) (h2 : s[0].toNat < 128) : ItemOk (.text s) := by
  intro H0 H w0 w X ps T b acc j x y z S hj hT h hn
  obtain ⟨A, c, rfl, rfl, rfl⟩ := text_cells h
  have HS1 := Lib.hid (S.alloc (.cells #[.bool false, .string s, .slice A 0 c] 123))
  have HJ := Lib.hid hj
  have HT := Lib.hid hT
  have HN := Lib.hid hn
  clear S h hj hT hn
  have h0 : 0 < s.size := by omega
  have HTX := Lib.hid (textL_one h1 h2)
  have h3 : (s[0].toNat : Int) < 128 := by omega
  have HN2 : Hid (acc.length + s.size ≤ 140737488355328) := by have := HN.out; unfold Hid; omega
  go_enter Tryz.func131, Tryz.ntmps131
  go_wp2_with fail
  go_region_with (go_at_call 173; refine (writeString_st (HS1.out.drew) (j + 1) HJ.out HT.out s HN2.out).mono ?_; rintro e w2 ⟨rfl, S2⟩)
  all_goals
    go_wp2_with fail
    go_end0
    exact ⟨rfl, by have := S2.drop 1; unfold It.enc; rw [HTX.out]; exact this⟩
/-- A text that has a head. -/
def headed (s : ByteArray) (p : Bool) : Prop := (p = true ∧ s.size = 1 ∧ ∃ h : 0 < s.size, ¬ s[0].toNat < 128) ∨ (p = false ∧ s.size ≠ 1)
theorem textL_head {s : ByteArray} (h : s.size ≠ 1 ∨ ∃ h : 0 < s.size, ¬ s[0].toNat < 128) : textL s = aheadL 128 s.size ++ s.data.toList := by
  by_cases h1 : s.size = 1
  · rcases h with h | ⟨h0, h⟩
    · exact absurd h1 h
    · rw [textL_big h1 h, h1]
  · exact textL_other h1
set_option maxRecDepth 100000 in
theorem item_head (s : ByteArray) (hh : s.size ≠ 1 ∨ ∃ h : 0 < s.size, ¬ s[0].toNat < 128) : ItemOk (.text s) := by
  intro H0 H w0 w X ps T b acc j x y z S hj hT h hn
  obtain ⟨A, c, rfl, rfl, rfl⟩ := text_cells h
  have HS1 := Lib.hid (S.alloc (.cells #[.bool false, .string s, .slice A 0 c] 123))
  have HJ := Lib.hid hj
  have HT := Lib.hid hT
  have HN := Lib.hid hn
  clear S h hj hT hn
  have HTX := Lib.hid (textL_head hh)
  have hsz : s.size ≤ 1099511627776 := by
    have := HN.out
    unfold It.enc at this
    rw [HTX.out, List.length_append] at this
    simp at this
    omega
  have HN2 : Hid (acc.length + (aheadS 128 s.size ++ s).size ≤ 140737488355328) := by
    have := HN.out
    have h5 := aheadL_len 128 s.size
    have h6 := aheadS_size 128 s.size
    unfold Hid
    rw [ByteArray.size_append]
    omega
  have hcat : (aheadS 128 s.size).size + s.size ≤ 9223372036854775807 := by
    have h5 := aheadL_len 128 s.size
    have h6 := aheadS_size 128 s.size
    omega
  have hs47 : s.size ≤ 140737488355328 := by omega
  have hcatF : (9223372036854775807 < (aheadS 128 s.size).size + s.size) = False := eq_false (by omega)
  by_cases h1 : s.size = 1
  · obtain ⟨h0, h2⟩ : ∃ h : 0 < s.size, ¬ s[0].toNat < 128 := hh.resolve_left (fun h => h h1)
    have h3 : ¬ (s[0].toNat : Int) < 128 := by omega
    have h4 : ((s.size : Int) == 1) = true := by rw [beq_iff_eq]; omega
    clear hh h1
    go_enter Tryz.func131, Tryz.ntmps131
    go_wp2_with fail
    have hc0 : (w.alloc (.cells #[.bool false, .string s, .slice A 0 c] 123)).drew.cell? ⟨w.heap.size, 1, none⟩ = some (.string s) := HS1.out.drew.cell 0 rfl rfl
    go_region_held3 (fun w' => w'.cell? ⟨w.heap.size, 1, none⟩ = some (.string s)) (first | assumption | go_keep) (first
      | (go_at_call 174; refine (ahead128 s.size hs47 _).mono ?_; rintro e w1 ⟨rfl, hb1⟩; have hc1 : w1.cell? ⟨w.heap.size, 1, none⟩ = some (.string s) := (HS1.out.drew.grow hb1).cell 0 rfl rfl)
      | (go_at_call 173; refine (writeString_h (HS1.out.drew.grow hb1) j HJ.out HT.out (aheadS 128 s.size ++ s) HN2.out).mono ?_; rintro e w2 ⟨rfl, S2⟩; have hbk := S2.blk_at 0 rfl; have hc2 : w2.cell? ⟨w.heap.size, 1, none⟩ = some (.string s) := by rw [cell_of_row _ _ _ _ _ _ hbk]; rfl))
    all_goals
      go_wp2_with fail
      go_end0
      refine ⟨rfl, ?_⟩
      have := S2.drop 0
      unfold It.enc
      rw [data_append] at this
      rw [HTX.out]
      exact this
  · clear hh
    have h3 : ¬ (s.size : Int) = 1 := by omega
    go_enter Tryz.func131, Tryz.ntmps131
    go_wp2_with fail
    have hc0 : (w.alloc (.cells #[.bool false, .string s, .slice A 0 c] 123)).drew.cell? ⟨w.heap.size, 1, none⟩ = some (.string s) := HS1.out.drew.cell 0 rfl rfl
    go_region_held3 (fun w' => w'.cell? ⟨w.heap.size, 1, none⟩ = some (.string s)) (first | assumption | go_keep) (first
      | (go_at_call 174; refine (ahead128 s.size hs47 _).mono ?_; rintro e w1 ⟨rfl, hb1⟩; have hc1 : w1.cell? ⟨w.heap.size, 1, none⟩ = some (.string s) := (HS1.out.drew.grow hb1).cell 0 rfl rfl)
      | (go_at_call 173; refine (writeString_h (HS1.out.drew.grow hb1) j HJ.out HT.out (aheadS 128 s.size ++ s) HN2.out).mono ?_; rintro e w2 ⟨rfl, S2⟩; have hbk := S2.blk_at 0 rfl; have hc2 : w2.cell? ⟨w.heap.size, 1, none⟩ = some (.string s) := by rw [cell_of_row _ _ _ _ _ _ hbk]; rfl))
    all_goals
      go_wp2_with fail
      go_end0
      refine ⟨rfl, ?_⟩
      have := S2.drop 0
      unfold It.enc
      rw [data_append] at this
      rw [HTX.out]
      exact this
end Go.Proofs.YtdnpobjokajigaaGreatDoor

namespace Go.Proofs.YtdnpobjokajigaaGreatDoor
open Go.RowKit Go.Proofs K

theorem bt_writer : BT 243 := by unfold BT; kernel_rfl
theorem string_any {H0 H : Hs} {w0 w : World} {X : Nat → Prop} {ps : List Hp} {T : TypeId} {b : Nat} {l : List UInt8} (S : St H0 w0 X H w ps) (i : Nat) (hi : ps[i]? = some (bldP T b l)) :
    Calls Tryz.prog 132 #[.pointer (some ⟨b, 0, none⟩)] w (RetS (.string ⟨l.toArray⟩) H0 H w0 X (ps.eraseIdx i)) := by
  by_cases h : l = []
  · subst h
    exact string0_st S i hi
  · exact string_st S i hi h
theorem cat_two (base n : Nat) (l : List UInt8) : (aheadS base n ++ (⟨l.toArray⟩ : ByteArray)).data.toList = aheadL base n ++ l := by rw [data_append]; rfl

set_option maxRecDepth 100000 in
theorem item_list (l : List It) (hall : ∀ i ∈ l, ItemOk i) (hl : l.length ≤ 1099511627776) : ItemOk (.list l) := by
  intro H0 H w0 w X ps T b acc j x y z S hj hT h hn
  obtain ⟨A, c, rfl, rfl, rfl, hz⟩ := list_cells h
  have HS1 := Lib.hid (S.alloc (.cells #[.bool true, .string ⟨#[]⟩, .slice A l.length c] 123))
  have hn2 : (aheadL 192 (encL l).length).length + (encL l).length + acc.length ≤ 1099511627776 := by
    unfold It.enc at hn
    rw [List.length_append] at hn
    omega
  have h9 := aheadL_len 192 (encL l).length
  have h91 := aheadS_size 192 (encL l).length
  have hsz : (⟨(encL l).toArray⟩ : ByteArray).size = (encL l).length := by simp [ByteArray.size]
  have HN2 : Hid (acc.length + (aheadS 192 (encL l).length ++ (⟨(encL l).toArray⟩ : ByteArray)).size ≤ 140737488355328) := by
    unfold Hid
    rw [ByteArray.size_append]
    omega
  have hcat : (aheadS 192 (encL l).length).size + (⟨(encL l).toArray⟩ : ByteArray).size ≤ 9223372036854775807 := by omega
  have hlen : (encL l).length ≤ 140737488355328 := by omega
  have hcat2 : (aheadS 192 (encL l).length).size + (encL l).length ≤ 9223372036854775807 := by omega
  have HLE : Hid (([] : List UInt8).length + (encL l).length ≤ 1099511627776) := by unfold Hid; simp; omega
  have HI : Hid (St H (w.alloc (.cells #[.bool true, .string ⟨#[]⟩, .slice A l.length c] 123)) none_ H ((w.alloc (.cells #[.bool true, .string ⟨#[]⟩, .slice A l.length c] 123)).alloc (.cells #[.pointer none, .slice none 0 0] 243)) [bldP 243 (w.heap.size + 1) []]) := by
    have := newBld (St.start HS1.out.ag) 243
    rw [World.size_alloc] at this
    exact this
  have HJ := Lib.hid hj
  have HT := Lib.hid hT
  have HN := Lib.hid hn
  have HALL := Lib.hid hall
  have HZ := Lib.hid hz
  clear S h hj hT hn hall hz hsz h91 hn2
  go_enter Tryz.func131, Tryz.ntmps131
  go_wp2_with fail
  refine (each_st l HALL.out HI.out 0 rfl bt_writer _ HZ.out hl HLE.out).mono ?_
  rintro e w2 ⟨rfl, S2⟩
  have HS2 : Hid (St H (w.alloc (.cells #[.bool true, .string ⟨#[]⟩, .slice A l.length c] 123)) none_ H w2 [bldP 243 (w.heap.size + 1) (encL l)]) := S2
  clear S2 HI
  go_wp2_with fail
  go_region_with (first
    | (go_at_call 175; refine (len_st (HS2.out.drew) 0 rfl).mono ?_; rintro e w3 ⟨rfl, S3⟩)
    | (go_at_call 174; refine (ahead192 _ hlen _).mono ?_; rintro e w4 ⟨rfl, hb4⟩)
    | (go_at_call 132; refine (string_any (S3.grow hb4) 0 rfl).mono ?_; rintro e w5 ⟨rfl, S5⟩)
    | (go_at_call 173; refine (writeString_h (HS1.out.more S5) j HJ.out HT.out (aheadS 192 (encL l).length ++ (⟨(encL l).toArray⟩ : ByteArray)) HN2.out).mono ?_; rintro e w6 ⟨rfl, S6⟩))
  all_goals
    go_wp2_with fail
    go_end0
    refine ⟨rfl, ?_⟩
    have := S6.drop 0
    unfold It.enc
    rw [cat_two] at this
    exact this

mutual
/-- An item of which each list is short. -/
def It.short : It → Prop
  | .text _ => True
  | .list l => l.length ≤ 1099511627776 ∧ shortL l
def shortL : List It → Prop
  | [] => True
  | i :: l => i.short ∧ shortL l
end
mutual
theorem item_ok : ∀ i : It, i.short → ItemOk i
  | .text s, _ => by
    by_cases h : s.size = 1 ∧ ∃ h : 0 < s.size, s[0].toNat < 128
    · exact item_one s h.1 h.2.2
    · refine item_head s ?_
      by_cases h1 : s.size = 1
      · have h0 : 0 < s.size := by omega
        exact .inr ⟨h0, fun h2 => h ⟨h1, h0, h2⟩⟩
      · exact .inl h1
  | .list l, h => item_list l (items_ok l h.2) h.1
theorem items_ok : ∀ l : List It, shortL l → ∀ i ∈ l, ItemOk i
  | [], _, i, hi => by simp at hi
  | x :: l, h, i, hi => by
    rcases List.mem_cons.1 hi with e | hi
    · rw [e]; exact item_ok x h.1
    · exact items_ok l h.2 i hi
end

theorem enc_ne (i : It) : i.enc ≠ [] := by
  have ha : ∀ b n, aheadL b n ≠ [] := fun b n => by unfold aheadL; split <;> simp
  cases i with
  | text s =>
    unfold It.enc
    unfold textL
    split
    · split
      · simp
      · simp [ha]
    · simp [ha]
  | list l => unfold It.enc; simp [ha]
def It.bytes (i : It) : ByteArray := ⟨i.enc.toArray⟩
set_option maxRecDepth 100000 in
theorem encode_any (i : It) (hs : i.short) (hn : i.enc.length ≤ 1099511627776) {H : Hs} {w : World} (hw : Ag H w) (x y z : Value) (h : RepL H [x, y, z] i.d) :
    Calls Tryz.prog 67 #[.agg #[x, y, z]] w (RetV (.string i.bytes) w) := by
  obtain ⟨p, s, A, n, c, rfl, rfl, rfl⟩ := it_cells h
  have HI : Hid (St H w none_ H ((w.alloc (.cells #[.bool p, .string s, .slice A n c] 123)).alloc (.cells #[.pointer none, .slice none 0 0] 243)) [bldP 243 (w.heap.size + 1) [], blk w.heap.size (.cells #[.bool p, .string s, .slice A n c] 123)]) := by
    have := newBld ((St.start hw).alloc (.cells #[.bool p, .string s, .slice A n c] 123)) 243
    rw [World.size_alloc] at this
    exact this
  have HH := Lib.hid h
  have HOK := Lib.hid (item_ok i hs)
  have HN : Hid (([] : List UInt8).length + i.enc.length ≤ 1099511627776) := by unfold Hid; simp; omega
  clear h hs hn hw
  go_enter Tryz.func67, Tryz.ntmps67
  go_wp2_with fail
  refine (HOK.out H H w _ none_ _ _ _ _ 0 _ _ _ HI.out rfl bt_writer HH.out HN.out).mono ?_
  rintro e w2 ⟨rfl, S2⟩
  have HS2 := Lib.hid S2
  clear S2 HI
  go_wp2_with fail
  refine (string_any HS2.out 0 rfl).mono ?_
  rintro e w3 ⟨rfl, S3⟩
  have HB := Lib.hid S3.below
  clear S3 HS2
  go_wp2_with fail
  go_ret
  exact ⟨rfl, HB.out⟩
end Go.Proofs.YtdnpobjokajigaaGreatDoor
