/-
  Builders: what they hold; WriteString, WriteByte, Len, String.
-/
import Derived.Test.YtfphlkkhpccpnabDoorProg
import Derived.Test.YtfphlkkhpccpnabDoorK
import Derived.KernelRfl
import Derived.Outline
import Derived.Lib.Builder
import Derived.Lib.AppendStr
import Derived.Lib.UnsafeStr
import Derived.RegionTactic
import Derived.BigRegion
import Derived.Laws.Externs
namespace Go.Proofs.YtfphlkkhpccpnabDoor
open Go.RowKit Go.Proofs K

/-- A type whose variables may be builders. -/
def BT (T : TypeId) : Prop := liesAt Tryd.prog Tryd.prog.depth T (2 / Tryd.prog.cellsOf T) 0 59 1 = true
theorem bt_builder : BT 59 := by unfold BT; kernel_rfl
theorem szBuilder : (Tryd.prog.info? 59).map (·.size) = some 2 := by kernel_rfl
/-- What a builder's first cell holds. -/
def selfP (b : Nat) (p : Value) : Prop := p = .pointer none ∨ p = .pointer (some ⟨b, 0, none⟩)
/-- A builder in block b, and the bytes that it holds. -/
def bldP (T : TypeId) (b : Nat) (l : List UInt8) : Hp :=
  ⟨fun F w => ∃ p v, F b ∧ w.heap[b]? = some (.cells #[p, v] T (0, 0)) ∧ selfP b p ∧ (l = [] → v = .slice none 0 0) ∧ w.ownsRow 0 5 1 v l.length (Lib.byteCells l) ∧ ∀ k, v.ownBlock = some k → F k ∧ k ≠ b,
    fun {F _ _} h ⟨p, v, hb, hc, hp, hn, ho, hk⟩ => ⟨p, v, hb, (h b hb).trans hc, hp, hn, ((own 5 1 v l.length (Lib.byteCells l)).loc (F := F) h ⟨ho, fun k e => (hk k e).1⟩).1, hk⟩⟩
section
variable {H0 H : Hs} {w0 w : World} {X : Nat → Prop} {ps : List Hp} {T : TypeId} {b : Nat} {l : List UInt8}
theorem openBld (h : St H0 w0 X H w ps) (i : Nat) (hi : ps[i]? = some (bldP T b l)) : ∃ p v, selfP b p ∧ (l = [] → v = .slice none 0 0) ∧ St H0 w0 X H w (blk b (.cells #[p, v] T) :: own 5 1 v l.length (Lib.byteCells l) :: ps.eraseIdx i) := by
  obtain ⟨F, ⟨p, v, hb, hc, hp, hn, ho, hk⟩, _, _⟩ := h.step hi
  refine ⟨p, v, hp, hn, h.split i hi fun F' ⟨p', v', hb', hc', hp', hn', ho', hk'⟩ => ?_⟩
  obtain ⟨rfl, rfl⟩ : p = p' ∧ v = v' := by
    rw [hc] at hc'
    simpa using hc'
  exact ⟨fun x => x = b, fun x => v.ownBlock = some x, ⟨rfl, hc⟩, ⟨ho', fun _ e => e⟩, fun x hx => hx ▸ hb', fun x hx => (hk' x hx).1, fun x hx hx' => (hk' x hx').2 hx⟩
theorem shutBld {p v : Value} (h : St H0 w0 X H w (blk b (.cells #[p, v] T) :: own 5 1 v l.length (Lib.byteCells l) :: ps)) (hp : selfP b p) (hn : l = [] → v = .slice none 0 0) : St H0 w0 X H w (bldP T b l :: ps) :=
  h.join fun _ _ ⟨a, c⟩ ⟨d, e⟩ hd => ⟨p, v, .inl a, c, hp, hn, d, fun k hk => ⟨.inr (e k hk), fun hkb => hd b a (hkb ▸ e k hk)⟩⟩
theorem newBld (h : St H0 w0 X H w ps) (T : TypeId) : St H0 w0 X H (w.alloc (.cells #[.pointer none, .slice none 0 0] T)) (bldP T w.heap.size [] :: ps) :=
  shutBld (l := []) (((h.alloc (.cells #[.pointer none, .slice none 0 0] T)).own_nil (e := 5) (size := 1)).pick 1 rfl) (.inl rfl) fun _ => rfl

/-- A step that leaves a tuple of nothing. -/
def RetS (v : Value) (H0 H : Hs) (w0 : World) (X : Nat → Prop) (qs : List Hp) (e : Ending) (w' : World) : Prop := e = .returned v ∧ St H0 w0 X H w' qs
set_option maxRecDepth 100000 in
theorem copyCheck_st (S : St H0 w0 X H w ps) (i : Nat) {p v : Value} (hi : ps[i]? = some (blk b (.cells #[p, v] T))) (hp : selfP b p) (hT : BT T) :
    Calls Tryd.prog 26 #[.pointer (some ⟨b, 0, none⟩)] w (RetS (.tuple #[]) H0 H w0 X (blk b (.cells #[.pointer (some ⟨b, 0, none⟩), v] T) :: ps.eraseIdx i)) := by
  have HS := Lib.hid S
  have hc : w.cell? ⟨b, 0, none⟩ = some p := S.cell i hi rfl
  have hf : w.frozen? ⟨b, 0, none⟩ = false := S.frozen i hi 0
  have hsh : w.shape? b = some (T, 2) := by have := S.blk_at i hi; simp [World.shape?, this]
  obtain ⟨j, hj, hjs⟩ := Option.map_eq_some_iff.1 szBuilder
  rcases hp with rfl | rfl
  · clear S
    go_enter Tryd.func26, Tryd.ntmps26
    go_wp2
    rw [Lib.run_to_unsafe w ⟨b, 0, none⟩ Tryd.underlying57 Tryd.underlying74 hj (by rw [hjs]; decide) hsh (Nat.zero_lt_succ 1)]
    simp only [Result.andThen]
    rw [Oper.upon_value]
    go_wp2
    rw [run_callFunc_extern (show Tryd.prog.funcs[37]? = some Tryd.f37 by kernel_rfl) (by kernel_rfl) (by kernel_rfl) (by kernel_rfl) (e := Extern.AbiNoEscape.same) (by kernel_rfl)]
    rw [Lib.run_noEscape]
    simp only [Result.andThen]
    rw [Oper.upon_value]
    go_wp2
    rw [Lib.run_from_unsafe w ⟨b, 0, none⟩ Tryd.underlying74 Tryd.underlying57 hj hsh hT]
    simp only [Result.andThen]
    rw [Oper.upon_value]
    go_wp2
    go_end0
    exact ⟨rfl, HS.out.setCell i hi _⟩
  · clear S
    go_enter Tryd.func26, Tryd.ntmps26
    go_wp2
    rw [Lib.run_neq_ptr_same w _ Tryd.underlying57 hj]
    go_wp2
    go_end0
    exact ⟨rfl, HS.out.pick i hi⟩
theorem infoU8 : (Tryd.prog.info? 5).map (fun i => (i.zero, i.size, i.bytes)) = some (some (.int .u8 0), 1, 1) := by kernel_rfl
/-- 'append' of a text onto an own row of bytes. -/
theorem wpList_appendStr_st {ops : Array Oper} {rest : List Oper} {o : Oper} {a : Act} {Q : Exit → Act → World → Prop} {n : Nat} {v : Value} {xs : List Value} (i : Nat) (S : St H0 w0 X H w ps) (hi : ps[i]? = some (own 5 1 v n xs))
    (hgd : o.guard = none) (sl x : Operand) (ho : o.op = .call { callee := .builtin .append, args := #[sl, x], argTypes := #[23, 9] }) (hs : a.eval sl = v) (s : ByteArray) (hx : a.eval x = .string s) (hn : n + s.size ≤ 140737488355328)
    (h : ∀ v' w', St H0 w0 X H w' (own 5 1 v' (n + s.size) (xs ++ Lib.strCells s) :: ps.eraseIdx i) → (v' = .slice none 0 0 ↔ v = .slice none 0 0 ∧ s.size = 0) → wpList Tryd.prog ops Q rest (a.put o.dst v') w') : wpList Tryd.prog ops Q (o :: rest) a w := by
  obtain ⟨i0, hi0, hz0, hz1, hz2⟩ := info_parts infoU8
  refine wpList_plain hgd fun K hK => ?_
  have hob := S.own_at i hi
  obtain ⟨v', w', hr, h2, h3, h4⟩ := Lib.run_append_own_string (P := Tryd.prog) w 0 23 9 o.type 5 i0 Tryd.underlying23 Tryd.underlying9 hi0 hz0 hz1 hz2 v n xs hob s (by unfold maxLen; omega) hn (Nat.zero_le _)
  have hb : v'.ownBlock = v.ownBlock ∨ v'.ownBlock = some w.heap.size := by
    rcases hob.2 with ⟨rfl, rfl⟩ | ⟨g, cap, cur, rfl, hbg, hg, hnc, hcm, hcs, htake⟩
    · by_cases hm : s.size = 0
      · exact .inl (by rw [h4.2 ⟨rfl, hm⟩])
      · have hr2 := run_append_nil_string (P := Tryd.prog) w 23 9 o.type 5 i0 (.int .u8 0) Tryd.underlying23 Tryd.underlying9 hi0 hz0 s (by omega) (by omega) (by rw [hz2]; omega)
        rw [hr] at hr2
        cases hr2
        exact .inr rfl
    · by_cases hroom : n + s.size ≤ cap
      · have hr2 := Lib.run_append_room_string (P := Tryd.prog) w 23 9 o.type 5 i0 Tryd.underlying23 Tryd.underlying9 hi0 hz1 g n cap cur hg s hroom (by omega)
        rw [hr] at hr2
        cases hr2
        exact .inl rfl
      · have holds : ∀ j u, xs[j]? = some u → w.cell? ((⟨g, 0, none⟩ : Addr).add j) = some u := hob.cells (g := g) rfl
        have hr2 := Lib.run_append_grow_string (P := Tryd.prog) w 23 9 o.type 5 i0 (.int .u8 0) Tryd.underlying23 Tryd.underlying9 hi0 hz0 ⟨g, 0, none⟩ n cap xs (by rw [hz1]; simpa using hob.1) holds s (by omega) (by omega) (by rw [hz2]; exact growslice_fits (by omega) (by omega))
        rw [hr] at hr2
        cases hr2
        exact .inr rfl
  unfold Oper.wp execOp
  simp only [ho, resolve, invoke, builtin, Sem.run_bind, Sem.run_pure, Result.andThen_ok, List.map_toArray, List.map_cons, List.map_nil, hs, hx, hr]
  exact hK _ _ (h v' w' (S.appended i hi h2 h3 hb) h4)

set_option maxRecDepth 100000 in
theorem writeByte_st (S : St H0 w0 X H w ps) (i : Nat) (hi : ps[i]? = some (bldP T b l)) (hT : BT T) (c : UInt8) (hn : l.length + 1 ≤ 140737488355328) :
    Calls Tryd.prog 20 #[.pointer (some ⟨b, 0, none⟩), .int .u8 c.toNat] w (RetS .nilIface H0 H w0 X (bldP T b (l ++ [c]) :: ps.eraseIdx i)) := by
  obtain ⟨p, v, hp, hnil, S1⟩ := openBld S i hi
  obtain ⟨i0, hi0, hz0, hz1, hz2⟩ := info_parts infoU8
  have HS1 := Lib.hid S1
  have HP := Lib.hid hp
  have HN := Lib.hid hnil
  clear S S1 hp hnil
  go_enter Tryd.func20, Tryd.ntmps20
  go_wp2_with fail
  refine (copyCheck_st HS1.out 0 rfl HP.out hT).mono ?_
  rintro e w1 ⟨rfl, S2⟩
  have HS2 := Lib.hid S2
  have c1 : w1.cell? ⟨b, 1, none⟩ = some v := S2.cell 0 rfl rfl
  have HS3 := Lib.hid (S2.alloc (.cells #[.int .u8 c.toNat] 5))
  clear HS1 S2
  go_wp2_with (first
    | (at_builtin; refine wpList_append_st 2 5 HS3.out rfl rfl _ _ 23 rfl i0 _ 1 Tryd.underlying23 hi0 hz0 hz1 hz2 rfl (by decide) rfl ⟨w1.heap.size, 0, none⟩ 1 1 [.int .u8 c.toNat] rfl rfl (fun j u hj => by
        rcases j with _ | j
        · cases hj; exact HS3.out.cell 0 rfl rfl
        · simp at hj) (by simp [Value.oneCell']) (by unfold maxLen; omega) (by omega) ?_)
    | fail)
  intro A cap w2 S4
  have HS4 := Lib.hid S4
  have d1 : w2.cell? ⟨b, 1, none⟩ = some v := S4.cell 2 rfl rfl
  have f1 : w2.frozen? ⟨b, 1, none⟩ = false := S4.frozen 2 rfl 1
  clear S4 HS3 HS2
  go_wp2_with fail
  go_ret
  refine ⟨rfl, ?_⟩
  have S5 := (HS4.out.drop 1).setCell (j := 1) 1 rfl (.slice A (l.length + 1) cap)
  refine shutBld (p := .pointer (some ⟨b, 0, none⟩)) (v := .slice A (l.length + 1) cap) ?_ (.inr rfl) ?_
  · simpa [Lib.byteCells_append, show Lib.byteCells [c] = [.int .u8 c.toNat] from rfl] using S5
  · intro e
    simp at e
theorem heap_freeze_other (w : World) (g n : Nat) {k : Nat} (h : k ≠ g) : (w.freeze ⟨g, 0, none⟩ n).heap[k]? = w.heap[k]? := by
  unfold World.freeze
  split
  · rfl
  · simp only [Array.getElem?_modify]
    rw [if_neg (fun e => h e.symm)]
theorem St.froze {F : Nat → Prop} {g : Nat} (hw : Ag H w) (hF : ∀ x, F x → x < w.heap.size ∧ H x = none) (hg : F g) (n : Nat) : St H w F H (w.freeze ⟨g, 0, none⟩ n) [] := by
  have hk : ∀ k, k ≠ g → (w.freeze ⟨g, 0, none⟩ n).heap[k]? = w.heap[k]? := fun k h => heap_freeze_other w g n h
  have hs : (w.freeze ⟨g, 0, none⟩ n).heap.size = w.heap.size := by unfold World.freeze; split <;> simp
  have h3 : (w.freeze ⟨g, 0, none⟩ n).os = w.os ∧ (w.freeze ⟨g, 0, none⟩ n).tape = w.tape ∧ (w.freeze ⟨g, 0, none⟩ n).output = w.output := by unfold World.freeze; split <;> exact ⟨rfl, rfl, rfl⟩
  refine ⟨h3.1, h3.2.1, h3.2.2, by rw [hs]; exact Nat.le_refl _, fun x hx hX => hk x fun e => hX (e ▸ hg), Le.refl _, fun _ _ h => .inl h, fun x o hx => ?_, trivial⟩
  have hne : x ≠ g := fun e => by rw [e, (hF g hg).2] at hx; cases hx
  exact (hk x hne).trans (hw x o hx)
theorem szU8 : Tryd.prog.cellsOf 5 = 1 := by kernel_rfl

set_option maxRecDepth 100000 in
theorem string_st (S : St H0 w0 X H w ps) (i : Nat) (hi : ps[i]? = some (bldP T b l)) (h0 : l ≠ []) :
    Calls Tryd.prog 21 #[.pointer (some ⟨b, 0, none⟩)] w (RetS (.string ⟨l.toArray⟩) H0 H w0 X (ps.eraseIdx i)) := by
  obtain ⟨F, ⟨p, v, hFb, hbk, hp, hnil, hown, hob⟩, hF, k⟩ := S.drew.step hi
  have hl0 : l.length ≠ 0 := by simpa using h0
  obtain ⟨g, cap, cur, rfl, hbg, hg, hnc, hcm, hcs, htake⟩ : ∃ g cap cur, v = .slice (some ⟨g, 0, none⟩) l.length cap ∧ 0 ≤ g ∧ w.drew.heap[g]? = some (.cells cur 5 (0, 0)) ∧ l.length ≤ cap ∧ cap ≤ maxLen ∧ cur.size = cap * 1 ∧ cur.toList.take (l.length * 1) = Lib.byteCells l := by
    rcases hown.2 with ⟨_, hz⟩ | ⟨g, cap, cur, hv, r⟩
    · exact absurd hz hl0
    · exact ⟨g, cap, cur, hv, r⟩
  have c1 : w.drew.cell? ⟨b, 1, none⟩ = some (.slice (some ⟨g, 0, none⟩) l.length cap) := by
    rw [cell_of_row _ _ _ _ _ _ hbk]; rfl
  have hSD : (Builtin.unsafeSliceData_ #[23] 64 #[.slice (some ⟨g, 0, none⟩) l.length cap]).run Tryd.prog w.drew = .ok (.pointer (some ⟨g, 0, none⟩)) w.drew :=
    Lib.run_unsafeSliceData_row _ _ _ _ _ _ (by omega)
  have hUS : (Builtin.unsafeString_ #[64, 3] 9 #[.pointer (some ⟨g, 0, none⟩), .int .i64 l.length]).run Tryd.prog w.drew = .ok (.string ⟨l.toArray⟩) (w.drew.freeze ⟨g, 0, none⟩ l.length) := by
    refine Lib.run_unsafeString_row w.drew 64 3 9 5 Tryd.underlying64 szU8 g cur.size (by simp [World.shape?, hg]) l h0 (by omega) (by unfold maxLen at hcm; omega) ?_
    intro j x hx
    exact hown.cells (g := g) rfl j (.int .u8 x.toNat) (by simp [Lib.byteCells, hx])
  have HK := Lib.hid (k H (w.drew.freeze ⟨g, 0, none⟩ l.length) [] (St.froze S.drew.ag hF (hob g rfl).1 _))
  clear hnil hp hob hown hF k S hcs htake hg hbk
  go_enter Tryd.func21, Tryd.ntmps21
  go_wp2
  go_region
  all_goals
    go_wp2
    go_ret
    exact ⟨rfl, HK.out⟩
set_option maxRecDepth 100000 in
theorem string0_st (S : St H0 w0 X H w ps) (i : Nat) (hi : ps[i]? = some (bldP T b [])) :
    Calls Tryd.prog 21 #[.pointer (some ⟨b, 0, none⟩)] w (RetS (.string ⟨#[]⟩) H0 H w0 X (ps.eraseIdx i)) := by
  obtain ⟨F, ⟨p, v, hFb, hbk, hp, hnil, hown, hob⟩, hF, k⟩ := S.drew.step hi
  obtain rfl := hnil rfl
  have c1 : w.drew.cell? ⟨b, 1, none⟩ = some (.slice none 0 0) := by
    rw [cell_of_row _ _ _ _ _ _ hbk]; rfl
  have hSD : (Builtin.unsafeSliceData_ #[23] 64 #[.slice none 0 0]).run Tryd.prog w.drew = .ok (.pointer none) w.drew := rfl
  have hUS : (Builtin.unsafeString_ #[64, 3] 9 #[.pointer none, .int .i64 0]).run Tryd.prog w.drew = .ok (.string .empty) w.drew := Lib.run_unsafeString_none w.drew _ _ _ none
  have HK := Lib.hid ((S.drop i).drew)
  clear hnil hp hob hown hF k S hbk
  go_enter Tryd.func21, Tryd.ntmps21
  go_wp2
  go_region
  all_goals
    go_wp2
    go_ret
    exact ⟨rfl, HK.out⟩
end
end Go.Proofs.YtfphlkkhpccpnabDoor
