/-
  Text.
-/
import Derived.Test.YtfphlkkhpccpnabDoorOpJumps
import Derived.Test.YtfphlkkhpccpnabDoorOpAll
import Derived.Test.YtfphlkkhpccpnabDoorOpOf
import Derived.Deep.CutRange
import Derived.Deep.RegionHeld3
namespace Go.Proofs.YtfphlkkhpccpnabDoor
open Go.RowKit Go.Proofs K
set_option linter.unusedVariables false

/-- What is told of the instruction at i. -/
def dataL (l : List UInt8) (i : Nat) : List UInt8 := (l.take (nextI l i)).drop (i + 1)
def textOf (l : List UInt8) (i : Nat) : List UInt8 :=
  (match opOf (l.getD i 0).toNat with | some e => e.2.1 | none => 63 :: hexL [l.getD i 0]) ++ (if pushB8 (l.getD i 0) = 0 then [] else [32, 48, 120] ++ hexL (dataL l i))
def tF (l : List UInt8) (i : Nat) : List (List UInt8) := [textOf l i]
def textsL (l : List UInt8) : List (List UInt8) := eachL (tF l) l 0
def strV (s : List UInt8) : Value := .string (bs s)
theorem push_known : ∀ b : Fin 256, opOf b.val = none → (b.val < 95 ∨ 127 < b.val) := by decide +kernel
theorem push_none {b : UInt8} (h : opOf b.toNat = none) : pushB8 b = 0 := by
  have := push_known ⟨b.toNat, b.toNat_lt⟩ h
  unfold pushB8
  rw [if_pos this]
theorem name_short : ∀ e ∈ opL, e.2.1.length ≤ 20 := by decide +kernel
theorem opOf_short {c : Nat} {e : OpE} (h : opOf c = some e) : (bs e.2.1).size ≤ 20 := by
  rw [bs_size]
  exact name_short e (List.mem_of_find?_eq_some h)
theorem infoStr : (Tryd.prog.info? 9).map (fun i => (i.zero, i.size, i.bytes)) = some (some (.string .empty), 1, 16) := by kernel_rfl
theorem bs_ext (l : List UInt8) (a b : Nat) : (bs l).extract a b = bs ((l.take b).drop a) := by
  apply ByteArray.ext
  apply Array.toList_inj.1
  rw [Lib.extract_data]
  simp [bs, List.drop_take]
theorem dataL_len {l : List UInt8} {i : Nat} (h : i < l.length) : (dataL l i).length ≤ 32 := by
  unfold dataL
  rw [List.length_drop, List.length_take]
  have h1 : pushB8 (l.getD i 0) ≤ 32 := by unfold pushB8; split <;> omega
  have : nextI l i ≤ i + 1 + pushB8 (l.getD i 0) := Nat.min_le_left _ _
  omega
/-- What Text holds while it goes through. -/
def TI (l : List UInt8) (w0 : World) (m c p q : Nat) (k : Nat) (w : World) : Prop :=
  ∃ xs v, St empH w0 none_ empH w [own 9 1 v xs.length (xs.map strV), blk q (.cells #[v] 30), blk p (.cells #[.string (bs l)] 9), blk m (.cells #[.map (some c)] 44), mapP encU8 c opM] ∧ xs ++ eachL (tF l) l k = textsL l
set_option maxRecDepth 100000 in
set_option maxHeartbeats 4000000 in
theorem tstep (l : List UInt8) (hl : l.length ≤ 1000) (w0 : World) (m c p q i : Nat) (w : World) (hi : i < l.length) (h : TI l w0 m c p q i w) :
    Calls Tryd.prog 14 #[.int .i64 i, .string ((bs l).extract (i + 1) (nextI l i)), .pointer (some ⟨m, 0, none⟩), .pointer (some ⟨p, 0, none⟩), .pointer (some ⟨q, 0, none⟩)] w (EachP (TI l w0 m c p q) (nextI l i)) := by
  rw [bs_ext]
  obtain ⟨xs, v, S, hx⟩ := h
  obtain ⟨A, cp, rfl⟩ := own_slice S 0 rfl
  have HL : Hid (xs.length ≤ 1000) := Lib.hid (by
    have h1 := eachL_len (tF l) (fun _ => Nat.le_refl _) l l.length 0 (by omega)
    have h2 : (xs ++ eachL (tF l) l i).length = (textsL l).length := by rw [hx]
    rw [List.length_append] at h2
    unfold textsL at h2
    omega)
  have hs := eachL_step (tF l) hi
  rw [hs] at hx
  have hsz : (bs l).size = l.length := bs_size l
  have hk2 : i < (bs l).size := by rw [hsz]; exact hi
  have HX := Lib.hid hx
  have HS := Lib.hid S
  obtain ⟨i0, hi0, hz0, hz1, hz2⟩ := info_parts infoStr
  have HDL := Lib.hid (dataL_len hi)
  obtain ⟨b, hb⟩ : ∃ b, b = l.getD i 0 := ⟨_, rfl⟩
  have HB := Lib.hid (show (bs l)[i]'hk2 = b by rw [bs_at hk2, hb])
  have HTX : Hid (textOf l i = (match opOf b.toNat with | some e => e.2.1 | none => 63 :: hexL [b]) ++ (if pushB8 b = 0 then [] else [32, 48, 120] ++ hexL (dataL l i))) := Lib.hid (by rw [hb]; rfl)
  have fp : ∀ w', Below w.heap.size w w' → w'.cell? ⟨p, 0, none⟩ = some (.string (bs l)) := fun w' h => cell_later h (HS.out.cell 2 rfl rfl)
  have fm : ∀ w', Below w.heap.size w w' → w'.cell? ⟨m, 0, none⟩ = some (.map (some c)) := fun w' h => cell_later h (HS.out.cell 3 rfl rfl)
  have HLK := Lib.hid (show ∀ w', Below w.heap.size w w' → (Instr.lookup 44 (.map (some c)) (.int .u8 (b.toNat : Int)) true).run Tryd.prog w' =
      .ok (.tuple #[(mlook opM (b.toNat : Int)).getD (.agg opZ), .bool (mlook opM (b.toNat : Int)).isSome]) w' from fun w' h => by
    obtain ⟨F2, ⟨_, o, ho, hm⟩, _⟩ := (HS.out.grow h).step (i := 4) rfl
    exact lookup_run keyU8 Tryd.underlying44 ho hm (zeroInfo _) (b.toNat : Int) true)
  have HPU : Hid (∀ w, Calls Tryd.prog 10 #[.int .u8 (b.toNat : Int)] w (fun e w' => e = .returned (.tuple #[.int .i64 (pushB8 b : Int), .bool (pushB (b.toNat : Int))]) ∧ w = w')) := Lib.hid fun w => by
    have h8 := b.toNat_lt
    have := push_any (b.toNat : Int) (by omega) (by omega) w
    unfold PushP at this
    rwa [pushN_b] at this
  clear hx S hs hb
  rw [opM_look] at HLK
  have hi1 : i + 1 ≤ l.length := by omega
  have HHX : Hid (∀ w, Calls Tryd.prog 15 #[.string ((bs l).extract i (i + 1))] w (RetV (.string (bs (hexL [b]))) w)) := Lib.hid fun w => by
    have e : (bs l).extract i (i + 1) = bs [b] := by
      rw [bs_ext, ← HB.out, bs_at hk2]
      congr 1
      rw [List.take_succ_eq_append_getElem hi, List.drop_append_of_le_length (by simp; omega), List.drop_of_length_le (by simp; omega), List.getD_eq_getElem?_getD, List.getElem?_eq_getElem hi]
      rfl
    rw [e]
    exact hex_any [b] (by simp) w
  have HHD : Hid (∀ w, Calls Tryd.prog 15 #[.string (bs (dataL l i))] w (RetV (.string (bs (hexL (dataL l i)))) w)) := Lib.hid fun w => hex_any _ (by have := HDL.out; omega) w
  cases ho : opOf b.toNat with
  | none =>
    have h0 := push_none ho
    rw [ho] at HLK
    have hlk : ∀ w', Below w.heap.size w w' → (Instr.lookup 44 (.map (some c)) (.int .u8 (b.toNat : Int)) true).run Tryd.prog w' =
      .ok (.tuple #[.agg #[.string ⟨#[]⟩, .int .u64 0, .int .i64 0, .int .i64 0], .bool false]) w' := HLK.out
    rw [h0] at HPU
    have HT2 : Hid (textOf l i = 63 :: hexL [b]) := Lib.hid (by rw [HTX.out, ho, h0]; simp)
    clear ho h0 HTX HLK
    go_enter Tryd.func14, Tryd.ntmps14
    have hbb := HB.out
    go_upto_region 0 with (fail)
    go_cut [7, 8] from 12 to 19 (fun s7 s8 wx => s7 = .pointer (some ⟨w.heap.size, 0, none⟩) ∧ s8 = .bool false ∧ wx = (w.alloc (.cells #[.string ⟨#[]⟩, .int .u64 0, .int .i64 0, .int .i64 0] 35)).drew)
    case first =>
      go_region_held3 (fun w' => Below w.heap.size w w') (repeat (first | assumption | exact Below.refl _ _ | apply Below.drew | (refine Below.alloc ?_ (by first | exact Nat.le_refl _ | exact Below.size (by assumption) | simp) _))) (fail)
      all_goals
        go_wp2_with fail
        go_meet
        exact ⟨rfl, rfl, rfl⟩
    case rest =>
      obtain ⟨rfl, rfl, rfl⟩ := hcut
      have HS1 := Lib.hid ((HS.out.alloc (.cells #[.string ⟨#[]⟩, .int .u64 0, .int .i64 0, .int .i64 0] 35)).drew)
      generalize (w.alloc (.cells #[.string ⟨#[]⟩, .int .u64 0, .int .i64 0, .int .i64 0] 35)).drew = w1 at HS1 ⊢
      have c1 : w1.cell? ⟨w.heap.size, 0, none⟩ = some (.string ⟨#[]⟩) := HS1.out.cell 0 rfl rfl
      have c2 : w1.cell? ⟨p, 0, none⟩ = some (.string (bs l)) := HS1.out.cell 3 rfl rfl
      clear hlk fp fm HS
      go_wp2_with fail
      refine (HHX.out _).mono ?_
      rintro e w2 ⟨rfl, hb2⟩
      have HS2 := Lib.hid (HS1.out.grow hb2)
      have d2 : w2.cell? ⟨p, 0, none⟩ = some (.string (bs l)) := cell_later hb2 c2
      have hcat : (9223372036854775807 < 1 + (bs (hexL [b])).size) = False := eq_false (by rw [bs_size, hexL_len]; simp)
      clear HS1 hb2 c1 c2
      go_wp2_with fail
      refine (HPU.out _).mono ?_
      rintro e w3 ⟨rfl, rfl⟩
      have d0 : w2.cell? ⟨q, 0, none⟩ = some (.slice A xs.length cp) := HS2.out.cell 2 rfl rfl
      have HS8 := Lib.hid (HS2.out.alloc (.cells #[.string ((⟨#[63]⟩ : ByteArray) ++ bs (hexL [b]))] 9))
      go_wp2_with (first
        | (at_builtin; refine wpList_append_st 2 9 HS8.out rfl rfl _ _ 30 rfl i0 _ 16 Tryd.underlying30 hi0 hz0 hz1 hz2 rfl (by decide) rfl ⟨w2.heap.size, 0, none⟩ 1 1 [.string ((⟨#[63]⟩ : ByteArray) ++ bs (hexL [b]))] rfl rfl (fun j u hj => by
            rcases j with _ | j
            · cases hj; exact HS8.out.cell 0 rfl rfl
            · simp at hj) (by simp [Value.oneCell']) (by have := HL.out; unfold maxLen; omega) (by have := HL.out; omega) ?_)
        | fail)
      intro A' c' w9 S9
      have d1 : w9.cell? ⟨q, 0, none⟩ = some (.slice A xs.length cp) := S9.cell 3 rfl rfl
      have f1 : w9.frozen? ⟨q, 0, none⟩ = false := S9.frozen 3 rfl 0
      have HS9 := Lib.hid S9
      clear S9 HS8 HS2
      go_wp2_with fail
      go_end0
      refine ⟨rfl, xs ++ [textOf l i], .slice A' (xs.length + 1) c', ?_, ?_⟩
      · have S3 := (((HS9.out.drop 1).drop 1).setCell (j := 0) 1 rfl (.slice A' (xs.length + 1) c')).pick 1 rfl
        have hst : Value.string ((⟨#[63]⟩ : ByteArray) ++ bs (hexL [b])) = strV (textOf l i) := by rw [HT2.out]; exact congrArg Value.string (bs_cat [63] _)
        rw [hst] at S3
        simpa using S3
      · rw [← HX.out]; unfold tF; rw [List.append_assoc]
  | some e =>
    have hes := opOf_short ho
    rw [ho] at HLK
    have hlk : ∀ w', Below w.heap.size w w' → (Instr.lookup 44 (.map (some c)) (.int .u8 (b.toNat : Int)) true).run Tryd.prog w' =
      .ok (.tuple #[.agg #[.string (bs e.2.1), .int .u64 e.2.2.1, .int .i64 e.2.2.2.1, .int .i64 e.2.2.2.2], .bool true]) w' := HLK.out
    obtain ⟨n, hn⟩ : ∃ n, n = pushB8 b := ⟨_, rfl⟩
    rw [← hn] at HPU
    have HT1 : Hid (textOf l i = e.2.1 ++ (if n = 0 then [] else [32, 48, 120] ++ hexL (dataL l i))) := Lib.hid (by rw [HTX.out, ho, ← hn])
    have hn32 : n ≤ 32 := by rw [hn]; unfold pushB8; split <;> omega
    clear ho HTX HLK hn
    go_enter Tryd.func14, Tryd.ntmps14
    have hbb := HB.out
    go_upto_region 0 with (fail)
    go_cut [7, 8] from 12 to 19 (fun s7 s8 wx => s7 = .pointer (some ⟨w.heap.size, 0, none⟩) ∧ s8 = .bool true ∧ wx = (w.alloc (.cells #[.string (bs e.2.1), .int .u64 e.2.2.1, .int .i64 e.2.2.2.1, .int .i64 e.2.2.2.2] 35)).drew)
    case first =>
      go_region_held3 (fun w' => Below w.heap.size w w') (repeat (first | assumption | exact Below.refl _ _ | apply Below.drew | (refine Below.alloc ?_ (by first | exact Nat.le_refl _ | exact Below.size (by assumption) | simp) _))) (fail)
      all_goals
        go_wp2_with fail
        go_meet
        exact ⟨rfl, rfl, rfl⟩
    case rest =>
      obtain ⟨rfl, rfl, rfl⟩ := hcut
      have HS1 := Lib.hid ((HS.out.alloc (.cells #[.string (bs e.2.1), .int .u64 e.2.2.1, .int .i64 e.2.2.2.1, .int .i64 e.2.2.2.2] 35)).drew)
      generalize (w.alloc (.cells #[.string (bs e.2.1), .int .u64 e.2.2.1, .int .i64 e.2.2.2.1, .int .i64 e.2.2.2.2] 35)).drew = w1 at HS1 ⊢
      have c1 : w1.cell? ⟨w.heap.size, 0, none⟩ = some (.string (bs e.2.1)) := HS1.out.cell 0 rfl rfl
      have c2 : w1.cell? ⟨p, 0, none⟩ = some (.string (bs l)) := HS1.out.cell 3 rfl rfl
      clear hlk fp fm HS
      rcases Nat.eq_zero_or_pos n with rfl | hpos
      · have HT2 : Hid (textOf l i = e.2.1) := Lib.hid (by rw [HT1.out]; simp)
        go_wp2_with fail
        refine (HPU.out _).mono ?_
        rintro e w3 ⟨rfl, rfl⟩
        have d0 : w1.cell? ⟨q, 0, none⟩ = some (.slice A xs.length cp) := HS1.out.cell 2 rfl rfl
        have HS8 := Lib.hid (HS1.out.alloc (.cells #[.string (bs e.2.1)] 9))
        go_wp2_with (first
          | (at_builtin; refine wpList_append_st 2 9 HS8.out rfl rfl _ _ 30 rfl i0 _ 16 Tryd.underlying30 hi0 hz0 hz1 hz2 rfl (by decide) rfl ⟨w1.heap.size, 0, none⟩ 1 1 [.string (bs e.2.1)] rfl rfl (fun j u hj => by
              rcases j with _ | j
              · cases hj; exact HS8.out.cell 0 rfl rfl
              · simp at hj) (by simp [Value.oneCell']) (by have := HL.out; unfold maxLen; omega) (by have := HL.out; omega) ?_)
          | fail)
        intro A' c' w9 S9
        have d1 : w9.cell? ⟨q, 0, none⟩ = some (.slice A xs.length cp) := S9.cell 3 rfl rfl
        have f1 : w9.frozen? ⟨q, 0, none⟩ = false := S9.frozen 3 rfl 0
        have HS9 := Lib.hid S9
        clear S9 HS8 HS1
        go_wp2_with fail
        go_end0
        refine ⟨rfl, xs ++ [textOf l i], .slice A' (xs.length + 1) c', ?_, ?_⟩
        · have S3 := (((HS9.out.drop 1).drop 1).setCell (j := 0) 1 rfl (.slice A' (xs.length + 1) c')).pick 1 rfl
          have hst : Value.string (bs e.2.1) = strV (textOf l i) := by rw [HT2.out]; rfl
          rw [hst] at S3
          simpa using S3
        · rw [← HX.out]; unfold tF; rw [List.append_assoc]
      · have HT2 : Hid (textOf l i = e.2.1 ++ ([32, 48, 120] ++ hexL (dataL l i))) := Lib.hid (by rw [HT1.out, if_neg (by omega)])
        go_wp2_with fail
        refine (HPU.out _).mono ?_
        rintro e w3 ⟨rfl, rfl⟩
        go_wp2_with fail
        refine (HHD.out _).mono ?_
        rintro e w2 ⟨rfl, hb2⟩
        have HS2 := Lib.hid (HS1.out.grow hb2)
        have hd : (bs (hexL (dataL l i))).size ≤ 64 := by rw [bs_size, hexL_len]; have := HDL.out; omega
        have hcat : (9223372036854775807 < 3 + (bs (hexL (dataL l i))).size) = False := eq_false (by omega)
        have hcat2 : (9223372036854775807 < (bs e.2.1).size + (3 + (bs (hexL (dataL l i))).size)) = False := eq_false (by omega)
        clear HS1 hb2 c1 c2 hd hes
        have d0 : w2.cell? ⟨q, 0, none⟩ = some (.slice A xs.length cp) := HS2.out.cell 2 rfl rfl
        have HS8 := Lib.hid (HS2.out.alloc (.cells #[.string (bs e.2.1 ++ ((⟨#[32, 48, 120]⟩ : ByteArray) ++ bs (hexL (dataL l i))))] 9))
        go_wp2_with (first
          | (at_builtin; refine wpList_append_st 2 9 HS8.out rfl rfl _ _ 30 rfl i0 _ 16 Tryd.underlying30 hi0 hz0 hz1 hz2 rfl (by decide) rfl ⟨w2.heap.size, 0, none⟩ 1 1 [.string (bs e.2.1 ++ ((⟨#[32, 48, 120]⟩ : ByteArray) ++ bs (hexL (dataL l i))))] rfl rfl (fun j u hj => by
              rcases j with _ | j
              · cases hj; exact HS8.out.cell 0 rfl rfl
              · simp at hj) (by simp [Value.oneCell']) (by have := HL.out; unfold maxLen; omega) (by have := HL.out; omega) ?_)
          | fail)
        intro A' c' w9 S9
        have d1 : w9.cell? ⟨q, 0, none⟩ = some (.slice A xs.length cp) := S9.cell 3 rfl rfl
        have f1 : w9.frozen? ⟨q, 0, none⟩ = false := S9.frozen 3 rfl 0
        have HS9 := Lib.hid S9
        clear S9 HS8 HS2
        go_wp2_with fail
        go_end0
        refine ⟨rfl, xs ++ [textOf l i], .slice A' (xs.length + 1) c', ?_, ?_⟩
        · have S3 := (((HS9.out.drop 1).drop 1).setCell (j := 0) 1 rfl (.slice A' (xs.length + 1) c')).pick 1 rfl
          have hst : Value.string (bs e.2.1 ++ ((⟨#[32, 48, 120]⟩ : ByteArray) ++ bs (hexL (dataL l i)))) = strV (textOf l i) := by rw [HT2.out]; rw [bs_cat [32, 48, 120] _]; exact congrArg Value.string (bs_cat e.2.1 _)
          rw [hst] at S3
          simpa using S3
        · rw [← HX.out]; unfold tF; rw [List.append_assoc]
def TextsP (xs : List (List UInt8)) (w : World) (e : Ending) (w' : World) : Prop := ∃ v, e = .returned v ∧ St empH w none_ empH w' [own 9 1 v xs.length (xs.map strV)]
set_option maxRecDepth 100000 in
theorem text_any (l : List UInt8) (hl : l.length ≤ 1000) (w : World) (hm : MaxAt w) : Calls Tryd.prog 7 #[.string (bs l)] w (TextsP (textsL l) w) := by
  have HS0 : Hid (St empH w none_ empH ((w.alloc (.cells #[.string (bs l)] 9)).alloc (.cells #[.slice none 0 0] 30)) [blk (w.heap.size + 1) (.cells #[.slice none 0 0] 30), blk w.heap.size (.cells #[.string (bs l)] 9)]) :=
    Lib.hid (((St.start (ag_emp w)).alloc _).alloc' _ _ (by simp))
  have HM := Lib.hid (hm.later HS0.out.below)
  have HLL := Lib.hid hl
  clear hl hm
  go_enter Tryd.func7, Tryd.ntmps7
  go_wp2_with fail
  refine (all_any _ HM.out).mono ?_
  rintro e w1 ⟨c, rfl, S1⟩
  have HS1 := Lib.hid ((HS0.out.more S1).alloc (.cells #[.map (some c)] 44))
  clear S1
  have c1 : (w1.alloc (.cells #[.map (some c)] 44)).cell? ⟨w.heap.size, 0, none⟩ = some (.string (bs l)) := HS1.out.cell 3 rfl rfl
  clear HS0
  have HE := Lib.hid (each_any 14 callT #[.pointer (some ⟨w1.heap.size, 0, none⟩), .pointer (some ⟨w.heap.size, 0, none⟩), .pointer (some ⟨w.heap.size + 1, 0, none⟩)] l HLL.out (TI l w w1.heap.size c w.heap.size (w.heap.size + 1)) (fun i w2 hi h => tstep l HLL.out w _ _ _ _ i w2 hi h) _ ⟨[], .slice none 0 0, ((HS1.out.pick 3 rfl).pick 3 rfl).own_nil, rfl⟩)
  go_wp2_with fail
  refine HE.out.mono ?_
  rintro e w2 ⟨rfl, xs, v, S, hx⟩
  rw [eachL_end, List.append_nil] at hx
  subst hx
  obtain ⟨A, c', rfl⟩ := own_slice S 0 rfl
  have c2 : w2.cell? ⟨w.heap.size + 1, 0, none⟩ = some (.slice A (textsL l).length c') := S.cell 1 rfl rfl
  have f2 : w2.frozen? ⟨w.heap.size + 1, 0, none⟩ = false := S.frozen 1 rfl 0
  have HS := Lib.hid S
  clear S HS1 HE
  go_wp2_with fail
  have S3 := HS.out.setCell (j := 0) 1 rfl (.slice A (textsL l).length c')
  have c3 : (w2.setCell ⟨w.heap.size + 1, 0, none⟩ (.slice A (textsL l).length c')).cell? ⟨w.heap.size + 1, 0, none⟩ = some (.slice A (textsL l).length c') := S3.cell 0 rfl rfl
  exact bodyPost_ret (v := .slice A (textsL l).length c') (by simp [results, Tryd.results7, go_sem, c3]) rfl ⟨_, rfl, (((S3.drop 4).drop 3).drop 2).drop 0⟩
end Go.Proofs.YtfphlkkhpccpnabDoor
