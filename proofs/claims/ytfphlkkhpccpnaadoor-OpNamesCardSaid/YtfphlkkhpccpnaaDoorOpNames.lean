/-
  OpNames: the walk.
-/
import Derived.Test.YtfphlkkhpccpnaaDoorOpEx
import Derived.Deep.CutRange
import Derived.Deep.CutBlock
namespace Go.Proofs.YtfphlkkhpccpnaaDoor
open Go.RowKit Go.Proofs K
set_option linter.unusedVariables false

/-- What is known of an operation goes together. -/
def okE (c : Nat) (e : OpE) : Prop :=
  (95 ≤ c → c ≤ 127 → e.2.2.2.1 = 0 ∧ e.2.2.2.2 = 1) ∧ (128 ≤ c → c ≤ 143 → e.2.2.2.2 = e.2.2.2.1 + 1 ∧ e.2.2.2.1 + 127 = c) ∧ (144 ≤ c → c ≤ 159 → e.2.2.2.2 = e.2.2.2.1 ∧ e.2.2.2.1 + 142 = c) ∧
  (160 ≤ c → c ≤ 164 → e.2.2.2.2 = 0 ∧ e.2.2.2.1 + 158 = c ∧ e.2.2.1 = 375) ∧ e.2.2.2.2 ≤ e.2.2.2.1 + 1 ∧ e.2.2.2.1 ≤ 17
instance (c : Nat) (e : OpE) : Decidable (okE c e) := by unfold okE; infer_instance
theorem okL : ∀ e ∈ opL, okE e.1 e := by decide +kernel
theorem opOf_in {c : Nat} {e : OpE} (h : opOf c = some e) : e ∈ opL ∧ e.1 = c := by
  have h1 := List.find?_some h
  exact ⟨List.mem_of_find?_eq_some h, by simpa using h1⟩
theorem opName_eq {c d : Nat} {e f : OpE} (h : opOf c = some e) (k : opOf d = some f) : e.2.1 = f.2.1 ↔ c = d := by
  obtain ⟨he, hc⟩ := opOf_in h
  obtain ⟨hf, hd⟩ := opOf_in k
  constructor
  · intro hn
    have h1 := opNamed_of he
    have h2 := opNamed_of hf
    rw [hn, h2] at h1
    rw [← hc, ← hd, Option.some.inj h1]
  · intro hcd
    subst hcd
    rw [h] at k
    rw [Option.some.inj k]
theorem nameC_of {c : Nat} {e : OpE} (h : opOf c = some e) : nameC e.2.1 = (c : Int) ∧ (opNamed e.2.1).isSome = true := by
  obtain ⟨he, hc⟩ := opOf_in h
  unfold nameC
  rw [opNamed_of he, ← hc]
  exact ⟨rfl, rfl⟩
set_option maxRecDepth 100000 in
set_option maxHeartbeats 4000000 in
theorem names_no (a b : Nat) (ha : a < 256) (hb : b < 256) (ho : opOf a = none) (w : World) (hm : MaxAt w) : Calls Tryd.prog 10 #[.int .u8 a, .int .u8 b] w (RetV (.bool true) w) := by
  have HM := Lib.hid hm
  have hp := push_known ⟨a, ha⟩ ho
  simp only at hp
  have hp2 := push_no (c := (a : Int)) (by omega)
  have HA : Hid (∀ w, MaxAt w → Calls Tryd.prog 23 #[.int .u8 a] w (fun e w' => e = .returned (.tuple #[.agg #[.string ⟨#[]⟩, .int .u64 0, .int .i64 0, .int .i64 0], .bool false]) ∧ Below w.heap.size w w')) := Lib.hid fun w hm => by
    have := ofx a w hm
    unfold OfP opD at this
    rw [ho] at this
    exact this
  obtain ⟨ym, yg, yi, yo, hy⟩ : ∃ (ym : ByteArray) (yg yi yo : Int), opD b = #[.string ym, .int .u64 yg, .int .i64 yi, .int .i64 yo] := by
    unfold opD
    cases opOf b with
    | none => exact ⟨_, _, _, _, rfl⟩
    | some f => exact ⟨_, _, _, _, rfl⟩
  have HB : Hid (∀ w, MaxAt w → Calls Tryd.prog 23 #[.int .u8 b] w (fun e w' => e = .returned (.tuple #[.agg #[.string ym, .int .u64 yg, .int .i64 yi, .int .i64 yo], .bool (opOf b).isSome]) ∧ Below w.heap.size w w')) := Lib.hid fun w hm => by
    have := ofx b w hm
    unfold OfP at this
    rwa [hy] at this
  have HPU : Hid (∀ w, Calls Tryd.prog 27 #[.int .u8 (a : Int)] w (fun e w' => e = .returned (.tuple #[.int .i64 0, .bool false]) ∧ w = w')) := Lib.hid fun w => by
    have := push_any (a : Int) (by omega) (by omega) w
    unfold PushP at this
    rwa [hp2.1, hp2.2] at this
  clear hm hp hp2 ho hy
  go_enter Tryd.func10, Tryd.ntmps10
  go_wp2_with fail
  refine (opex_any _ HM.out).mono ?_
  rintro e w1 ⟨rfl, hb1⟩
  have HS1 := Lib.hid ((St.start (ag_emp w)).grow hb1)
  clear hb1
  go_wp2_with fail
  refine (HA.out _ (HM.out.later HS1.out.below)).mono ?_
  rintro e w2 ⟨rfl, hb2⟩
  have HS2 := Lib.hid ((HS1.out.grow hb2).alloc (.cells #[.string ⟨#[]⟩, .int .u64 0, .int .i64 0, .int .i64 0] 57))
  clear hb2 HS1
  go_wp2_with fail
  refine (HB.out _ (HM.out.later HS2.out.below)).mono ?_
  rintro e w3 ⟨rfl, hb3⟩
  have HS3 := Lib.hid ((HS2.out.grow hb3).alloc (.cells #[.string ym, .int .u64 yg, .int .i64 yi, .int .i64 yo] 57))
  clear hb3 HS2
  have d0 : (w3.alloc (.cells #[.string ym, .int .u64 yg, .int .i64 yi, .int .i64 yo] 57)).cell? ⟨w2.heap.size, 0, none⟩ = some (.string ⟨#[]⟩) := HS3.out.cell 1 rfl rfl
  have d1 : (w3.alloc (.cells #[.string ym, .int .u64 yg, .int .i64 yi, .int .i64 yo] 57)).cell? ⟨w2.heap.size, 1, none⟩ = some (.int .u64 0) := HS3.out.cell 1 rfl rfl
  have d2 : (w3.alloc (.cells #[.string ym, .int .u64 yg, .int .i64 yi, .int .i64 yo] 57)).cell? ⟨w2.heap.size, 2, none⟩ = some (.int .i64 0) := HS3.out.cell 1 rfl rfl
  have d3 : (w3.alloc (.cells #[.string ym, .int .u64 yg, .int .i64 yi, .int .i64 yo] 57)).cell? ⟨w2.heap.size, 3, none⟩ = some (.int .i64 0) := HS3.out.cell 1 rfl rfl
  go_wp2_with fail
  refine (HPU.out _).mono ?_
  rintro e w4 ⟨rfl, rfl⟩
  go_wp2_with fail
  go_ret
  exact ⟨rfl, HS3.out.below⟩
set_option maxRecDepth 100000 in
set_option maxHeartbeats 8000000 in
theorem names_yes (a b : Nat) (ha : a < 256) (hb : b < 256) (c0 : Nat) (nm : List UInt8) (gs gi go : Nat) (ho : opOf a = some (c0, nm, gs, gi, go)) (w : World) (hm : MaxAt w) : Calls Tryd.prog 10 #[.int .u8 a, .int .u8 b] w (RetV (.bool true) w) := by
  have HM := Lib.hid hm
  have hok := okL _ (opOf_in ho).1
  have hc0 : c0 = a := (opOf_in ho).2
  simp only [okE, hc0] at hok
  have hnc := nameC_of ho
  have hnl := opOf_short ho
  have HA : Hid (∀ w, MaxAt w → Calls Tryd.prog 23 #[.int .u8 a] w (fun x w' => x = .returned (.tuple #[.agg #[.string (bs nm), .int .u64 gs, .int .i64 gi, .int .i64 go], .bool true]) ∧ Below w.heap.size w w')) := Lib.hid fun w hm => by
    have := ofx a w hm
    unfold OfP opD at this
    rw [ho] at this
    exact this
  obtain ⟨ym, yg, yi, yo, hy⟩ : ∃ (ym : ByteArray) (yg yi yo : Int), opD b = #[.string ym, .int .u64 yg, .int .i64 yi, .int .i64 yo] := by
    unfold opD
    cases opOf b with
    | none => exact ⟨_, _, _, _, rfl⟩
    | some f => exact ⟨_, _, _, _, rfl⟩
  have HB : Hid (∀ w, MaxAt w → Calls Tryd.prog 23 #[.int .u8 b] w (fun e w' => e = .returned (.tuple #[.agg #[.string ym, .int .u64 yg, .int .i64 yi, .int .i64 yo], .bool (opOf b).isSome]) ∧ Below w.heap.size w w')) := Lib.hid fun w hm => by
    have := ofx b w hm
    unfold OfP at this
    rwa [hy] at this
  have HC : Hid (∀ w, MaxAt w → Calls Tryd.prog 25 #[.string (bs nm)] w (fun x w' => x = .returned (.tuple #[.int .u8 a, .bool true]) ∧ Below w.heap.size w w')) := Lib.hid fun w hm => by
    have := codex nm w hm
    unfold CodeP at this
    rwa [hnc.1, hnc.2] at this
  obtain ⟨pn, pb, hpn⟩ : ∃ pn pb, pn = pushN (a : Int) ∧ pb = pushB (a : Int) := ⟨_, _, rfl, rfl⟩
  have HPU : Hid (∀ w, Calls Tryd.prog 27 #[.int .u8 (a : Int)] w (fun e w' => e = .returned (.tuple #[.int .i64 pn, .bool pb]) ∧ w = w')) := Lib.hid fun w => by
    have := push_any (a : Int) (by omega) (by omega) w
    unfold PushP at this
    rwa [← hpn.1, ← hpn.2] at this
  have HIS : Hid (∀ is, (opOf b).isSome = is → is = true → ((bs nm).toList == ym.toList) = ((a : Int) == (b : Int))) := Lib.hid fun is his hs => by
    subst his
    obtain ⟨f, hf⟩ := Option.isSome_iff_exists.1 hs
    have hq := opName_eq ho hf
    unfold opD at hy
    rw [hf] at hy
    simp only [opC, Array.mk.injEq, List.cons.injEq, Value.string.injEq] at hy
    rw [← hy.1]
    rw [Bool.eq_iff_iff]
    simp only [beq_iff_eq]
    rw [show (bs nm).toList = nm by rw [ByteArray.toList_eq]; rfl, show (⟨f.2.1.toArray⟩ : ByteArray).toList = f.2.1 by rw [ByteArray.toList_eq]]
    rw [hq]
    omega
  obtain ⟨is, his⟩ : ∃ is, (opOf b).isSome = is := ⟨_, rfl⟩
  have HIS2 := Lib.hid (HIS.out is his)
  rw [his] at HB
  have HPN := Lib.hid hpn
  obtain ⟨k1, k2, k3, k4, k5, k6⟩ := hok
  clear hm hnc hnl ho hy hpn his HIS hc0
  go_enter Tryd.func10, Tryd.ntmps10
  go_wp2_with fail
  refine (opex_any _ HM.out).mono ?_
  rintro e w1 ⟨rfl, hb1⟩
  have HS1 := Lib.hid ((St.start (ag_emp w)).grow hb1)
  clear hb1
  go_wp2_with fail
  refine (HA.out _ (HM.out.later HS1.out.below)).mono ?_
  rintro e w2 ⟨rfl, hb2⟩
  have HS2 := Lib.hid ((HS1.out.grow hb2).alloc (.cells #[.string (bs nm), .int .u64 gs, .int .i64 gi, .int .i64 go] 57))
  clear hb2 HS1
  go_wp2_with fail
  refine (HB.out _ (HM.out.later HS2.out.below)).mono ?_
  rintro e w3 ⟨rfl, hb3⟩
  have HS3 := Lib.hid ((HS2.out.grow hb3).alloc (.cells #[.string ym, .int .u64 yg, .int .i64 yi, .int .i64 yo] 57))
  clear hb3 HS2
  have d0 : (w3.alloc (.cells #[.string ym, .int .u64 yg, .int .i64 yi, .int .i64 yo] 57)).cell? ⟨w2.heap.size, 0, none⟩ = some (.string (bs nm)) := HS3.out.cell 1 rfl rfl
  go_wp2_with fail
  refine (HPU.out _).mono ?_
  rintro e w4 ⟨rfl, rfl⟩
  go_wp2_with fail
  refine (HC.out _ (HM.out.later HS3.out.below)).mono ?_
  rintro e w5 ⟨rfl, hb5⟩
  have HS5 := Lib.hid (HS3.out.grow hb5)
  clear HS3 hb5 d0
  have d0 : w5.cell? ⟨w2.heap.size, 0, none⟩ = some (.string (bs nm)) := HS5.out.cell 1 rfl rfl
  have d1 : w5.cell? ⟨w2.heap.size, 1, none⟩ = some (.int .u64 gs) := HS5.out.cell 1 rfl rfl
  have d2 : w5.cell? ⟨w2.heap.size, 2, none⟩ = some (.int .i64 gi) := HS5.out.cell 1 rfl rfl
  have d3 : w5.cell? ⟨w2.heap.size, 3, none⟩ = some (.int .i64 go) := HS5.out.cell 1 rfl rfl
  have y0 : w5.cell? ⟨w3.heap.size, 0, none⟩ = some (.string ym) := HS5.out.cell 0 rfl rfl
  go_upto_block 0 with fail
  go_cut [14] from 15 to 131 (fun s wx => s = .bool true ∧ wx = w5)
  case first =>
    have hpp : (95 ≤ a ∧ a ≤ 127) ∨ (a < 95 ∨ 127 < a) := by omega
    rcases hpp with ⟨h1, h2⟩ | h1
    · obtain ⟨e1, e2⟩ := push_yes (c := (a : Int)) (by omega) (by omega)
      have f1 := HPN.out.1
      have f2 := HPN.out.2
      rw [e1] at f1
      rw [e2] at f2
      obtain ⟨g1, g2⟩ := k1 h1 h2
      subst f1 f2 g1 g2
      clear k1 k2 k3 k4 k5 k6 e1 e2 HPN HPU
      go_wp2_with fail
      go_meet
      exact ⟨rfl, rfl⟩
    · have f2 := HPN.out.2
      rw [(push_no (c := (a : Int)) (by omega)).2] at f2
      subst f2
      rcases (by omega : (128 ≤ a ∧ a ≤ 143) ∨ (144 ≤ a ∧ a ≤ 159) ∨ (160 ≤ a ∧ a ≤ 164) ∨ (a < 128 ∨ 164 < a)) with ⟨h2, h3⟩ | ⟨h2, h3⟩ | ⟨h2, h3⟩ | h2
      · obtain ⟨g1, g2⟩ := k2 h2 h3
        have b1 : ((go : Int) == (gi : Int) + 1) = true := by rw [beq_iff_eq]; omega
        have b2 : ((gi : Int) == (a : Int) - 127) = true := by rw [beq_iff_eq]; omega
        clear k1 k2 k3 k4 k5 HPN HPU h1 g1 g2
        go_wp2_with fail
        go_meet
        exact ⟨rfl, rfl⟩
      · obtain ⟨g1, g2⟩ := k3 h2 h3
        have b1 : ((go : Int) == (gi : Int)) = true := by rw [beq_iff_eq]; omega
        have b2 : ((gi : Int) == (a : Int) - 142) = true := by rw [beq_iff_eq]; omega
        have m1 : 128 ≤ a := by omega
        have m2 : ¬ a ≤ 143 := by omega
        clear k1 k2 k3 k4 k5 HPN HPU h1 g1 g2
        go_wp2_with fail
        go_meet
        exact ⟨rfl, rfl⟩
      · obtain ⟨g1, g2, g3⟩ := k4 h2 h3
        have b1 : ((go : Int) == 0) = true := by rw [beq_iff_eq]; omega
        have b2 : ((gi : Int) == (a : Int) - 158) = true := by rw [beq_iff_eq]; omega
        have b3 : ((gs : Int) == 375) = true := by rw [beq_iff_eq]; omega
        have m1 : 128 ≤ a := by omega
        have m2 : ¬ a ≤ 143 := by omega
        have m3 : 144 ≤ a := by omega
        have m4 : ¬ a ≤ 159 := by omega
        clear k1 k2 k3 k4 k5 HPN HPU h1 g1 g2 g3
        go_wp2_with fail
        go_meet
        exact ⟨rfl, rfl⟩
      · clear k1 k2 k3 k4 k5 k6 HPN HPU h1
        rcases h2 with h2 | h2
        · go_wp2_with fail
          go_meet
          exact ⟨rfl, rfl⟩
        · have m1 : 128 ≤ a := by omega
          have m2 : ¬ a ≤ 143 := by omega
          have m3 : 144 ≤ a := by omega
          have m4 : ¬ a ≤ 159 := by omega
          have m5 : 160 ≤ a := by omega
          have m6 : ¬ a ≤ 164 := by omega
          go_wp2_with fail
          go_meet
          exact ⟨rfl, rfl⟩
  case rest =>
    obtain ⟨rfl, rfl⟩ := hcut
    clear k1 k2 k3 k4 HPN HPU
    have hio : (go : Int) ≤ (gi : Int) + 1 := by omega
    have hi17 : (gi : Int) ≤ 17 := by omega
    cases is with
    | false =>
      go_wp2_with fail
      go_ret
      exact ⟨rfl, HS5.out.below⟩
    | true =>
      have hnm := HIS2.out rfl
      by_cases hab : a = b
      · subst hab
        rw [show ((a : Int) == (a : Int)) = true by simp] at hnm
        go_wp2_with fail
        go_ret
        exact ⟨rfl, HS5.out.below⟩
      · have hne : ((a : Int) == (b : Int)) = false := by rw [beq_eq_false_iff_ne]; omega
        rw [hne] at hnm
        go_wp2_with fail
        go_ret
        exact ⟨rfl, HS5.out.below⟩
theorem names_any (a b : Nat) (ha : a < 256) (hb : b < 256) (w : World) (hm : MaxAt w) : Calls Tryd.prog 10 #[.int .u8 a, .int .u8 b] w (RetV (.bool true) w) := by
  cases ho : opOf a with
  | none => exact names_no a b ha hb ho w hm
  | some e => exact names_yes a b ha hb e.1 e.2.1 e.2.2.1 e.2.2.2.1 e.2.2.2.2 ho w hm
end Go.Proofs.YtfphlkkhpccpnaaDoor
