/-
  OpInfos: the walk.
-/
import Derived.Test.YtfphlkkhpccpnaaDoorROf
import Derived.Test.YtfphlkkhpccpnaaDoorRowO
namespace Go.Proofs.YtfphlkkhpccpnaaDoor
open Go.RowKit Go.Proofs K
set_option linter.unusedVariables false

set_option maxRecDepth 100000 in
set_option maxHeartbeats 4000000 in
theorem infos_any (c : Nat) (hc : c < 256) (s : List UInt8) (w : World) (hm : MaxAt w) : Calls Tryd.prog 8 #[.int .u8 c, .string (bs s)] w (RetV (.bool true) w) := by
  have HM := Lib.hid hm
  obtain ⟨ym, yg, yi, yo, hy⟩ : ∃ (ym : ByteArray) (yg yi yo : Int), opD c = #[.string ym, .int .u64 yg, .int .i64 yi, .int .i64 yo] := by
    unfold opD
    cases opOf c with
    | none => exact ⟨_, _, _, _, rfl⟩
    | some f => exact ⟨_, _, _, _, rfl⟩
  obtain ⟨is, his⟩ : ∃ is, (opOf c).isSome = is := ⟨_, rfl⟩
  have HA : Hid (∀ w, MaxAt w → Calls Tryd.prog 23 #[.int .u8 c] w (fun e w' => e = .returned (.tuple #[.agg #[.string ym, .int .u64 yg, .int .i64 yi, .int .i64 yo], .bool is]) ∧ Below w.heap.size w w')) := Lib.hid fun w hm => by
    have := ofx c w hm
    unfold OfP at this
    rwa [hy, his] at this
  have HB : Hid (∀ w, Calls Tryd.prog 24 #[.int .u8 c] w (fun e w' => e = .returned (.tuple #[.agg #[.string ym, .int .u64 yg, .int .i64 yi, .int .i64 yo], .bool is]) ∧ Below w.heap.size w w')) := Lib.hid fun w => by
    have := rofop_any c hc w
    unfold OfP at this
    rwa [hy, his] at this
  obtain ⟨nc, hnc⟩ : ∃ nc, nameC s = nc := ⟨_, rfl⟩
  obtain ⟨is2, his2⟩ : ∃ is, (opNamed s).isSome = is := ⟨_, rfl⟩
  have HC : Hid (∀ w, MaxAt w → Calls Tryd.prog 25 #[.string (bs s)] w (fun e w' => e = .returned (.tuple #[.int .u8 nc, .bool is2]) ∧ Below w.heap.size w w')) := Lib.hid fun w hm => by
    have := codex s w hm
    unfold CodeP at this
    rwa [hnc, his2] at this
  have HD : Hid (∀ w, Calls Tryd.prog 26 #[.string (bs s)] w (fun e w' => e = .returned (.tuple #[.int .u8 nc, .bool is2]) ∧ Below w.heap.size w w')) := Lib.hid fun w => by
    have := rcodeop_any s w
    unfold CodeP at this
    rwa [hnc, his2] at this
  obtain ⟨pn, pb, hpn⟩ : ∃ pn pb, pn = pushN (c : Int) ∧ pb = pushB (c : Int) := ⟨_, _, rfl, rfl⟩
  have HP : Hid (∀ w, Calls Tryd.prog 27 #[.int .u8 (c : Int)] w (fun e w' => e = .returned (.tuple #[.int .i64 pn, .bool pb]) ∧ w = w')) := Lib.hid fun w => by
    have := push_any (c : Int) (by omega) (by omega) w
    unfold PushP at this
    rwa [← hpn.1, ← hpn.2] at this
  have HQ : Hid (∀ w, Calls Tryd.prog 28 #[.int .u8 (c : Int)] w (fun e w' => e = .returned (.tuple #[.int .i64 pn, .bool pb]) ∧ w = w')) := Lib.hid fun w => by
    have := rpush_any (c : Int) (by omega) (by omega) w
    unfold PushP at this
    rwa [← hpn.1, ← hpn.2] at this
  clear hm hy his hnc his2 hpn
  go_enter Tryd.func8, Tryd.ntmps8
  go_wp2_with fail
  refine (opex_any _ HM.out).mono ?_
  rintro e w1 ⟨rfl, hb1⟩
  have HS1 := Lib.hid ((St.start (ag_emp w)).grow hb1)
  clear hb1
  go_wp2_with fail
  refine (HA.out _ (HM.out.later HS1.out.below)).mono ?_
  rintro e w2 ⟨rfl, hb2⟩
  have HS2 := Lib.hid ((HS1.out.grow hb2).alloc (.cells #[.string ym, .int .u64 yg, .int .i64 yi, .int .i64 yo] 57))
  clear hb2 HS1
  go_wp2_with fail
  refine (HB.out _).mono ?_
  rintro e w3 ⟨rfl, hb3⟩
  have HS3 := Lib.hid ((HS2.out.grow hb3).alloc (.cells #[.string ym, .int .u64 yg, .int .i64 yi, .int .i64 yo] 60))
  clear hb3 HS2
  go_wp2_with fail
  refine (HC.out _ (HM.out.later HS3.out.below)).mono ?_
  rintro e w4 ⟨rfl, hb4⟩
  have HS4 := Lib.hid (HS3.out.grow hb4)
  clear hb4 HS3
  go_wp2_with fail
  refine (HD.out _).mono ?_
  rintro e w5 ⟨rfl, hb5⟩
  have HS5 := Lib.hid (HS4.out.grow hb5)
  clear hb5 HS4
  go_wp2_with fail
  refine (HP.out _).mono ?_
  rintro e w6 ⟨rfl, rfl⟩
  go_wp2_with fail
  refine (HQ.out _).mono ?_
  rintro e w6 ⟨rfl, rfl⟩
  have d0 : w5.cell? ⟨w2.heap.size, 0, none⟩ = some (.string ym) := HS5.out.cell 1 rfl rfl
  have d1 : w5.cell? ⟨w2.heap.size, 1, none⟩ = some (.int .u64 yg) := HS5.out.cell 1 rfl rfl
  have d2 : w5.cell? ⟨w2.heap.size, 2, none⟩ = some (.int .i64 yi) := HS5.out.cell 1 rfl rfl
  have d3 : w5.cell? ⟨w2.heap.size, 3, none⟩ = some (.int .i64 yo) := HS5.out.cell 1 rfl rfl
  have f0 : w5.cell? ⟨w3.heap.size, 0, none⟩ = some (.string ym) := HS5.out.cell 0 rfl rfl
  have f1 : w5.cell? ⟨w3.heap.size, 1, none⟩ = some (.int .u64 yg) := HS5.out.cell 0 rfl rfl
  have f2 : w5.cell? ⟨w3.heap.size, 2, none⟩ = some (.int .i64 yi) := HS5.out.cell 0 rfl rfl
  have f3 : w5.cell? ⟨w3.heap.size, 3, none⟩ = some (.int .i64 yo) := HS5.out.cell 0 rfl rfl
  go_wp2_with fail
  go_ret
  exact ⟨rfl, HS5.out.below⟩
theorem infos_wf {a : Int} (ha : (Lit.int .u8 a).wf = true) (s : ByteArray) (W : World) (h : W.ShapedOpen Tryd.prog) : Calls Tryd.prog 8 #[.int .u8 a, .string s] W (RetV (.bool true) W) := by
  obtain ⟨n, rfl, hn⟩ := wf8 ha
  exact infos_any n hn s.data.toList W (maxAt_shaped h)
end Go.Proofs.YtfphlkkhpccpnaaDoor
