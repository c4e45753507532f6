/-
  ForkFull, walked.
  Arguments: what a call is given, read as data of a shape.
  Arguments of the door's rows; a world in which the listed variables lie.
  Arguments of the door's rows: numbers' bounds; an account, an ask, a reply.
  ForkFull returns true, whatever it is given.
-/
import Derived.Test.YtdnpobjokajigaaGreatDoorPart28
import Derived.Test.YtdnpobjokajigaaGreatDoorK
import Derived.WalkKit
import Derived.ProofKit
import Derived.OpenShut
import Derived.ChangeArms
import Derived.Carry
import Derived.Handed
import GoSem.ClaimJoined
import Derived.Test.YtdnpobjokajigaaGreatDoorRows
import Derived.Test.YtdnpobjokajigaaGreatDoorTie
import Derived.Test.YtdnpobjokajigaaGreatDoorPart1
import Derived.Lib.LaidIn
import Derived.Lib.LaidU8T
import Derived.Deep.DeepHandedRow
import Derived.Deep.DeepWitnessRowRef
import Derived.SizedLaws
import Derived.ShutString
import Derived.ChangeOld
import Derived.Below
namespace Go.Proofs.YtdnpobjokajigaaGreatDoor
open Go.RowKit Go.Proofs K
set_option linter.unusedVariables false
set_option maxRecDepth 100000 in
set_option maxHeartbeats 8000000 in
theorem full_any (room n a b c d n' a' b' c' d' : Int) (code code' : ByteArray) (hr : 0 ≤ room) (hn : W64 n) (ha : W64 a) (hb : W64 b) (hc : W64 c) (hd : W64 d) (hn' : W64 n') (ha' : W64 a') (hb' : W64 b') (hc' : W64 c') (hd' : W64 d') (w : World) :
    Calls Tryz.prog 4 #[.int .u16 room, .agg (accC n a b c d code), .agg (accC n' a' b' c' d' code')] w (RetV (.bool true) w) := by
  have HS := Lib.hid (((St.start (ag_emp w)).alloc' (.cells (accC n a b c d code) 26) w.heap.size rfl).alloc' (.cells (accC n' a' b' c' d' code') 26) (w.heap.size + 1) (by simp))
  obtain ⟨r, hrm⟩ : ∃ r, r = room.tmod 301 := ⟨_, rfl⟩
  have hr0 : 0 ≤ r ∧ r ≤ 300 := by
    rw [hrm, Int.tmod_eq_emod_of_nonneg hr]
    omega
  have HP := Lib.hid (fun T1 T2 T3 => full_plain (room := r) (T1 := T1) (T2 := T2) (T3 := T3) hr0.2 hn ha hb hc hd hn' ha' hb' hc' hd')
  have HR := Lib.hid hr0
  have HRM := Lib.hid hrm
  clear hn ha hb hc hd hn' ha' hb' hc' hd' hr0 hr hrm
  simp only [accC] at HS ⊢
  go_enter Tryz.func4, Tryz.ntmps4
  go_wp2_with fail
  refine (examples9 _).mono ?_
  rintro e w1 ⟨rfl, hb1⟩
  have HS1 := Lib.hid (HS.out.grow hb1)
  have k5 : w1.cell? ⟨w.heap.size, 5, none⟩ = some (.string code) := HS1.out.cell 1 rfl rfl
  have f5 : w1.frozen? ⟨w.heap.size, 5, none⟩ = false := HS1.out.frozen 1 rfl 5
  clear HS hb1
  go_upto_region 5 with (fail)
  obtain ⟨w2, hw2⟩ : ∃ w2, w2 = w1.setCell ⟨w.heap.size, 5, none⟩ (.string ⟨#[]⟩) := ⟨_, rfl⟩
  have HS2 : Hid (St empH w none_ empH w2 [blk w.heap.size (.cells (accC n a b c d ⟨#[]⟩) 26), blk (w.heap.size + 1) (.cells (accC n' a' b' c' d' code') 26)]) := by
    rw [hw2]
    exact Lib.hid (HS1.out.setCell (j := 5) 1 rfl (.string ⟨#[]⟩))
  rw [← hw2]
  clear hw2 HS1 k5 f5
  have k5 : w2.cell? ⟨w.heap.size + 1, 5, none⟩ = some (.string code') := HS2.out.cell 1 rfl rfl
  have f5 : w2.frozen? ⟨w.heap.size + 1, 5, none⟩ = false := HS2.out.frozen 1 rfl 5
  go_upto_region 6 with (fail)
  obtain ⟨w3, hw3⟩ : ∃ w3, w3 = w2.setCell ⟨w.heap.size + 1, 5, none⟩ (.string ⟨#[]⟩) := ⟨_, rfl⟩
  have HS3 : Hid (St empH w none_ empH w3 [blk (w.heap.size + 1) (.cells (accC n' a' b' c' d' ⟨#[]⟩) 26), blk w.heap.size (.cells (accC n a b c d ⟨#[]⟩) 26)]) := by
    rw [hw3]
    exact Lib.hid (HS2.out.setCell (j := 5) 1 rfl (.string ⟨#[]⟩))
  rw [← hw3]
  clear hw3 HS2 k5 f5
  have hwr : IntKind.i64.wrap (room.tmod 301) = r := by
    rw [← HRM.out]
    exact IntWalk.i64_in _ ⟨by have := HR.out; omega, by have := HR.out; omega⟩
  go_wp2_with fail
  refine (new6_at HS3.out r HR.out.1 (by have := HR.out; omega)).mono ?_
  rintro e w4 ⟨dd, rfl, S4⟩
  have HS4 := Lib.hid S4
  clear S4 HS3 hwr
  simp only [ptr]
  go_wp2_with fail
  refine (newC_any HS4.out (freshD_ok (by have := HR.out; omega)) nameC).mono ?_
  rintro e w5 ⟨cc, rfl, S5⟩
  rw [new_fresh] at S5
  have HS5 := Lib.hid S5
  clear S5 HS4
  go_wp2_with (first
    | (refine wpList_load_st (cs := #[.int .u64 n, .int .u64 a, .int .u64 b, .int .u64 c, .int .u64 d, .string ⟨#[]⟩]) 3 HS5.out rfl rfl 26 (.tmp 4) rfl rfl _ Tryz.underlying26 rfl szAcc ?_)
    | fail)
  refine (putReply_all 1 1 n a b c d ⟨#[]⟩ 0 0 0 0 _).mono ?_
  rintro e w6 ⟨rfl, hb6⟩
  have HS6 := Lib.hid (HS5.out.grow hb6)
  clear HS5 hb6
  go_wp2_with (first
    | (refine wpList_load_st (cs := #[.int .u64 n', .int .u64 a', .int .u64 b', .int .u64 c', .int .u64 d', .string ⟨#[]⟩]) 2 HS6.out rfl rfl 26 (.tmp 5) rfl rfl _ Tryz.underlying26 rfl szAcc ?_)
    | fail)
  refine (putReply_all 1 2 n' a' b' c' d' ⟨#[]⟩ 0 0 0 0 _).mono ?_
  rintro e w7 ⟨rfl, hb7⟩
  rw [show (putReplyR 1 1 n a b c d ⟨#[]⟩ 0 0 0 0).1 = nrS 1 n a b c d from rfl, show (putReplyR 1 2 n' a' b' c' d' ⟨#[]⟩ 0 0 0 0).1 = nrS 2 n' a' b' c' d' from rfl]
  obtain ⟨s, hs⟩ : ∃ s, s = nrS 1 n a b c d := ⟨_, rfl⟩
  obtain ⟨o, ho⟩ : ∃ o, o = nrS 2 n' a' b' c' d' := ⟨_, rfl⟩
  have HSZ : Hid (s.size ≤ 100000 ∧ o.size ≤ 100000) := Lib.hid ⟨by rw [hs]; exact Nat.le_trans (one_size (Nat.zero_le _)) (by decide), by rw [ho]; exact Nat.le_trans (one_size (Nat.zero_le _)) (by decide)⟩
  rw [← hs, ← ho] at HP ⊢
  have HS8 := Lib.hid ((HS6.out.grow hb7).madeRow (e := 9) (size := 1) (n := 2) #[.string s, .string o] rfl (by decide))
  have HSC := Lib.hid (script_any (C := freshC) HS8.out 1 rfl (some ⟨w7.heap.size, 0, none⟩) 2 [s, o] (fun e => by cases e) (fun ad e j u h => by
    cases e
    exact (rowO_of (HS8.out.own_at 0 rfl)).cells j u h) (by show (0 : Nat) + 2 ≤ _; omega))
  clear HS6 hb7 hs ho
  simp only [List.length_cons, List.length_nil, Nat.zero_add, Nat.reduceAdd] at HSC
  go_wp2_with fail
  refine HSC.out.mono ?_
  rintro e w8 ⟨rfl, S8⟩
  have HS9 : Hid (St empH w none_ empH w8 [cliP cc dd { freshC with script := [s, o] }, diskP dd (freshD r), own 9 1 (.slice (some ⟨w7.heap.size, 0, none⟩) 2 2) 2 [.string s, .string o], blk (w.heap.size + 1) (.cells (accC n' a' b' c' d' ⟨#[]⟩) 26), blk w.heap.size (.cells (accC n a b c d ⟨#[]⟩) 26)]) := Lib.hid ((S8.pick 2 rfl).pick 1 rfl)
  clear S8 HSC HS8
  obtain ⟨C0, hC0⟩ : ∃ C0 : Cl, C0 = { freshC with script := [s, o] } := ⟨_, rfl⟩
  obtain ⟨D0, hD0⟩ : ∃ D0 : Dk, D0 = freshD r := ⟨_, rfl⟩
  rw [← hC0, ← hD0] at HS9
  rw [← hC0, ← hD0] at HP
  have HM0 : Hid (C0.may 3) := Lib.hid (by
    rw [hC0]
    refine ⟨by show (0 : Int) ≤ 1; omega, by show (1 : Int) + 9 ≤ _; omega, by show 0 + 9 ≤ _; omega, fun t ht => ?_⟩
    have ht : t ∈ [s, o] := ht
    have h1 := HSZ.out.1
    have h2 := HSZ.out.2
    simp only [List.mem_cons, List.not_mem_nil, or_false] at ht
    rcases ht with rfl | rfl <;> omega)
  have HO0 : Hid D0.ok := Lib.hid (by rw [hD0]; exact freshD_ok (by have := HR.out; omega))
  clear hC0 hD0
  go_wp2_with fail
  refine (address_any 0 (by decide) _).mono ?_
  rintro e w9 ⟨rfl, hb⟩
  have HSw9 := Lib.hid (HS9.out.grow hb)
  clear HS9 hb
  have HA := account_any HSw9.out HO0.out (addrB 0) HM0.out.ok
  rw [show ((0 : Int) % 5) = 0 from rfl]
  obtain ⟨T1, hT1⟩ : ∃ T1, T1 = askF0 C0 D0 (accX (addrB 0)) := ⟨_, rfl⟩
  rw [← hT1] at HA
  have HA := Lib.hid HA
  have HT1 := Lib.hid hT1
  clear hT1
  go_wp2_with fail
  refine HA.out.mono ?_
  rintro e w10 ⟨rfl, S⟩
  obtain ⟨rc1, hrc⟩ : ∃ rc, rc = (T1.out.map ReplyS.acc).getD acc0 := ⟨_, rfl⟩
  have h61 : rc1.size = 6 := by rw [hrc]; exact outLen (f := ReplyS.acc) (z := acc0) (fun _ => rfl) rfl _
  have h11 : rc1.all (·.oneCell') = true := by rw [hrc]; exact outOne (fun _ => oneAcc _ _ _ _ _ _) (oneAcc _ _ _ _ _ _) _
  have HRC1 := Lib.hid hrc
  rw [← hrc]
  have HZ := Lib.hid (S.alloc' (.cells acc0 26) w10.heap.size rfl)
  clear hrc S HA HSw9
  simp only [acc0, accC] at HZ
  go_wp2_with (first
    | (refine wpList_store_st (cs := rc1) 0 HZ.out rfl rfl 26 (.tmp 15) (.tmp 66) rfl rfl rfl (by rw [h61]; exact szAcc) (by rw [h61]; rfl) h11 ?_)
    | fail)
  intro w11 S
  have HF1 := Lib.hid (show After C0 T1 by rw [HT1.out]; exact ask_after _ _ _ HO0.out)
  have HM1 := Lib.hid (HM0.out.next HF1.out)
  have HS12 := Lib.hid ((S.pick 2 rfl).pick 2 rfl)
  have HKN := Lib.hid (known_any HS12.out 0 rfl)
  clear S HZ
  go_wp2_with fail
  refine HKN.out.mono ?_
  rintro e w12 ⟨rfl, S⟩
  have HS13 := Lib.hid S
  have HUS := Lib.hid (used_any (diskAt_of HS13.out 1 rfl) (Nat.le_trans HF1.out.d.fit (by decide)))
  clear S HS12 HKN
  go_wp2_with fail
  refine HUS.out.mono ?_
  rintro e w13 ⟨rfl, hb⟩
  have HS14 := Lib.hid (HS13.out.grow hb)
  clear hb HS13 HUS
  go_wp2_with fail
  refine (address_any 1 (by decide) _).mono ?_
  rintro e w14 ⟨rfl, hb⟩
  have HSw14 := Lib.hid (HS14.out.grow hb)
  clear HS14 hb
  have HA := account_any HSw14.out HF1.out.d (addrB 1) HM1.out.ok
  rw [show ((1 : Int) % 5) = 1 from rfl]
  obtain ⟨T2, hT2⟩ : ∃ T2, T2 = askF0 T1.c T1.d (accX (addrB 1)) := ⟨_, rfl⟩
  rw [← hT2] at HA
  have HA := Lib.hid HA
  have HT2 := Lib.hid hT2
  clear hT2
  go_wp2_with fail
  refine HA.out.mono ?_
  rintro e w15 ⟨rfl, S⟩
  obtain ⟨rc2, hrc⟩ : ∃ rc, rc = (T2.out.map ReplyS.acc).getD acc0 := ⟨_, rfl⟩
  have h62 : rc2.size = 6 := by rw [hrc]; exact outLen (f := ReplyS.acc) (z := acc0) (fun _ => rfl) rfl _
  have h12 : rc2.all (·.oneCell') = true := by rw [hrc]; exact outOne (fun _ => oneAcc _ _ _ _ _ _) (oneAcc _ _ _ _ _ _) _
  have HRC2 := Lib.hid hrc
  rw [← hrc]
  have HZ := Lib.hid (S.alloc' (.cells acc0 26) w15.heap.size rfl)
  clear hrc S HA HSw14
  simp only [acc0, accC] at HZ
  go_wp2_with (first
    | (refine wpList_store_st (cs := rc2) 0 HZ.out rfl rfl 26 (.tmp 19) (.tmp 76) rfl rfl rfl (by rw [h62]; exact szAcc) (by rw [h62]; rfl) h12 ?_)
    | fail)
  intro w16 S
  have HF2 := Lib.hid (show After T1.c T2 by rw [HT2.out]; exact ask_after _ _ _ HF1.out.d)
  have HM2 := Lib.hid (HM1.out.next HF2.out)
  have HS17 := Lib.hid ((S.pick 2 rfl).pick 2 rfl)
  clear S HZ
  go_wp2_with fail
  refine (address_any 0 (by decide) _).mono ?_
  rintro e w17 ⟨rfl, hb⟩
  have HSw17 := Lib.hid (HS17.out.grow hb)
  clear HS17 hb
  have HA := account_any HSw17.out HF2.out.d (addrB 0) HM2.out.ok
  rw [show ((0 : Int) % 5) = 0 from rfl]
  obtain ⟨T3, hT3⟩ : ∃ T3, T3 = askF0 T2.c T2.d (accX (addrB 0)) := ⟨_, rfl⟩
  rw [← hT3] at HA
  have HA := Lib.hid HA
  have HT3 := Lib.hid hT3
  clear hT3
  go_wp2_with fail
  refine HA.out.mono ?_
  rintro e w18 ⟨rfl, S⟩
  obtain ⟨rc3, hrc⟩ : ∃ rc, rc = (T3.out.map ReplyS.acc).getD acc0 := ⟨_, rfl⟩
  have h63 : rc3.size = 6 := by rw [hrc]; exact outLen (f := ReplyS.acc) (z := acc0) (fun _ => rfl) rfl _
  have h13 : rc3.all (·.oneCell') = true := by rw [hrc]; exact outOne (fun _ => oneAcc _ _ _ _ _ _) (oneAcc _ _ _ _ _ _) _
  have HRC3 := Lib.hid hrc
  rw [← hrc]
  have HZ := Lib.hid (S.alloc' (.cells acc0 26) w18.heap.size rfl)
  clear hrc S HA HSw17
  simp only [acc0, accC] at HZ
  go_wp2_with (first
    | (refine wpList_store_st (cs := rc3) 0 HZ.out rfl rfl 26 (.tmp 21) (.tmp 82) rfl rfl rfl (by rw [h63]; exact szAcc) (by rw [h63]; rfl) h13 ?_)
    | fail)
  intro w19 S
  have HF3 := Lib.hid (show After T2.c T3 by rw [HT3.out]; exact ask_after _ _ _ HF2.out.d)
  have HS20 := Lib.hid S
  clear S HZ
  have hfull := HP.out T1 T2 T3 HT1.out HT2.out HT3.out
  clear HP HT1 HT2 HT3
  rcases hfull with ⟨e1, e2, e3, e4, e5⟩ | ⟨e1, e2, e3, e4, e5⟩
  · rw [e1, e2, e3, e5]
    clear e1 e2 e3 e5
    rcases e4 with e4 | e4
    all_goals
      rw [e4]
      clear e4 h61 h62 h63
      go_wp2_with fail
      go_ret
      exact ⟨rfl, HS20.out.below⟩
  · have hrc : rc3 = accC n a b c d ⟨#[]⟩ := by rw [HRC3.out, e4]; rfl
    have HS21 := Lib.hid HS20.out
    rw [hrc] at HS21
    have p0 : w19.cell? ⟨w18.heap.size, 0, none⟩ = some (.int .u64 n) := HS21.out.cell 0 rfl rfl
    have q0 : w19.cell? ⟨w.heap.size, 0, none⟩ = some (.int .u64 n) := HS21.out.cell 7 rfl rfl
    have p1 : w19.cell? ⟨w18.heap.size, 1, none⟩ = some (.int .u64 a) := HS21.out.cell 0 rfl rfl
    have q1 : w19.cell? ⟨w.heap.size, 1, none⟩ = some (.int .u64 a) := HS21.out.cell 7 rfl rfl
    have p2 : w19.cell? ⟨w18.heap.size, 2, none⟩ = some (.int .u64 b) := HS21.out.cell 0 rfl rfl
    have q2 : w19.cell? ⟨w.heap.size, 2, none⟩ = some (.int .u64 b) := HS21.out.cell 7 rfl rfl
    have p3 : w19.cell? ⟨w18.heap.size, 3, none⟩ = some (.int .u64 c) := HS21.out.cell 0 rfl rfl
    have q3 : w19.cell? ⟨w.heap.size, 3, none⟩ = some (.int .u64 c) := HS21.out.cell 7 rfl rfl
    have p4 : w19.cell? ⟨w18.heap.size, 4, none⟩ = some (.int .u64 d) := HS21.out.cell 0 rfl rfl
    have q4 : w19.cell? ⟨w.heap.size, 4, none⟩ = some (.int .u64 d) := HS21.out.cell 7 rfl rfl
    have p5 : w19.cell? ⟨w18.heap.size, 5, none⟩ = some (.string ⟨#[]⟩) := HS21.out.cell 0 rfl rfl
    have q5 : w19.cell? ⟨w.heap.size, 5, none⟩ = some (.string ⟨#[]⟩) := HS21.out.cell 7 rfl rfl
    rw [e1, e2, e3]
    clear e1 e2 e3 e4 hrc h61 h62 h63 HS20
    have HKN := known_any HS21.out 1 rfl
    rcases e5 with ⟨e5, e6⟩ | ⟨e5, e6, e7⟩
    · rw [e6] at HKN
      have HKN := Lib.hid HKN
      rw [e5]
      clear e5 e6
      go_wp2_with fail
      refine HKN.out.mono ?_
      rintro e w20 ⟨rfl, S⟩
      have HB := Lib.hid S.below
      clear S HKN
      go_wp2_with fail
      go_ret
      exact ⟨rfl, HB.out⟩
    · rw [e6] at HKN
      have HKN := Lib.hid HKN
      rw [e5]
      have HU := Lib.hid e7
      clear e5 e6 e7
      go_wp2_with fail
      refine HKN.out.mono ?_
      rintro e w20 ⟨rfl, S⟩
      have HS22 := Lib.hid S
      have HUS := used_any (diskAt_of HS22.out 2 rfl) (Nat.le_trans HF3.out.d.fit (by decide))
      rw [HU.out] at HUS
      have HUS := Lib.hid HUS
      clear S HKN p0 p1 p2 p3 p4 p5 q0 q1 q2 q3 q4 q5
      go_wp2_with fail
      refine HUS.out.mono ?_
      rintro e w21 ⟨rfl, hb⟩
      have HB := Lib.hid (HS22.out.grow hb).below
      clear hb HUS
      go_wp2_with fail
      go_ret
      exact ⟨rfl, HB.out⟩
end Go.Proofs.YtdnpobjokajigaaGreatDoor

namespace Go.Proofs.YtdnpobjokajigaaGreatDoor.K
open Go.RowKit Go.ChangeShapes Go.WideShapes

/-- What a cell may hold: a bool, a number, a text, a slice (how many bytes an element has, what its cells may hold). -/
inductive Sh where
  | bool
  | int (k : IntKind)
  | str
  | sl (bytes : Nat) (e : List Sh)

mutual
inductive FitV : D → Sh → Prop
  | bool (b : Bool) : FitV (.v (.bool b)) .bool
  | int {k : IntKind} {n : Int} (h : (Lit.int k n).wf = true) : FitV (.v (.int k n)) (.int k)
  | str {s : ByteArray} (h : s.size ≤ reachBytes) : FitV (.v (.string s)) .str
  | sl {bytes n : Nat} {ds : List D} {e : List Sh} (hb : n * bytes ≤ reachBytes) (h : FitN ds n e) : FitV (.sl e.length n ds) (.sl bytes e)
inductive FitL : List D → List Sh → Prop
  | nil : FitL [] []
  | cons {d : D} {s : Sh} {ds : List D} {ss : List Sh} (h : FitV d s) (t : FitL ds ss) : FitL (d :: ds) (s :: ss)
inductive FitN : List D → Nat → List Sh → Prop
  | nil {e : List Sh} : FitN [] 0 e
  | cons {a b : List D} {n : Nat} {e : List Sh} (h : FitL a e) (t : FitN b n e) : FitN (a ++ b) (n + 1) e
end
theorem FitL.len : ∀ {ds : List D} {ss : List Sh}, FitL ds ss → ds.length = ss.length
  | _, _, .nil => rfl
  | _, _, .cons _ t => by simp [FitL.len t]
theorem FitL.append : ∀ {ds : List D} {ss : List Sh} {ds' : List D} {ss' : List Sh}, FitL ds ss → FitL ds' ss' → FitL (ds ++ ds') (ss ++ ss')
  | _, _, _, _, .nil, h => h
  | _, _, _, _, .cons h t, h' => .cons h (FitL.append t h')
theorem FitN.len : ∀ {ds : List D} {n : Nat} {e : List Sh}, FitN ds n e → ds.length = n * e.length
  | _, _, _, .nil => by simp
  | _, _, _, .cons h t => by rw [List.length_append, h.len, FitN.len t, Nat.succ_mul]; omega

/-- The fields, one behind the other. -/
def shapesFs (g : TypeId → Option (List Sh)) (P : Program) : List Field → Nat → Option (List Sh)
  | [], _ => some []
  | f :: r, o => if f.offset = o then (g f.type).bind fun l => if l.length = P.cellsOf f.type then (shapesFs g P r (o + l.length)).map (l ++ ·) else none else none
/-- The cells of a type, as shapes. -/
def shapes (P : Program) : Nat → TypeId → Option (List Sh)
  | 0, _ => none
  | k + 1, t => match P.underlying t with
    | some .bool => some [.bool]
    | some (.int q) => some [.int q]
    | some .string => some [.str]
    | some (.slice e) => (shapes P k e).bind fun l => if 0 < l.length ∧ l.length = P.cellsOf e then some [.sl (P.bytesOf e) l] else none
    | some (.struct fs) => (shapesFs (shapes P k) P fs.toList 0).bind fun l => if l.length = P.cellsOf t then some l else none
    | _ => none

section
variable {H : Type} {enc : TypeId × Value → H} {P : Program} {w : World} {base : Nat} {held : Bool}

/-- What a shape's reading gives. -/
def Reads (enc : TypeId × Value → H) (P : Program) (w : World) (base : Nat) (held : Bool) (g : TypeId → Option (List Sh)) : Prop :=
  ∀ (t : TypeId) (sh : List Sh), g t = some sh → ∀ (fuel : Nat) (cs : List Value) (x : DataW H × List MemPlace), DataW.trod enc P w base (fun _ => true) held fuel t cs = some x → (x.1.weights P t).all (· ≤ reachBytes) = true →
    ∃ ds, RepL (allOf w) cs ds ∧ FitL ds sh

theorem read_fields {g : TypeId → Option (List Sh)} (hg : Reads enc P w base held g) {n : Nat} : ∀ (fs : List Field) (xs : List (DataW H × List MemPlace)) (o : Nat) (l : List Sh) (cs : List Value), shapesFs g P fs o = some l → xs.length = fs.length → o + l.length = cs.length →
    (∀ (i : Nat) (f : Field), fs[i]? = some f → DataW.trod enc P w base (fun _ => true) held n f.type ((cs.drop f.offset).take (P.cellsOf f.type)) = xs[i]?) → (DataW.weightsEach P (fs.map (·.type)) (xs.map (·.1))).all (· ≤ reachBytes) = true →
    ∃ ds, RepL (allOf w) (cs.drop o) ds ∧ FitL ds l
  | [], _, o, l, cs, hs, _, hl, _, _ => by
    cases hs
    refine ⟨[], ?_, .nil⟩
    rw [List.drop_of_length_le (by simpa using Nat.le_of_eq hl.symm)]
    exact .nil
  | f :: r, [], _, _, _, _, hx, _, _, _ => by simp at hx
  | f :: r, x :: xs, o, l, cs, hs, hx, hl, hr, hw => by
    unfold shapesFs at hs
    split at hs
    · rename_i ho
      obtain ⟨l1, h1, h2⟩ := Option.bind_eq_some_iff.1 hs
      split at h2
      · rename_i hlen
        obtain ⟨l2, h3, rfl⟩ := Option.map_eq_some_iff.1 h2
        have h0 := hr 0 f rfl
        rw [ho, ← hlen] at h0
        simp only [List.map_cons, DataW.weightsEach, List.all_append, Bool.and_eq_true] at hw
        obtain ⟨d1, r1, f1⟩ := hg f.type l1 h1 n _ x h0 hw.1
        obtain ⟨d2, r2, f2⟩ := read_fields hg r xs (o + l1.length) l2 cs h3 (by simpa using hx) (by rw [List.length_append] at hl; omega) (fun i f' hi => hr (i + 1) f' (by simpa using hi)) hw.2
        refine ⟨d1 ++ d2, ?_, f1.append f2⟩
        have := r1.append r2
        rwa [← List.drop_drop, List.take_append_drop] at this
      · cases h2
    · cases hs

theorem cell_row {b j : Nat} {v : Value} (h : w.cell? ⟨b, j, none⟩ = some v) : ∃ cs t fr, w.heap[b]? = some (.cells cs t fr) ∧ cs[j]? = some v := by
  unfold World.cell? at h
  split at h
  · rename_i cs t fr hh
    simp at h
    exact ⟨_, _, _, hh, h⟩
  · cases h

theorem addr_add_add (a : Addr) (i j : Nat) : (a.add i).add j = a.add (i + j) := by
  unfold Addr.add
  by_cases hi : i = 0 <;> by_cases hj : j = 0 <;> simp [hi, hj, Nat.add_assoc]
/-- The elements of a slice, one behind the other. -/
theorem read_elems {g : TypeId → Option (List Sh)} (hg : Reads enc P w base held g) {e : TypeId} {l : List Sh} (he : g e = some l) (hl : l.length = P.cellsOf e) {n : Nat} : ∀ (elems : List (DataW H × List MemPlace)) (a : Addr),
    (∀ i, i < elems.length → (w.cells? base (a.add (i * P.cellsOf e)) (P.cellsOf e)).bind (DataW.trod enc P w base (fun _ => true) held n e) = elems[i]?) → (DataW.weightsAll P e (elems.map (·.1))).all (· ≤ reachBytes) = true →
    ∃ cs ds, RepL (allOf w) cs ds ∧ FitN ds elems.length l ∧ ∀ j u, cs[j]? = some u → w.cell? (a.add j) = some u
  | [], _, _, _ => ⟨[], [], .nil, .nil, fun j u h => by simp at h⟩
  | x :: r, a, h, hw => by
    simp only [List.map_cons, DataW.weightsAll, List.all_append, Bool.and_eq_true] at hw
    have h0 := h 0 (by simp)
    rw [Nat.zero_mul, List.getElem?_cons_zero] at h0
    obtain ⟨c1, hc1, hx1⟩ := Option.bind_eq_some_iff.1 h0
    obtain ⟨_, hlen, hcell⟩ := World.cells?_some hc1
    obtain ⟨d1, r1, f1⟩ := hg e l he n _ x hx1 hw.1
    have hadd : ∀ i, (a.add (P.cellsOf e)).add (i * P.cellsOf e) = a.add ((i + 1) * P.cellsOf e) := fun i => by
      rw [addr_add_add, Nat.succ_mul, Nat.add_comm]
    obtain ⟨c2, d2, r2, f2, hc2⟩ := read_elems hg he hl r (a.add (P.cellsOf e)) (fun i hi => by
      have := h (i + 1) (by simpa using hi)
      rw [List.getElem?_cons_succ] at this
      rw [hadd]
      exact this) hw.2
    refine ⟨c1 ++ c2, d1 ++ d2, r1.append r2, .cons f1 f2, fun j u hu => ?_⟩
    by_cases hj : j < c1.length
    · rw [List.getElem?_append_left hj] at hu
      have := hcell j (by omega)
      rw [addr_add_add, Nat.zero_add] at this
      rw [this, hu]
    · rw [List.getElem?_append_right (by omega)] at hu
      have := hc2 _ _ hu
      rwa [addr_add_add, show P.cellsOf e + (j - c1.length) = j by omega] at this

theorem row_of_cells {cs : List Value} {a : Addr} (h : ∀ j u, cs[j]? = some u → w.cell? (a.add j) = some u) : Row (allOf w) (some a) cs := by
  by_cases hn : cs = []
  · exact .inl hn
  · obtain ⟨v, r, rfl⟩ := List.exists_cons_of_ne_nil hn
    have h0 := h 0 v rfl
    obtain ⟨b, o, sp⟩ := a
    have hsp : sp = none := by simpa [Addr.add] using World.cell?_spot h0
    subst hsp
    rw [Addr.add_lit] at h0
    obtain ⟨cur, t, fr, hb, _⟩ := cell_row h0
    refine .inr ⟨b, o, cur, t, fr, rfl, hb, fun j u hu => ?_⟩
    have := h j u hu
    rw [Addr.add_lit, cell_of_row w b _ _ _ _ hb] at this
    exact this

/-- An argument reads as data of its shape. -/
theorem reads_shapes (enc : TypeId × Value → H) (P : Program) (w : World) (base : Nat) (held : Bool) : ∀ k, Reads enc P w base held (shapes P k)
  | 0 => fun t sh h => by cases h
  | k + 1 => fun t sh h fuel cs x hx hw => by
    unfold shapes at h
    split at h
    · rename_i ht
      cases h
      obtain ⟨b, rfl, _⟩ := DataW.trod_bool ht hx
      exact ⟨_, .cons (.pl rfl) .nil, .cons (.bool b) .nil⟩
    · rename_i q ht
      cases h
      obtain ⟨n, rfl, _, hn⟩ := DataW.trod_int ht hx
      exact ⟨_, .cons (.pl rfl) .nil, .cons (.int hn) .nil⟩
    · rename_i ht
      cases h
      obtain ⟨s, rfl, rfl, _⟩ := DataW.trod_string ht hx
      exact ⟨_, .cons (.pl rfl) .nil, .cons (.str (by simpa [DataW.weights] using hw)) .nil⟩
    · rename_i e ht
      obtain ⟨l, h1, h2⟩ := Option.bind_eq_some_iff.1 h
      split at h2
      · rename_i hl
        cases h2
        rcases DataW.trod_slice ht hx with ⟨rfl, _⟩ | ⟨a, len, cap, elems, rest, n, _, rfl, rfl, _, hlc, _, hlen, hel, _, _⟩
        · exact ⟨[.sl l.length 0 []], .cons (.sl (Nat.le_refl _) (fun _ => rfl) (by simp) (.inl rfl) .nil) .nil, .cons (.sl (by simp) .nil) .nil⟩
        · simp only [DataW.weights, ht, List.all_cons, List.all_append, Bool.and_eq_true, decide_eq_true_eq, List.length_map] at hw
          obtain ⟨cs', ds, r1, f1, hc⟩ := read_elems (reads_shapes enc P w base held k) h1 hl.2 elems a (fun i hi => hel i (by omega)) hw.2.1
          rw [hlen] at f1
          refine ⟨[.sl l.length len ds], .cons (.sl hlc (fun e => by cases e) f1.len (row_of_cells hc) r1) .nil, .cons (.sl ?_ f1) .nil⟩
          refine Nat.le_trans (Nat.mul_le_mul_right _ ?_) hw.1
          omega
      · cases h2
    · rename_i fs ht
      obtain ⟨l, h1, h2⟩ := Option.bind_eq_some_iff.1 h
      split at h2
      · rename_i hl
        cases h2
        obtain ⟨xs, n, _, rfl, hcl, hxl, hf⟩ := DataW.trod_struct ht hx
        simp only [DataW.weights, ht] at hw
        have := read_fields (reads_shapes enc P w base held k) fs.toList xs 0 _ cs h1 (by simpa using hxl) (by omega) (fun i f hi => hf i f (by simpa using hi)) hw
        simpa using this
      · cases h2
    · cases h
end

section
variable {H : Type} {enc : TypeId × Value → H}
/-- The row's step, where what came in is bounded. -/
theorem handed_of_change {a : Assume} {C : Checked} {os : Os} {f : FuncId} {fn : Func} {s : ChangeSpec} {conds : List PathCond} {apart fresh handsOn again : Bool}
    (own : ownKnob C.prog.godebug = none) (started : os.Started) (noInit : C.prog.inits.idxOf? f = none) (hfn : C.prog.funcs[f]? = some fn)
    (witness : ∃ (w : World) (tape : Tape) (i : Input), w.os = os ∧ (w.forCall tape i).Shaped C.prog ∧ i.vars = [] ∧ Input.okWide C.prog (w.forCall tape i) .any w.heap.size f i ∧
      s.pre6 enc C.prog fn conds apart (w.forCall tape i).memory i.args ∧ a.holds C.prog (lone (Frame.enter C.prog f i.args .normal) [] (w.forCall tape i)))
    (contract : ∀ (W : World) (base : Nat) (args : Array Value) (ds gs : List (DataW H)) (before : List MemPlace),
      (∀ (j : Nat) t v, fn.params[j]? = some t → args[j]? = some v → Value.okWide C.prog W .any base t v) →
      DataW.Whole enc C.prog fn.params.toList s.vars apart W args.toList ds gs before →
      (DataW.weightsEach C.prog (fn.params.toList ++ s.plain.varTypes C.prog) (ds ++ gs)).all (· ≤ reachBytes) = true →
      Calls C.prog f args W fun e W' => ∃ v, e = .returned v ∧ s.post enc C.prog fn apart fresh handsOn again W args v W') :
    ReturnsInHanded a C os f .any (s.pre6 enc C.prog fn conds apart) (s.post enc C.prog fn apart fresh handsOn again) := by
  refine returnsInHanded_of_calls own started noInit witness ?_
  intro w tape i _ _ _ hok hpre hholds
  obtain ⟨_, _, _, fn', hfn', _, _, _, _, hval⟩ := hok
  have e : fn' = fn := Option.some.inj (hfn'.symm.trans hfn)
  subst e
  obtain ⟨⟨ds, gs, before, hw, hc⟩, hz⟩ := hpre
  have hw' := DataW.Whole.of_heap (w' := w.forCall tape i) (by rfl) hw
  refine (contract (w.forCall tape i) w.heap.size i.args ds gs before hval hw' (hz.weights hw)).mono fun e W' ⟨v, he, hp⟩ => ?_
  subst he
  exact ChangeSpec.post_blind hp
end
end Go.Proofs.YtdnpobjokajigaaGreatDoor.K

namespace Go.Proofs.YtdnpobjokajigaaGreatDoor
open Go.ChangeShapes Go.WideShapes Go.ChangeAt Go.RowKit K
open Go.ChangeMaps (open_string shut_string)
set_option linter.unusedVariables false

theorem ownR : ownKnob Tryz.prog.godebug = none := by kernel_rfl
theorem laidOutR : laidOutB Tryz.prog = true := by kernel_rfl
/-- The settled world, the two variables holding what their initialisers lay. -/
noncomputable def laidWorld (os : Os) : World :=
  let w0 := World.holding Tryz.prog os ⟨#[], #[], []⟩
  let put (h : Array Obj) (g : Nat) (cs : Array Value) : Array Obj := h.modify g fun
    | .cells _ t frozen => .cells cs t frozen
    | o => o
  let h1 := put w0.heap 0 (Lib.firstTab.map fun z => Value.int .u8 z).toArray
  let h2 := put h1 1 ((List.range 16).flatMap fun i => [Value.int .u8 (Lib.accLo i), Value.int .u8 (Lib.accHi i)]).toArray
  { w0 with heap := h2 }
def laid2 : List (String × DataW Unit) := [("unicode/utf8.acceptRanges", Rows.laid_unicode_utf8_acceptRanges), ("unicode/utf8.first", Rows.laid_unicode_utf8_first)]
theorem laid_met (os : Os) (args : Array Value) : laidMet Tryz.prog laid2 ((laidWorld os).forCall (fun _ _ => 0) ⟨#[], args, []⟩).memory :=
  (LaidIn.of_run (l := laid2) [1, 0] 8 (by kernel_rfl) (by kernel_rfl) (by kernel_rfl) (by kernel_rfl)).met
theorem shapesWord : shapes Tryz.prog 4 24 = some [.int .u64, .int .u64, .int .u64, .int .u64] := by kernel_rfl
theorem cellsWord : Tryz.prog.cellsOf 24 = 4 := by kernel_rfl
set_option maxRecDepth 100000 in
theorem wf64 {a : Int} (h : (Lit.int .u64 a).wf = true) : W64 a := by
  simp [Lit.wf, IntKind.min, IntKind.max, IntKind.signed, IntKind.bits] at h
  unfold W64
  omega
set_option maxRecDepth 100000 in
/-- A word among what a call is given. -/
theorem word_arg {H : Type} {enc : TypeId × Value → H} {W : World} {base : Nat} {r : Reach} {v : Value} {d : DataW H} {p : List MemPlace} (hv : Value.okWide Tryz.prog W r base 24 v) (h : DataW.Trod enc Tryz.prog W 0 (fun _ => true) true 24 v d p)
    (hsz : (d.weights Tryz.prog 24).all (· ≤ reachBytes) = true) : ∃ a b c e, v = .agg #[.int .u64 a, .int .u64 b, .int .u64 c, .int .u64 e] ∧ W64 a ∧ W64 b ∧ W64 c ∧ W64 e := by
  obtain ⟨cs, rfl, hs⟩ := okWide_struct Tryz.underlying24 hv
  obtain ⟨m, hm⟩ := h
  obtain ⟨ds, hr, hf⟩ := reads_shapes enc Tryz.prog W 0 true 4 24 _ shapesWord m _ _ hm hsz
  have hlist : (Value.agg cs).cells.toList = cs.toList := rfl
  cases hf with
  | cons h1 t => cases t with
    | cons h2 t => cases t with
      | cons h3 t => cases t with
        | cons h4 t =>
          cases t
          cases h1 with
          | int w1 => cases h2 with
            | int w2 => cases h3 with
              | int w3 => cases h4 with
                | int w4 =>
                  refine ⟨_, _, _, _, ?_, wf64 w1, wf64 w2, wf64 w3, wf64 w4⟩
                  congr 1
                  apply Array.toList_inj.1
                  rw [hlist] at hr
                  generalize cs.toList = l at hr ⊢
                  cases hr with
                  | cons r1 t => cases t with
                    | cons r2 t => cases t with
                      | cons r3 t => cases t with
                        | cons r4 t =>
                          cases t
                          cases r1; cases r2; cases r3; cases r4
                          simp_all
end Go.Proofs.YtdnpobjokajigaaGreatDoor

namespace Go.Proofs.YtdnpobjokajigaaGreatDoor
open Go.ChangeShapes Go.WideShapes Go.ChangeAt Go.RowKit K
set_option linter.unusedVariables false
set_option maxRecDepth 100000

set_option maxRecDepth 100000 in
theorem wf32 {a : Int} (h : (Lit.int .u32 a).wf = true) : 0 ≤ a ∧ a < 4294967296 := by
  simp [Lit.wf, IntKind.min, IntKind.max, IntKind.signed, IntKind.bits] at h
  omega
theorem wfi64 {a : Int} (h : (Lit.int .i64 a).wf = true) : -9223372036854775808 ≤ a ∧ a < 9223372036854775808 := by
  simp [Lit.wf, IntKind.min, IntKind.max, IntKind.signed, IntKind.bits] at h
  omega
theorem wfu16 {a : Int} (h : (Lit.int .u16 a).wf = true) : 0 ≤ a ∧ a < 65536 := by
  simp [Lit.wf, IntKind.min, IntKind.max, IntKind.signed, IntKind.bits] at h
  omega
theorem wfu8 {a : Int} (h : (Lit.int .u8 a).wf = true) : 0 ≤ a ∧ a < 256 := by
  simp [Lit.wf, IntKind.min, IntKind.max, IntKind.signed, IntKind.bits] at h
  omega
/-- A struct among what a call is given: its cells are of its shape. -/
theorem agg_arg {H : Type} {enc : TypeId × Value → H} {W : World} {base : Nat} {r : Reach} {v : Value} {d : DataW H} {p : List MemPlace} {t : TypeId} {fs : Array Field} {sh : List Sh} (hu : Tryz.prog.underlying t = some (.struct fs)) (hsh : shapes Tryz.prog 5 t = some sh)
    (hv : Value.okWide Tryz.prog W r base t v) (h : DataW.Trod enc Tryz.prog W 0 (fun _ => true) true t v d p) (hsz : (d.weights Tryz.prog t).all (· ≤ reachBytes) = true) : ∃ cs ds, v = .agg cs ∧ RepL (allOf W) cs.toList ds ∧ FitL ds sh := by
  obtain ⟨cs, rfl, hs⟩ := okWide_struct hu hv
  obtain ⟨m, hm⟩ := h
  obtain ⟨ds, hr, hf⟩ := reads_shapes enc Tryz.prog W 0 true 5 t _ hsh m _ _ hm hsz
  exact ⟨cs, ds, rfl, hr, hf⟩
theorem fit_u64 {H : Hs} {cs : List Value} {ds : List D} {sh : List Sh} (hr : RepL H cs ds) (hf : FitL ds (.int .u64 :: sh)) : ∃ n cs' ds', cs = .int .u64 n :: cs' ∧ W64 n ∧ RepL H cs' ds' ∧ FitL ds' sh := by
  cases hf with
  | cons h1 t =>
    cases h1 with
    | int w1 =>
      obtain ⟨xs, rfl, ht⟩ := hr.pl_inv
      exact ⟨_, _, _, rfl, wf64 w1, ht, t⟩
theorem fit_i64 {H : Hs} {cs : List Value} {ds : List D} {sh : List Sh} (hr : RepL H cs ds) (hf : FitL ds (.int .i64 :: sh)) : ∃ n cs' ds', cs = .int .i64 n :: cs' ∧ (Lit.int .i64 n).wf = true ∧ RepL H cs' ds' ∧ FitL ds' sh := by
  cases hf with
  | cons h1 t =>
    cases h1 with
    | int w1 =>
      obtain ⟨xs, rfl, ht⟩ := hr.pl_inv
      exact ⟨_, _, _, rfl, w1, ht, t⟩
theorem fit_str {H : Hs} {cs : List Value} {ds : List D} {sh : List Sh} (hr : RepL H cs ds) (hf : FitL ds (.str :: sh)) : ∃ s cs' ds', cs = .string s :: cs' ∧ s.size ≤ reachBytes ∧ RepL H cs' ds' ∧ FitL ds' sh := by
  cases hf with
  | cons h1 t =>
    cases h1 with
    | str w1 =>
      obtain ⟨xs, rfl, ht⟩ := hr.pl_inv
      exact ⟨_, _, _, rfl, w1, ht, t⟩
theorem fit_end {H : Hs} {cs : List Value} {ds : List D} (hr : RepL H cs ds) (hf : FitL ds []) : cs = [] := by
  cases hf
  exact hr.nil_inv
theorem agg_list {cs : Array Value} {l : List Value} (h : cs.toList = l) : Value.agg cs = .agg l.toArray := by
  rw [← h]
theorem shAcc : shapes Tryz.prog 5 26 = some [.int .u64, .int .u64, .int .u64, .int .u64, .int .u64, .str] := by kernel_rfl
theorem shAsk : shapes Tryz.prog 5 45 = some [.int .u64, .str, .int .u64, .int .u64, .int .u64, .int .u64, .int .i64] := by kernel_rfl
theorem shReply : shapes Tryz.prog 5 37 = some [.int .u64, .int .u64, .int .u64, .int .u64, .int .u64, .int .u64, .str, .int .u64, .int .u64, .int .u64, .int .u64] := by kernel_rfl
section
variable {H : Type} {enc : TypeId × Value → H} {W : World} {base : Nat} {r : Reach} {v : Value} {d : DataW H} {p : List MemPlace}
theorem acc_arg (hv : Value.okWide Tryz.prog W r base 26 v) (h : DataW.Trod enc Tryz.prog W 0 (fun _ => true) true 26 v d p)
    (hsz : (d.weights Tryz.prog 26).all (· ≤ reachBytes) = true) : ∃ n a b c e s, v = .agg #[.int .u64 n, .int .u64 a, .int .u64 b, .int .u64 c, .int .u64 e, .string s] ∧ W64 n ∧ W64 a ∧ W64 b ∧ W64 c ∧ W64 e ∧ s.size ≤ reachBytes := by
  obtain ⟨cs, ds, rfl, hr, hf⟩ := agg_arg Tryz.underlying26 shAcc hv h hsz
  obtain ⟨n, c1, d1, e1, w1, hr, hf⟩ := fit_u64 hr hf
  obtain ⟨a, c2, d2, rfl, w2, hr, hf⟩ := fit_u64 hr hf
  obtain ⟨b, c3, d3, rfl, w3, hr, hf⟩ := fit_u64 hr hf
  obtain ⟨c, c4, d4, rfl, w4, hr, hf⟩ := fit_u64 hr hf
  obtain ⟨e, c5, d5, rfl, w5, hr, hf⟩ := fit_u64 hr hf
  obtain ⟨s, c6, d6, rfl, w6, hr, hf⟩ := fit_str hr hf
  obtain rfl := fit_end hr hf
  exact ⟨n, a, b, c, e, s, agg_list e1, w1, w2, w3, w4, w5, w6⟩
theorem ask_arg (hv : Value.okWide Tryz.prog W r base 45 v) (h : DataW.Trod enc Tryz.prog W 0 (fun _ => true) true 45 v d p)
    (hsz : (d.weights Tryz.prog 45).all (· ≤ reachBytes) = true) : ∃ id s a b c e k, v = .agg #[.int .u64 id, .string s, .int .u64 a, .int .u64 b, .int .u64 c, .int .u64 e, .int .i64 k] ∧ W64 id ∧ s.size ≤ reachBytes ∧ W64 a ∧ W64 b ∧ W64 c ∧ W64 e ∧ (Lit.int .i64 k).wf = true := by
  obtain ⟨cs, ds, rfl, hr, hf⟩ := agg_arg Tryz.underlying45 shAsk hv h hsz
  obtain ⟨n, c1, d1, e1, w1, hr, hf⟩ := fit_u64 hr hf
  obtain ⟨s, c6, d6, rfl, w6, hr, hf⟩ := fit_str hr hf
  obtain ⟨a, c2, d2, rfl, w2, hr, hf⟩ := fit_u64 hr hf
  obtain ⟨b, c3, d3, rfl, w3, hr, hf⟩ := fit_u64 hr hf
  obtain ⟨c, c4, d4, rfl, w4, hr, hf⟩ := fit_u64 hr hf
  obtain ⟨e, c5, d5, rfl, w5, hr, hf⟩ := fit_u64 hr hf
  obtain ⟨k, c7, d7, rfl, w7, hr, hf⟩ := fit_i64 hr hf
  obtain rfl := fit_end hr hf
  exact ⟨n, s, a, b, c, e, k, agg_list e1, w1, w6, w2, w3, w4, w5, w7⟩
theorem reply_arg (hv : Value.okWide Tryz.prog W r base 37 v) (h : DataW.Trod enc Tryz.prog W 0 (fun _ => true) true 37 v d p)
    (hsz : (d.weights Tryz.prog 37).all (· ≤ reachBytes) = true) : ∃ id n a b c e s f g i j, v = .agg #[.int .u64 id, .int .u64 n, .int .u64 a, .int .u64 b, .int .u64 c, .int .u64 e, .string s, .int .u64 f, .int .u64 g, .int .u64 i, .int .u64 j] ∧ W64 id ∧ W64 n ∧ W64 a ∧ W64 b ∧ W64 c ∧ W64 e ∧ s.size ≤ reachBytes ∧ W64 f ∧ W64 g ∧ W64 i ∧ W64 j := by
  obtain ⟨cs, ds, rfl, hr, hf⟩ := agg_arg Tryz.underlying37 shReply hv h hsz
  obtain ⟨id, c0, d0, e1, w0, hr, hf⟩ := fit_u64 hr hf
  obtain ⟨n, c1, d1, rfl, w1, hr, hf⟩ := fit_u64 hr hf
  obtain ⟨a, c2, d2, rfl, w2, hr, hf⟩ := fit_u64 hr hf
  obtain ⟨b, c3, d3, rfl, w3, hr, hf⟩ := fit_u64 hr hf
  obtain ⟨c, c4, d4, rfl, w4, hr, hf⟩ := fit_u64 hr hf
  obtain ⟨e, c5, d5, rfl, w5, hr, hf⟩ := fit_u64 hr hf
  obtain ⟨s, c6, d6, rfl, w6, hr, hf⟩ := fit_str hr hf
  obtain ⟨f, c7, d7, rfl, w7, hr, hf⟩ := fit_u64 hr hf
  obtain ⟨g, c8, d8, rfl, w8, hr, hf⟩ := fit_u64 hr hf
  obtain ⟨i, c9, d9, rfl, w9, hr, hf⟩ := fit_u64 hr hf
  obtain ⟨j, c10, d10, rfl, w10, hr, hf⟩ := fit_u64 hr hf
  obtain rfl := fit_end hr hf
  exact ⟨id, n, a, b, c, e, s, f, g, i, j, agg_list e1, w0, w1, w2, w3, w4, w5, w6, w7, w8, w9, w10⟩
end
end Go.Proofs.YtdnpobjokajigaaGreatDoor

namespace Go.Proofs.YtdnpobjokajigaaGreatDoor
open Go.ChangeShapes Go.WideShapes Go.ChangeAt Go.RowKit K
open Go.ChangeMaps (open_string shut_string)
set_option linter.unusedVariables false

noncomputable def zerosFull : Array Value := #[.int .u16 0, .agg #[.int .u64 0, .int .u64 0, .int .u64 0, .int .u64 0, .int .u64 0, .string ⟨#[]⟩], .agg #[.int .u64 0, .int .u64 0, .int .u64 0, .int .u64 0, .int .u64 0, .string ⟨#[]⟩]]
theorem witnessFull (os : Os) {H : Type} (enc : TypeId × Value → H) :
    (OpenSpec.ofChange Rows.forkFullSpec).preRow enc Tryz.prog Tryz.f4 Rows.forkFullRow.domain false Rows.forkFullRow.laid ((laidWorld os).forCall (fun _ _ => 0) ⟨#[], zerosFull, []⟩).memory zerosFull := by
  have hw : (DataW.whole enc Tryz.prog ((laidWorld os).forCall (fun _ _ => 0) ⟨#[], zerosFull, []⟩).memory Tryz.f4.params.toList (OpenSpec.ofChange Rows.forkFullSpec).vars false zerosFull.toList 8).map (fun x => (x.1, x.2.1)) =
      some ([.lit (.int .u16 0), .agg [.lit (.int .u64 0), .agg [.lit (.int .u64 0), .lit (.int .u64 0), .lit (.int .u64 0), .lit (.int .u64 0)], .lit (.string [])], .agg [.lit (.int .u64 0), .agg [.lit (.int .u64 0), .lit (.int .u64 0), .lit (.int .u64 0), .lit (.int .u64 0)], .lit (.string [])]], []) := by kernel_rfl
  obtain ⟨⟨x1, x2, x3⟩, hx, hx1⟩ := Option.map_eq_some_iff.1 hw
  simp only [Prod.mk.injEq] at hx1
  obtain ⟨rfl, rfl⟩ := hx1
  exact OpenSpec.preRow_of_cond 8 hx (by kernel_rfl) (fun k hk => by cases hk) (by kernel_rfl) (laid_met os _)

set_option maxRecDepth 100000 in
set_option maxHeartbeats 2000000 in
theorem liftedFull (os : Os) (started : os.Started) (H : Type) (enc : TypeId × Value → H) (F : Stop.Interp) :
    ReturnsInHanded {} Tryz.checked os 4 .any ((OpenSpec.ofChange Rows.forkFullSpec).preRow enc Tryz.prog Tryz.f4 Rows.forkFullRow.domain false Rows.forkFullRow.laid) (((OpenSpec.ofChange Rows.forkFullSpec).at F).post enc Tryz.prog Tryz.f4 false true false false) := by
  refine returnsInHanded_of_row (C := Tryz.checked) (s := OpenSpec.ofChange Rows.forkFullSpec) ownR started (by kernel_rfl) Tryz.func4
    (witness_row_atRef (enc := enc) (C := Tryz.checked) false (laidWorld os) zerosFull rfl (by kernel_rfl) (by kernel_rfl) (by kernel_rfl) (witnessFull os enc)) ?_
  intro W base args ds gs before hval0 hW hcnd0 h1 h2 hL h3 hsz
  have hval : ∀ (j : Nat) t v, Tryz.f4.params[j]? = some t → args[j]? = some v → Value.okWide Tryz.prog W .any base t v := hval0
  have hW' := hW
  obtain ⟨p, q, hA0, hV, rfl, hfz, hnd⟩ := hW
  have hA : DataW.TrodAll enc Tryz.prog W 0 (fun _ => true) true Tryz.f4.params.toList args.toList ds p := hA0
  rw [Tryz.params4] at hA hval
  obtain ⟨v0, vs0, d0, ds0, p0, q0, hargs, rfl, rfl, g0, r0⟩ := trodAll_cons hA
  obtain ⟨v1, vs1, d1, ds1, p1, q1, rfl, rfl, rfl, g1, r1⟩ := trodAll_cons r0
  obtain ⟨v2, vs2, d2, ds2, p2, q2, rfl, rfl, rfl, g2, r2⟩ := trodAll_cons r1
  obtain ⟨rfl, rfl, rfl⟩ := trodAll_nil r2
  obtain rfl : args = #[v0, v1, v2] := by cases args; simp_all
  have hV0 : DataW.TrodVars enc Tryz.prog W (fun _ => true) [] gs q := hV
  obtain ⟨rfl, rfl⟩ := trodVars_none hV0
  obtain ⟨room, rfl, rfl, rfl, w0⟩ := open_int Tryz.underlying49 (hval 0 49 v0 rfl rfl) g0
  have k1 := g1
  have lt1 : ∀ x ∈ p1, x.block < W.heap.size := by obtain ⟨m, hm⟩ := k1; exact DataW.trod_lt m _ _ _ hm
  have hsz1 : (d1.weights Tryz.prog 26).all (· ≤ reachBytes) = true := by
    rw [List.all_eq_true] at h2 ⊢
    exact fun x hx => h2 x (List.mem_append_right _ (List.mem_append_left _ hx))
  obtain ⟨n, a, b, c, d, s, rfl, hn, ha, hb, hc, hd, hs⟩ := acc_arg (hval 1 26 v1 rfl rfl) g1 hsz1
  have k2 := g2
  have lt2 : ∀ x ∈ p2, x.block < W.heap.size := by obtain ⟨m, hm⟩ := k2; exact DataW.trod_lt m _ _ _ hm
  have hsz2 : (d2.weights Tryz.prog 26).all (· ≤ reachBytes) = true := by
    rw [List.all_eq_true] at h2 ⊢
    exact fun x hx => h2 x (List.mem_append_right _ (List.mem_append_right _ (List.mem_append_left _ hx)))
  obtain ⟨m, f, g, h, k, t, rfl, hm, hf, hg, hh, hk, ht⟩ := acc_arg (hval 2 26 v2 rfl rfl) g2 hsz2
  clear hA0 hval0
  refine (full_any room n a b c d m f g h k s t (wfu16 w0).1 hn ha hb hc hd hm hf hg hh hk W).mono fun z W' ⟨hz, bel⟩ => ?_
  subst hz
  exact ⟨_, rfl, _, _, _, [], _, [], hW', trodAll_mk1 (shut_bool Tryz.underlying4 _), (trodAll_cons_mk (shut_int Tryz.underlying49 w0) (trodAll_cons_mk (Below.trod laidOutR (by kernel_rfl) (of_decide_eq_true (by kernel_rfl)) k1 bel lt1) (trodAll_cons_mk (Below.trod laidOutR (by kernel_rfl) (of_decide_eq_true (by kernel_rfl)) k2 bel lt2) trodAll_mk0))), rfl, bel.frame _, fun h => by cases h⟩

theorem forkFull_said : Rows.ForkFullSaid :=
  OpenClaim.holds_of_cond 4 Tryz.f4 rfl rfl rfl rfl rfl rfl rfl ⟨rfl, rfl, rfl, rfl, rfl⟩ rfl rfl rfl rfl rfl (by kernel_rfl) Tryz.func4 (by kernel_rfl)
    (of_decide_eq_true (by kernel_rfl)) (by unfold Func.isWrapper; first | (rw [if_pos (by decide +kernel)]; kernel_rfl) | (rw [if_neg (by decide +kernel)]; exact ⟨rfl, rfl⟩))
    (fun os started H enc _ F0 => by rw [OpenClaim.pre_eq_preRow]; exact liftedFull os started H enc F0)
end Go.Proofs.YtdnpobjokajigaaGreatDoor
