/-
  The map of all operations: All.
-/
import Derived.Test.YtfphlkkhpccpnabDoorOpGr
import Derived.Test.YtfphlkkhpccpnabDoorParse
import Derived.Test.YtfphlkkhpccpnabDoorShelfb
import Derived.Deep.MidRow
import Derived.StillTailTactics
namespace Go.Proofs.YtfphlkkhpccpnabDoor
open Go.RowKit Go.Proofs K
set_option linter.unusedVariables false

theorem szGrp : (Tryd.prog.info? 50).map (·.size) = some 4 := by kernel_rfl
theorem hex_hx (l : List UInt8) : hexV l = hxV l := rfl
theorem hexB_is {b : UInt8} (h : hexB b = true) : isHex b := by
  unfold hexB at h
  unfold isHex
  simpa using h
theorem grp_range {H0 H : Hs} {w0 w : World} {X : Nat → Prop} {ps : List Hp} {b k : Nat} (i : Nat) (S : St H0 w0 X H w ps) (hi : ps[i]? = some (blk b (.cells grpC 50))) (hk : k < 24) : w.rangeAt b (k * 4) (gcell (grp k)) := by
  intro j v hv
  have hj : j < 4 := (List.getElem?_eq_some_iff.1 hv).1
  exact S.cell i hi ((grpC_at hk hj).trans hv)
/-- The pieces of a group's text. -/
def pcC (k : Nat) : Array Value := ((pcs k).map fun p => Value.string (bs p)).toArray
theorem pcC_at {k j : Nat} (h : j < (pcs k).length) : (pcC k)[j]? = some (.string (bs ((pcs k).getD j []))) := by
  unfold pcC
  rw [List.getElem?_toArray, List.getElem?_map, List.getElem?_eq_getElem h, List.getD_eq_getElem?_getD, List.getElem?_eq_getElem h]
  rfl
def SplitP (k : Nat) (w : World) (e : Ending) (w' : World) : Prop := e = .returned (.slice (some ⟨w.heap.size, 0, none⟩) (pcs k).length (pcs k).length) ∧ w' = w.alloc (.cells (pcC k) 9)
theorem split_any {k : Nat} (hk : k < 24) (w : World) (hm : MaxAt w) : Calls Tryd.prog 17 #[.string (bs (grp k).2.2.2), .string ⟨#[32]⟩] w (SplitP k w) := by
  obtain ⟨m, hm⟩ := hm
  have hc := counts ⟨k, hk⟩
  have hs := splits ⟨k, hk⟩
  simp only at hc hs
  refine (Tryd.strings_Split (bs (grp k).2.2.2) ⟨#[32]⟩ m w (by rw [bs_size]; omega) hm (by decide)).mono ?_
  rintro e w' ⟨rfl, rfl⟩
  unfold SplitP
  rw [hc.1, hs, List.map_map]
  exact ⟨rfl, rfl⟩
theorem bs_cat (a l : List UInt8) : (⟨a.toArray⟩ : ByteArray) ++ bs l = bs (a ++ l) := by
  apply ByteArray.ext
  simp [bs]
theorem put_is {i c g a b : Nat} {nm : List UInt8} (h : opL[i]? = some (c, nm, g, a, b)) {x gv av bv : Int} {s : ByteArray} (hx : x = c) (hs : s = bs nm) (hg : gv = g) (ha : av = a) (hb : bv = b) :
    put (opM.take i) x (.agg #[.string s, .int .u64 gv, .int .i64 av, .int .i64 bv]) = opM.take (i + 1) := by
  subst hx hs hg ha hb
  exact put_next h
theorem dig_size (n : Nat) : (bs (dig n)).size ≤ 2 := by
  rw [bs_size]
  unfold dig
  split <;> simp
theorem cat_fits (k n : Nat) (h : k ≤ 10) : (9223372036854775807 < k + (bs (dig n)).size) = False := by
  have := dig_size n
  exact eq_false (by omega)
theorem itoa_any (n : Nat) (hn : n < 100) (w : World) : Calls Tryd.prog 19 #[.int .i64 n] w (fun e w' => e = .returned (.string (bs (dig n))) ∧ w = w') := by
  refine (Tryd.strconv_Itoa_small n hn w).mono ?_
  rintro e w' ⟨rfl, rfl⟩
  rw [dec_dig hn]
  exact ⟨rfl, rfl⟩
set_option maxRecDepth 100000 in
set_option maxHeartbeats 8000000 in
theorem all_any (w : World) (hm : MaxAt w) : Calls Tryd.prog 13 #[] w (AllP w) := by
  have hmm := @run_makeMap Tryd.prog
  have HM := Lib.hid hm
  have HS0 : Hid (St empH w none_ empH (w.alloc (.map #[] 0)) [mapP encU8 w.heap.size (opM.take (offs 0))]) := Lib.hid (((St.start (ag_emp w)).alloc (.map #[] 0)).see 0 rfl fun F ⟨a, b⟩ => ⟨a, _, b, isMap_new 0⟩)
  clear hm
  go_enter Tryd.func13, Tryd.ntmps13
  go_wp2_with fail
  refine (alike_any _).mono ?_
  rintro e w1 ⟨rfl, rfl⟩
  have HS1 := Lib.hid ((HS0.out.alloc' (.cells grpC 50) (w.heap.size + 1) (by simp)).pick 1 rfl)
  clear HS0
  go_wp2_with fail
  go_loopw [15] (fun i wr => ∃ k : Nat, i = .int .i64 k ∧ k ≤ 24 ∧ Hid (St empH w none_ empH wr [mapP encU8 w.heap.size (opM.take (offs k)), blk (w.heap.size + 1) (.cells grpC 50)])) (fun i _ => 24 - (intOf i).toNat)
  case atStart => exact ⟨0, rfl, by omega, HS1⟩
  case round =>
    clear HS1
    obtain ⟨k, rfl, hk, HS⟩ := hrel
    obtain ⟨wo, rfl⟩ : ∃ wo : World, wo = wr := ⟨_, rfl⟩
    by_cases hlt : k < 24
    · have HR := Lib.hid (grp_range 1 HS.out rfl hlt)
      go_wp2_with (first
        | (refine wpList_load_mid rfl 50 (.tmp 17) rfl (w.heap.size + 1) (k * 4) rfl (gcell (grp k)) _ HR.out Tryd.underlying50 rfl szGrp ?_; simp only [gcell])
        | fail)
      have HSa := Lib.hid (HS.out.alloc (.cells (gcell (grp k)).toArray 50))
      have HMa := Lib.hid (HM.out.later HSa.out.below)
      have HSb : Hid (St empH w none_ empH ((wo.alloc (.cells (gcell (grp k)).toArray 50)).alloc (.cells (pcC k) 9)) [blk (wo.heap.size + 1) (.cells (pcC k) 9), blk wo.heap.size (.cells (gcell (grp k)).toArray 50), mapP encU8 w.heap.size (opM.take (offs k)), blk (w.heap.size + 1) (.cells grpC 50)]) := HSa.out.alloc' _ _ (by simp)
      refine (split_any hlt _ HMa.out).mono ?_
      rintro e w2 ⟨rfl, rfl⟩
      clear HMa HSa
      obtain ⟨hc1, hc2, hc3, hc4, hc5, hc6, hc7, hc8⟩ := counts ⟨k, hlt⟩
      simp only at hc1 hc2 hc3 hc4 hc5 hc6 hc7 hc8
      have HE := Lib.hid (fun j (hj : j < 20) => entries ⟨k, hlt⟩ ⟨j, hj⟩)
      have HC1 := Lib.hid hc2
      have HC4 := Lib.hid hc4
      clear hc1 hc2 hc4 hc5
      simp only [gcell] at HSb
      go_wp2_with fail
      obtain ⟨L, hL⟩ : ∃ L, L = (pcs k).length := ⟨_, rfl⟩
      have HL := Lib.hid hL
      rw [← hL] at hc3 ⊢
      clear hL
      have HSc : Hid (St empH w none_ empH _ [mapP encU8 w.heap.size (opM.take (offs k + 0)), blk (wo.heap.size + 1) (.cells (pcC k) 9), blk wo.heap.size (.cells (gcell (grp k)).toArray 50), blk (w.heap.size + 1) (.cells grpC 50)]) := Lib.hid (HSb.out.pick 2 rfl)
      clear HSb
      go_loopw [5] (fun i wr2 => ∃ n j : Nat, Hid (n = 2 * j) ∧ i = .int .i64 n ∧ n ≤ L ∧ Hid (St empH w none_ empH wr2 [mapP encU8 w.heap.size (opM.take (offs k + j)), blk (wo.heap.size + 1) (.cells (pcC k) 9), blk wo.heap.size (.cells (gcell (grp k)).toArray 50), blk (w.heap.size + 1) (.cells grpC 50)])) (fun i _ => L - (intOf i).toNat)
      case atStart => exact ⟨0, 0, Lib.hid rfl, rfl, by omega, HSc⟩
      case round =>
        clear HSc
        obtain ⟨n, j, HN, rfl, hn, HS2⟩ := hrel
        by_cases hnl : n + 1 < L
        · have hnj := HN.out
          have hLe := HL.out
          obtain ⟨e1, e2, e3, e4⟩ := HE.out j (by omega) (by show 2 * j + 1 < (pcs k).length; omega)
          rw [← hnj] at e1 e2 e3 e4
          have c0 := HS2.out.cell 1 rfl (pcC_at (k := k) (j := n) (by omega))
          have c1 := HS2.out.cell 1 rfl (pcC_at (k := k) (j := n + 1) (by omega))
          generalize (pcs k).getD n [] = p0 at c0 e1 e2 e3 e4
          generalize (pcs k).getD (n + 1) [] = p1 at c1 e1
          have HP := Lib.hid (parse_any p0 (by omega) (by omega) fun b hb => hexB_is (List.all_eq_true.1 e3 b hb))
          rw [hex_hx] at HP
          generalize hxV p0 = q at HP e1 e4
          have HPN := Lib.hid (put_next e1)
          clear e1 e2 e3 hnj hLe
          go_wp2_with fail
          refine (HP.out _).mono ?_
          rintro e w3 ⟨rfl, hb⟩
          have HS3 := Lib.hid (HS2.out.grow hb)
          have d1 := cell_later hb c1
          have d2 : w3.cell? ⟨wo.heap.size, 0, none⟩ = some (.int .u64 (grp k).1) := HS3.out.cell 2 rfl rfl
          have d3 : w3.cell? ⟨wo.heap.size, 1, none⟩ = some (.int .i64 (grp k).2.1) := HS3.out.cell 2 rfl rfl
          have d4 : w3.cell? ⟨wo.heap.size, 2, none⟩ = some (.int .i64 (grp k).2.2.1) := HS3.out.cell 2 rfl rfl
          clear hb c0 c1 HS2 HP
          go_wp2_with fail
          have s1 : IntKind.i64.wrap ((n : Int) + 1) = (n : Int) + 1 := IntWalk.i64_in _ (by omega)
          have s2 : (0 : Int) ≤ (n : Int) + 1 := by omega
          have s3 : ((n : Int) + 1).toNat = n + 1 := by omega
          have s4 : (n : Int) + 1 < (L : Int) := by omega
          have s5 : IntKind.u8.wrap (q : Int) = (q : Int) := IntWalk.u8_in _ (by omega)
          go_still_tail 15, (by kernel_rfl)
          clear s1 s2 s3 s4 s5
          have HS4 := Lib.hid HS3.out.drew
          change wpList _ _ _ _ _ w3.drew
          generalize w3.drew = w4 at HS4 ⊢
          go_wp2_with (first
            | (refine wpList_update_st 0 HS4.out rfl keyU8 Tryd.underlying44 (q : Int) rfl (.tmp 37) (.tmp 39) (.tmp 51) rfl rfl rfl ?_)
            | fail)
          intro w5 S5
          have HS5 : Hid (St empH w none_ empH w5 [mapP encU8 w.heap.size (opM.take (offs k + (j + 1))), blk (wo.heap.size + 1) (.cells (pcC k) 9), blk wo.heap.size (.cells (gcell (grp k)).toArray 50), blk (w.heap.size + 1) (.cells grpC 50)]) := Lib.hid (by
            have h := HPN.out
            rw [show offs k + j + 1 = offs k + (j + 1) by omega] at h
            rw [← h]
            exact S5)
          clear S5 HS4
          go_wp2_with fail
          go_roundw
          case rel => exact ⟨n + 2, j + 1, Lib.hid (by have := HN.out; omega), by go_num, by have := HN.out; have := HL.out; have := HC1.out; omega, HS5⟩
          case measure => simp [intOf]; omega
        · go_wp2_with fail
          go_roundw
          case rel => exact ⟨k + 1, by go_num, by omega, by
            have := HN.out
            have h1 := HC1.out
            have h2 := HC4.out
            have h3 := HL.out
            rw [h2, show (pcs k).length / 2 = j by omega]
            exact (HS2.out.drop 1).drop 1⟩
          case measure => simp [intOf]; omega
    · obtain rfl : k = 24 := by omega
      rw [show ((24 : Nat) : Int) = 24 from rfl]
      have HSA : Hid (St empH w none_ empH wo [mapP encU8 w.heap.size (opM.take (75 + 0))]) := Lib.hid (by
        have := HS.out.drop 1
        rw [offs_end] at this
        exact this)
      clear HS
      go_wp2_with fail
      go_loopw [53] (fun i wr => ∃ n : Nat, i = .int .i64 n ∧ n ≤ 32 ∧ Hid (St empH w none_ empH wr [mapP encU8 w.heap.size (opM.take (75 + n))])) (fun i _ => 32 - (intOf i).toNat)
      case atStart => exact ⟨0, rfl, by omega, HSA⟩
      case round =>
        clear HSA
        obtain ⟨n, rfl, hn, HS⟩ := hrel
        obtain ⟨wp, rfl⟩ : ∃ wp : World, wp = wr := ⟨_, rfl⟩
        by_cases hlt : n < 32
        · have HE := Lib.hid (entry_push ⟨n, hlt⟩)
          have HI : Hid (∀ w, Calls Tryd.prog 19 #[.int .i64 ((n : Int) + 1)] w (fun e w' => e = .returned (.string (bs (dig (n + 1)))) ∧ w = w')) := Lib.hid (itoa_any (n + 1) (by omega))
          go_wp2_with fail
          refine (HI.out _).mono ?_
          rintro e w3 ⟨rfl, rfl⟩
          have hcat := cat_fits 4 (n + 1) (by decide)
          go_wp2_with (first
            | (refine wpList_update_st 0 HS.out rfl keyU8 Tryd.underlying44 (96 + n : Int) rfl (.tmp 56) (.tmp 59) (.tmp 64) rfl rfl rfl ?_)
            | fail)
          intro w5 S5
          have HS5 : Hid (St empH w none_ empH w5 [mapP encU8 w.heap.size (opM.take (75 + (n + 1)))]) := Lib.hid (by
            have h := put_is HE.out (x := 96 + n) (s := (⟨#[80, 85, 83, 72]⟩ : ByteArray) ++ bs (dig (n + 1))) (gv := 3) (av := 0) (bv := 1) (by simp) (bs_cat [80, 85, 83, 72] _) rfl rfl rfl
            rw [show 75 + (n + 1) = 75 + n + 1 by omega, ← h]
            exact S5)
          clear S5 HS
          go_wp2_with fail
          go_roundw
          case rel => exact ⟨n + 1, by go_num, by omega, HS5⟩
          case measure => simp [intOf]; omega
        · obtain rfl : n = 32 := by omega
          rw [show ((32 : Nat) : Int) = 32 from rfl]
          have HSA : Hid (St empH w none_ empH wp [mapP encU8 w.heap.size (opM.take (107 + 2 * 0))]) := HS
          clear HS
          go_wp2_with fail
          go_loopw [66] (fun i wr => ∃ n : Nat, i = .int .i64 n ∧ n ≤ 16 ∧ Hid (St empH w none_ empH wr [mapP encU8 w.heap.size (opM.take (107 + 2 * n))])) (fun i _ => 16 - (intOf i).toNat)
          case atStart => exact ⟨0, rfl, by omega, HSA⟩
          case round =>
            clear HSA
            obtain ⟨n, rfl, hn, HS⟩ := hrel
            obtain ⟨wq, rfl⟩ : ∃ wq : World, wq = wr := ⟨_, rfl⟩
            by_cases hlt : n < 16
            · have HE := Lib.hid (entry_dup ⟨n, hlt⟩)
              have HE2 := Lib.hid (entry_swap ⟨n, hlt⟩)
              have HI : Hid (∀ w, Calls Tryd.prog 19 #[.int .i64 ((n : Int) + 1)] w (fun e w' => e = .returned (.string (bs (dig (n + 1)))) ∧ w = w')) := Lib.hid (itoa_any (n + 1) (by omega))
              go_wp2_with fail
              refine (HI.out _).mono ?_
              rintro e w3 ⟨rfl, rfl⟩
              have hcat := cat_fits 3 (n + 1) (by decide)
              have hcat2 := cat_fits 4 (n + 1) (by decide)
              go_wp2_with (first
                | (refine wpList_update_st 0 HS.out rfl keyU8 Tryd.underlying44 (128 + n : Int) rfl (.tmp 72) (.tmp 75) (.tmp 82) rfl rfl rfl ?_)
                | fail)
              intro w5 S5
              have HS5 : Hid (St empH w none_ empH w5 [mapP encU8 w.heap.size (opM.take (107 + 2 * n + 1))]) := Lib.hid (by
                have h := put_is HE.out (x := 128 + n) (s := (⟨#[68, 85, 80]⟩ : ByteArray) ++ bs (dig (n + 1))) (gv := 3) (av := n + 1) (bv := n + 2) (by simp) (bs_cat [68, 85, 80] _) rfl (by simp) (by simp)
                rw [← h]
                exact S5)
              clear S5 HS
              go_wp2_with (first
                | (refine wpList_update_st 0 HS5.out rfl keyU8 Tryd.underlying44 (144 + n : Int) rfl (.tmp 83) (.tmp 86) (.tmp 93) rfl rfl rfl ?_)
                | fail)
              intro w6 S6
              have HS6 : Hid (St empH w none_ empH w6 [mapP encU8 w.heap.size (opM.take (107 + 2 * (n + 1)))]) := Lib.hid (by
                have h := put_is HE2.out (x := 144 + n) (s := (⟨#[83, 87, 65, 80]⟩ : ByteArray) ++ bs (dig (n + 1))) (gv := 3) (av := n + 2) (bv := n + 2) (by simp) (bs_cat [83, 87, 65, 80] _) rfl (by simp) (by simp)
                rw [show 107 + 2 * (n + 1) = 107 + 2 * n + 1 + 1 by omega, ← h]
                exact S6)
              clear S6 HS5
              go_wp2_with fail
              go_roundw
              case rel => exact ⟨n + 1, by go_num, by omega, HS6⟩
              case measure => simp [intOf]; omega
            · obtain rfl : n = 16 := by omega
              rw [show ((16 : Nat) : Int) = 16 from rfl]
              have HSA : Hid (St empH w none_ empH wq [mapP encU8 w.heap.size (opM.take (139 + 0))]) := HS
              clear HS
              go_wp2_with fail
              go_loopw [95] (fun i wr => ∃ n : Nat, i = .int .i64 n ∧ n ≤ 5 ∧ Hid (St empH w none_ empH wr [mapP encU8 w.heap.size (opM.take (139 + n))])) (fun i _ => 5 - (intOf i).toNat)
              case atStart => exact ⟨0, rfl, by omega, HSA⟩
              case round =>
                clear HSA
                obtain ⟨n, rfl, hn, HS⟩ := hrel
                by_cases hlt : n < 5
                · have HE := Lib.hid (entry_log ⟨n, hlt⟩)
                  have HI := Lib.hid (itoa_any n (by omega))
                  go_wp2_with fail
                  refine (HI.out _).mono ?_
                  rintro e w3 ⟨rfl, rfl⟩
                  have hcat := cat_fits 3 n (by decide)
                  go_wp2_with (first
                    | (refine wpList_update_st 0 HS.out rfl keyU8 Tryd.underlying44 (160 + n : Int) rfl (.tmp 98) (.tmp 101) (.tmp 107) rfl rfl rfl ?_)
                    | fail)
                  intro w5 S5
                  have HS5 : Hid (St empH w none_ empH w5 [mapP encU8 w.heap.size (opM.take (139 + (n + 1)))]) := Lib.hid (by
                    have h := put_is HE.out (x := 160 + n) (s := (⟨#[76, 79, 71]⟩ : ByteArray) ++ bs (dig n)) (gv := 375) (av := n + 2) (bv := 0) (by simp) (bs_cat [76, 79, 71] _) rfl (by simp) rfl
                    rw [show 139 + (n + 1) = 139 + n + 1 by omega, ← h]
                    exact S5)
                  clear S5 HS
                  go_wp2_with fail
                  go_roundw
                  case rel => exact ⟨n + 1, by go_num, by omega, HS5⟩
                  case measure => simp [intOf]; omega
                · obtain rfl : n = 5 := by omega
                  have HSA : Hid (St empH w none_ empH wr [mapP encU8 w.heap.size opM]) := Lib.hid (by
                    have := HS.out
                    rw [show 139 + 5 = 144 by rfl, opM_all] at this
                    exact this)
                  clear HS
                  go_wp2_with fail
                  go_ret
                  exact ⟨_, rfl, HSA.out⟩
end Go.Proofs.YtfphlkkhpccpnabDoor
