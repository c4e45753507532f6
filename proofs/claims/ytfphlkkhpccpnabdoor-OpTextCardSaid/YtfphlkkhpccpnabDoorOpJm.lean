/-
  OpJumps: the walk.
-/
import Derived.Test.YtfphlkkhpccpnabDoorPlOp
import Derived.Test.YtfphlkkhpccpnabDoorOpEx
import Derived.Test.YtfphlkkhpccpnabDoorRowO
import Derived.Test.YtfphlkkhpccpnabDoorMake
import Derived.Deep.QuietTactic
import Derived.BigQuiet
import Derived.Laws.BytesArg
namespace Go.Proofs.YtfphlkkhpccpnabDoor
open Go.RowKit Go.Proofs K
set_option linter.unusedVariables false

def u8V (b : UInt8) : Value := .int .u8 b.toNat
theorem str_bytes (l : List UInt8) : strOfNums (l.map fun b => (b.toNat : Int)) = bs l := by
  apply ByteArray.ext
  apply Array.toList_inj.1
  show (l.map fun b => (b.toNat : Int)).map (fun n => UInt8.ofNat n.toNat) = l
  rw [List.map_map]
  exact List.map_id'' (fun b => by simp) l
/-- The bytes that are pushed. -/
def fillD (data : List UInt8) (k : Nat) : List UInt8 := (List.range k).map fun i => if i < data.length then data.getD i 0 else 91
theorem fillD_len (data : List UInt8) (k : Nat) : (fillD data k).length = k := by simp [fillD]
def fillC (data : List UInt8) (k j : Nat) : List Value := ((fillD data k).take j ++ List.replicate (k - j) 0).map u8V
theorem fillC_len (data : List UInt8) {k j : Nat} (h : j ≤ k) : (fillC data k j).length = k := by
  unfold fillC
  rw [List.length_map, List.length_append, List.length_take, fillD_len, List.length_replicate]
  omega
theorem fillC_set (data : List UInt8) {k j : Nat} (h : j < k) : (fillC data k j).set j (u8V (if j < data.length then data.getD j 0 else 91)) = fillC data k (j + 1) := by
  unfold fillC
  rw [← List.map_set]
  congr 1
  have hl : (fillD data k).length = k := fillD_len data k
  rw [List.set_append_right _ _ (by rw [List.length_take]; omega), List.length_take, hl, Nat.min_eq_left (by omega), Nat.sub_self]
  obtain ⟨m, hm⟩ : ∃ m, k - j = m + 1 := ⟨k - j - 1, by omega⟩
  rw [hm, List.replicate_succ, List.set_cons_zero, show k - (j + 1) = m by omega, List.take_succ_eq_append_getElem (by omega), List.append_assoc]
  congr 1
  simp [fillD]
theorem made_zero (k : Nat) : (madeCells #[.int .u8 0] k).toList = fillC [] k 0 ∧ ∀ data, fillC data k 0 = fillC [] k 0 := by
  refine ⟨?_, fun data => by unfold fillC; rw [List.take_zero, List.take_zero]⟩
  unfold fillC madeCells
  rw [List.take_zero, List.nil_append]
  apply List.ext_getElem
  · simp
  · intro i h1 h2
    simp [u8V, Nat.mod_one]
theorem fillC_end (data : List UInt8) (k : Nat) : fillC data k k = (fillD data k).map u8V := by
  unfold fillC
  rw [Nat.sub_self, List.replicate_zero, List.append_nil, List.take_of_length_le (by rw [fillD_len]; exact Nat.le_refl _)]
set_option maxRecDepth 100000 in
set_option maxHeartbeats 8000000 in
theorem jm_any (n : Nat) (hn : n < 256) (data more : List UInt8) (hd : data.length ≤ 140737488355328) (hm : more.length ≤ 140737488355328) (w : World) (hmx : MaxAt w) :
    Calls Tryd.prog 3 #[.int .u8 n, .string (bs data), .string (bs more)] w (RetV (.bool true) w) := by
  have HM := Lib.hid hmx
  obtain ⟨i0, hi0, hz0, hz1, hz2⟩ := info_parts infoU8
  have hszd : (bs data).size = data.length := bs_size data
  have hszm : (bs more).size = more.length := bs_size more
  obtain ⟨k, hk⟩ : ∃ k, k = n % 33 := ⟨_, rfl⟩
  have hk32 : k ≤ 32 := by omega
  have hkn : (n : Int) % 33 = (k : Int) := by omega
  clear hmx hk
  go_enter Tryd.func3, Tryd.ntmps3
  go_wp2_with fail
  refine (opex_any _ HM.out).mono ?_
  rintro e w1 ⟨rfl, hb1⟩
  have HS1 := Lib.hid ((St.start (ag_emp w)).grow hb1)
  clear hb1
  go_wp2_with (first
    | (refine wpList_makeFull_st (c := k) HS1.out rfl 5 23 (.tmp 20) (.tmp 20) rfl i0 _ 1 rfl rfl Tryd.underlying23 hi0 hz0 hz1 hz2 (by omega) (by omega) ?_)
    | fail)
  intro w2 S2
  have HS2 : Hid (St empH w none_ empH w2 [own 5 1 (.slice (some ⟨w1.heap.size, 0, none⟩) k k) k (fillC data k 0)]) := Lib.hid (by
    rw [(made_zero k).2 data, ← (made_zero k).1]
    exact S2)
  clear S2 HS1
  go_wp2_with fail
  go_loopw [10] (fun z wr => ∃ j : Nat, z = .int .i64 j ∧ j ≤ k ∧ Hid (St empH w none_ empH wr [own 5 1 (.slice (some ⟨w1.heap.size, 0, none⟩) k k) k (fillC data k j)])) (fun z _ => k - (intOf z).toNat)
  case atStart => exact ⟨0, rfl, Nat.zero_le _, HS2⟩
  case round =>
    clear HS2
    obtain ⟨j, rfl, hj, HS⟩ := hrel
    obtain ⟨wp, rfl⟩ : ∃ wp : World, wp = wr := ⟨_, rfl⟩
    by_cases hlt : j < k
    · have HFS := Lib.hid (fillC_set data hlt)
      have hszu : (Tryd.prog.info? 5).map (·.size) = some 1 := by kernel_rfl
      by_cases hjd : j < data.length
      · have hk2 : j < (bs data).size := by rw [hszd]; exact hjd
        have HBB := Lib.hid (show (bs data)[j]'hk2 = data.getD j 0 from bs_at hk2)
        go_wp2_with (first
          | (refine wpList_setOwn_st 0 HS.out rfl rfl 5 (.tmp 29) (.const (.int .u8 91)) rfl rfl rfl rfl hszu (by omega) ?_)
          | fail)
        intro w3 S3
        have HS3 := Lib.hid S3
        clear S3 HS
        go_wp2_with (first
          | (refine wpList_setOwn_st 0 HS3.out rfl rfl 5 (.tmp 39) (.tmp 38) rfl rfl rfl rfl hszu (by omega) ?_)
          | fail)
        intro w4 S4
        have HS4 : Hid (St empH w none_ empH w4 [own 5 1 (.slice (some ⟨w1.heap.size, 0, none⟩) k k) k (fillC data k (j + 1))]) := Lib.hid (by
          have h := HFS.out
          rw [if_pos hjd] at h
          rw [← h, ← HBB.out]
          exact S4)
        clear S4 HS3
        go_wp2_with fail
        go_roundw
        case rel => exact ⟨j + 1, by go_num, by omega, HS4⟩
        case measure => simp [intOf]; omega
      · go_wp2_with (first
          | (refine wpList_setOwn_st (u := u8V 91) 0 HS.out rfl rfl 5 (.tmp 29) (.const (.int .u8 91)) rfl rfl rfl rfl hszu (by omega) ?_)
          | fail)
        intro w3 S3
        have HS3 : Hid (St empH w none_ empH w3 [own 5 1 (.slice (some ⟨w1.heap.size, 0, none⟩) k k) k (fillC data k (j + 1))]) := Lib.hid (by
          have h := HFS.out
          rw [if_neg hjd] at h
          rw [← h]
          exact S3)
        clear S3 HS
        go_wp2_with fail
        go_roundw
        case rel => exact ⟨j + 1, by go_num, by omega, HS3⟩
        case measure => simp [intOf]; omega
    · obtain rfl : j = k := by omega
      have HS2 := HS
      clear HS
      obtain ⟨m, hmm⟩ : ∃ m, m = more.take 100 := ⟨_, rfl⟩
      have hm100 : m.length ≤ 100 := by rw [hmm, List.length_take]; omega
      have HE : Hid ((bs more).extract 0 (min (more.length : Int) 100).toNat = bs m) := Lib.hid (by
        rw [bs_ext, List.drop_zero, hmm]
        congr 1
        by_cases h : more.length ≤ 100
        · rw [List.take_of_length_le (by omega), List.take_of_length_le h]
        · congr 1
          omega)
      have hb5 : (95 : Int) + (j : Int) ≤ 127 := by omega
      have hconv1 := run_convert_bytes_arg (P := Tryd.prog) (wp.alloc (.cells #[.int .u8 (95 + (j : Int))] 5)) 23 5 Tryd.underlying23 Tryd.underlying5 wp.heap.size 0 1 1 [95 + (j : Int)] rfl (fun i hi => by
        obtain rfl : i = 0 := by omega
        rw [cell_of_row _ _ _ _ _ _ (heap_alloc_new wp _)]
        rfl) 9 Tryd.underlying9
      have hconv2 : (convert 23 9 (.slice (some ⟨w1.heap.size, 0, none⟩) j j)).run Tryd.prog (wp.alloc (.cells #[.int .u8 (95 + (j : Int))] 5)) = .ok (.string (bs (fillD data j))) (wp.alloc (.cells #[.int .u8 (95 + (j : Int))] 5)) := by
        rw [← str_bytes]
        refine run_convert_bytes_arg (P := Tryd.prog) _ 23 5 Tryd.underlying23 Tryd.underlying5 w1.heap.size 0 j j ((fillD data j).map fun b => (b.toNat : Int)) (by rw [List.length_map, fillD_len]) (fun i hi => ?_) 9 Tryd.underlying9
        rw [Nat.zero_add]
        refine cell_later ((Below.refl _ _).alloc (Nat.le_refl _) _) ?_
        rw [HS2.out.ownCell 0 rfl i (by omega), fillC_end, List.getElem?_map, List.getElem?_eq_getElem (by rw [fillD_len]; exact hi), List.getD_eq_getElem?_getD, List.getElem?_map, List.getElem?_eq_getElem (by rw [fillD_len]; exact hi)]
        rfl
      have hs1 : (strOfNums [95 + (j : Int)]).size = 1 := by rw [strOfNums_size]; rfl
      have hs2 : (bs (fillD data j)).size = j := by rw [bs_size, fillD_len]
      have hs3 : (bs m).size = m.length := bs_size m
      have hcat1 : (9223372036854775807 < (strOfNums [95 + (j : Int)]).size + (bs (fillD data j)).size) = False := eq_false (by omega)
      have hcat2 : (9223372036854775807 < (strOfNums [95 + (j : Int)]).size + (bs (fillD data j)).size + (bs m).size) = False := eq_false (by omega)
      clear hs1 hs2 hs3
      have HJ1 : Hid (∀ w, Calls Tryd.prog 6 #[.string (strOfNums [95 + (j : Int)] ++ bs (fillD data j) ++ bs m)] w (IntsP ((jumpsL m).map fun x => j + 1 + x) w)) := Lib.hid fun w => by
        have e : strOfNums [95 + (j : Int)] ++ bs (fillD data j) ++ bs m = bs (UInt8.ofNat (95 + j) :: fillD data j ++ m) := by
          apply ByteArray.ext
          have e1 : strOfNums [95 + (j : Int)] = bs [UInt8.ofNat (95 + j)] := by
            show bs [UInt8.ofNat (95 + (j : Int)).toNat] = _
            rw [show (95 + (j : Int)).toNat = 95 + j by omega]
          rw [e1]
          simp [bs]
        rw [e]
        have hjw := jumps_whole j hk32 (UInt8.ofNat (95 + j)) (by rw [UInt8.toNat_ofNat']; omega) (fillD data j) m (fillD_len data j)
        rw [← hjw]
        exact jumps_any _ (by rw [List.length_append, List.length_cons, fillD_len]; omega) w
      have HJ2 := Lib.hid (fun w => jumps_any m (by omega) w)
      have HJA := Lib.hid (jumps_at m m.length 0 (by omega))
      have hln : (jumpsL m).length ≤ 100 := Nat.le_trans (eachL_len (jF m) (jF_len m) m m.length 0 (by omega)) hm100
      clear hmm
      go_upto_region 13 with (fail)
      rw [HE.out]
      go_wp2_with fail
      clear hconv1 hconv2 hcat1 hcat2
      refine (HJ1.out _).mono ?_
      rintro e w3 ⟨v1, rfl, S3⟩
      have HS3 := Lib.hid ((HS2.out.alloc (.cells #[.int .u8 (95 + (j : Int))] 5)).more S3)
      clear S3 HS2
      rw [List.length_map] at HS3
      obtain ⟨A1, c1, rfl⟩ := own_slice HS3.out 0 rfl
      go_wp2_with fail
      refine (HJ2.out _).mono ?_
      rintro e w4 ⟨v2, rfl, S4⟩
      obtain ⟨A2, c2, rfl⟩ := own_slice S4 0 rfl
      have HS4 : Hid (St empH w none_ empH w4 [own 3 1 (.slice A2 (jumpsL m).length c2) (jumpsL m).length ((jumpsL m).map intV), own 3 1 (.slice A1 (jumpsL m).length c1) (jumpsL m).length (((jumpsL m).map fun x => j + 1 + x).map intV)]) := Lib.hid ((HS3.out.more S4).drop 2 |>.drop 2)
      clear S4 HS3
      have HJA2 : Hid (∀ x ∈ jumpsL m, x < m.length ∧ (m.getD x 0).toNat = 91) := Lib.hid HJA.out
      clear HJA HJ1 HJ2
      generalize jumpsL m = js at HS4 HJA2 hln ⊢
      obtain ⟨N, hN⟩ : ∃ N, N = js.length := ⟨_, rfl⟩
      rw [← hN] at HS4 hln ⊢
      have HN := Lib.hid hN
      have hszm2 : (bs m).size = m.length := bs_size m
      clear hN
      go_wp2_with fail
      go_loopw [13] (fun z wr => ∃ i : Nat, z = .int .i64 i ∧ i ≤ N ∧ Hid (St empH w none_ empH wr [own 3 1 (.slice A2 N c2) N (js.map intV), own 3 1 (.slice A1 N c1) N ((js.map fun x => j + 1 + x).map intV)])) (fun z _ => N - (intOf z).toNat)
      case atStart => exact ⟨0, rfl, Nat.zero_le _, HS4⟩
      case round =>
        clear HS4
        obtain ⟨i, rfl, hi, HS⟩ := hrel
        by_cases hlt : i < N
        · obtain ⟨g2, rfl, _⟩ := HS.out.ownForm 0 rfl (by omega)
          obtain ⟨g1, rfl, _⟩ := HS.out.ownForm 1 rfl (by omega)
          have hil : i < js.length := by have := HN.out; omega
          obtain ⟨x, hx⟩ : ∃ x : Nat, js[i]? = some x := ⟨_, List.getElem?_eq_getElem hil⟩
          obtain ⟨hxm, hx91⟩ := HJA2.out x (List.mem_of_getElem? hx)
          obtain ⟨y, hy⟩ : ∃ y, y = j + 1 + x := ⟨_, rfl⟩
          have e1 : wr.cell? ⟨g1, i, none⟩ = some (.int .i64 y) := by rw [HS.out.ownCell 1 rfl i (by omega), List.map_map, List.getElem?_map, hx, hy]; rfl
          have e2 : wr.cell? ⟨g2, i, none⟩ = some (.int .i64 x) := by rw [HS.out.ownCell 0 rfl i (by omega), List.getElem?_map, hx]; rfl
          have hk2 : x < (bs m).size := by rw [hszm2]; exact hxm
          have q1 : ((y : Int) != (x : Int) + 1 + (j : Int)) = false := by rw [bne_eq_false_iff_eq]; omega
          have q2 : ((((bs m)[x]'hk2).toNat : Int) != 91) = false := by rw [bne_eq_false_iff_eq, bs_at hk2]; omega
          have q3 : IntKind.i64.wrap ((x : Int) + 1) = (x : Int) + 1 := IntWalk.i64_in _ (by omega)
          have q4 : IntKind.i64.wrap ((x : Int) + 1 + (j : Int)) = (x : Int) + 1 + (j : Int) := IntWalk.i64_in _ (by omega)
          clear hx hx91 hy hil
          go_wp2_with fail
          go_quiet (fail)
          go_wp2_with fail
          go_roundw
          case rel => exact ⟨i + 1, by go_num, by omega, HS.out.drewN _⟩
          case measure => simp [intOf]; omega
        · obtain rfl : i = N := by omega
          go_wp2_with fail
          go_ret
          exact ⟨rfl, HS.out.below⟩
theorem jm_wf {a : Int} (ha : (Lit.int .u8 a).wf = true) (s t : ByteArray) (hs : s.size ≤ 140737488355328) (ht : t.size ≤ 140737488355328) (W : World) (h : W.ShapedOpen Tryd.prog) : Calls Tryd.prog 3 #[.int .u8 a, .string s, .string t] W (RetV (.bool true) W) := by
  obtain ⟨n, rfl, hn⟩ := wf8 ha
  exact jm_any n hn s.data.toList t.data.toList (by simpa using hs) (by simpa using ht) W (maxAt_shaped h)
end Go.Proofs.YtfphlkkhpccpnabDoor
