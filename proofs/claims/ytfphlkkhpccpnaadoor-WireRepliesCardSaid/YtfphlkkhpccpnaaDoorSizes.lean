/-
  WireSizes.
-/
import Derived.Test.YtfphlkkhpccpnaaDoorExam
import Derived.Test.YtfphlkkhpccpnaaDoorPlCut
namespace Go.Proofs.YtfphlkkhpccpnaaDoor
open Go.RowKit Go.Proofs K
set_option linter.unusedVariables false

def digA : ByteArray := ⟨#[48, 49, 50, 51, 52, 53, 54, 55, 56, 57, 48, 49, 50, 51, 52, 53, 54, 55, 56, 57]⟩
theorem digA_size : digA.size = 20 := rfl
theorem bs_extract (s : ByteArray) (j : Nat) : s.extract 0 j = bs (s.data.toList.take j) := by
  rw [← bs_list s, bs_take, bs_list]
theorem bs_add (s : ByteArray) (l : List UInt8) : s ++ bs l = bs (s.data.toList ++ l) := by
  apply ByteArray.ext
  simp [bs]
theorem byteS (n : Int) : strOfNums [n] = bs [UInt8.ofNat n.toNat] := rfl
theorem zero_mod {n : Nat} (h : 0 < n) (c : Int) (hc : 0 ≤ c) : c.tmod (n : Int) = ((c.toNat % n : Nat) : Int) ∧ c.toNat % n < n := by
  refine ⟨?_, Nat.mod_lt _ h⟩
  rw [Int.tmod_eq_emod_of_nonneg hc]
  obtain ⟨m, rfl⟩ := Int.eq_ofNat_of_zero_le hc
  rw [Int.toNat_natCast, Int.natCast_emod]
theorem putReplyR_two (id e f g h : Int) : putReplyR 2 id 0 0 0 0 0 ⟨#[]⟩ e f g h = (replyB [numS id, wordS e f g h], true) := by
  unfold putReplyR
  rw [if_neg (by decide), if_neg (by decide), if_pos rfl, if_pos ⟨rfl, ⟨rfl, rfl, rfl, rfl⟩, by rw [ByteArray.toList_eq]⟩]
set_option maxRecDepth 100000 in
set_option maxHeartbeats 4000000 in
theorem sizes_any (id a b c d e f g h cut more : Int) (hid : W64 id) (he : W64 e) (hf : W64 f) (hg : W64 g) (hh : W64 h) (hc0 : 0 ≤ cut) (hc1 : cut < 256) (w : World) :
    Calls Tryd.prog 7 #[.int .u64 id, .agg #[.int .u64 a, .int .u64 b, .int .u64 c, .int .u64 d], .agg #[.int .u64 e, .int .u64 f, .int .u64 g, .int .u64 h], .int .u8 cut, .int .u8 more] w (RetV (.bool true) w) := by
  obtain ⟨s, hs⟩ : ∃ s, s = putL (askTs id digA a b c d 2) := ⟨_, rfl⟩
  obtain ⟨t, ht⟩ : ∃ t, t = replyB [numS id, wordS e f g h] := ⟨_, rfl⟩
  have hsL : s.data.toList.length = s.size := sizeL s
  have htL : t.data.toList.length = t.size := sizeL t
  have hs0 : 0 < s.size := by
    rw [← hsL, hs]
    have := putL_len (askTs id digA a b c d 2)
    omega
  have ht0 : 0 < t.size := by
    rw [← htL, ht, replyB_len]
    omega
  have hs9 : s.size ≤ 65536 := by
    rw [← hsL, hs]
    exact askTs_len digA_size
  have ht9 : t.size ≤ 65540 := by
    rw [← htL, ht, replyB_len]
    have := two_len (id := id) (a := e) (b := f) (c := g) (d := h)
    omega
  obtain ⟨i, hi⟩ : ∃ i, i = cut.toNat % s.size := ⟨_, rfl⟩
  obtain ⟨j, hj⟩ : ∃ j, j = cut.toNat % t.size := ⟨_, rfl⟩
  have hm1 : cut.tmod (s.size : Int) = (i : Int) := by rw [hi]; exact (zero_mod hs0 cut hc0).1
  have hm2 : cut.tmod (t.size : Int) = (j : Int) := by rw [hj]; exact (zero_mod ht0 cut hc0).1
  have hi1 : i < s.size := by rw [hi]; exact (zero_mod hs0 cut hc0).2
  have hj1 : j < t.size := by rw [hj]; exact (zero_mod ht0 cut hc0).2
  have PA : Hid (∀ w, Calls Tryd.prog 12 #[.agg (askC id digA a b c d 2)] w (RetV (.tuple #[.string s, .bool true]) w)) := Lib.hid fun w => by
    have h0 := putAsk_all id digA a b c d 2 w
    rw [putAskR_ok ⟨digA_size, .inl rfl⟩, ← hs] at h0
    exact h0
  have PR : Hid (∀ w, Calls Tryd.prog 17 #[.int .i64 2, .agg (replyC id 0 0 0 0 0 ⟨#[]⟩ e f g h)] w (RetV (.tuple #[.string t, .bool true]) w)) := Lib.hid fun w => by
    have h0 := putReply_all 2 id 0 0 0 0 0 ⟨#[]⟩ e f g h w
    rw [putReplyR_two, ← ht] at h0
    exact h0
  have G1 : Hid (∀ w, Calls Tryd.prog 15 #[.string (s.extract 0 i)] w (RetV (.tuple #[.agg zAsk, .bool false]) w)) := Lib.hid fun w => by
    rw [bs_extract]
    rw [← hsL] at hi1
    rw [hs] at hi1 ⊢
    exact sizes_askCut digA_size hi1 w
  have G2 : Hid (∀ w, Calls Tryd.prog 15 #[.string (s ++ strOfNums [more])] w (RetV (.tuple #[.agg zAsk, .bool false]) w)) := Lib.hid fun w => by
    rw [byteS, bs_add, hs]
    exact sizes_askMore digA_size _ w
  have G3 : Hid (∀ w, Calls Tryd.prog 20 #[.int .i64 2, .string (t.extract 0 j)] w (RetV (.tuple #[.agg zReply, .bool false]) w)) := Lib.hid fun w => by
    rw [bs_extract]
    rw [← htL] at hj1
    rw [ht] at hj1 ⊢
    exact sizes_replyCut hj1 w
  have G4 : Hid (∀ w, Calls Tryd.prog 20 #[.int .i64 2, .string (t ++ strOfNums [more])] w (RetV (.tuple #[.agg zReply, .bool false]) w)) := Lib.hid fun w => by
    rw [byteS, bs_add, ht]
    exact sizes_replyMore _ w
  clear hs ht hsL htL hi hj hid he hf hg hh
  have n1 : ((s.size : Int) == 0) = false := by rw [beq_eq_false_iff_ne]; omega
  have n2 : ((t.size : Int) == 0) = false := by rw [beq_eq_false_iff_ne]; omega
  have a0 : (strOfNums [more]).size = 1 := rfl
  have a1 : s.size + (strOfNums [more]).size ≤ 9223372036854775807 := by rw [a0]; omega
  have a2 : t.size + (strOfNums [more]).size ≤ 9223372036854775807 := by rw [a0]; omega
  have a3 : (9223372036854775807 < s.size + (strOfNums [more]).size) = False := eq_false (by omega)
  have a4 : (9223372036854775807 < t.size + (strOfNums [more]).size) = False := eq_false (by omega)
  clear a0
  have HS := Lib.hid (((St.start (ag_emp w)).alloc (.cells #[.int .u64 a, .int .u64 b, .int .u64 c, .int .u64 d] 24)).alloc' (.cells #[.int .u64 e, .int .u64 f, .int .u64 g, .int .u64 h] 24) (w.heap.size + 1) (by simp))
  go_enter Tryd.func7, Tryd.ntmps7
  go_wp2_with fail
  refine (examples_any _).mono ?_
  rintro z w1 ⟨rfl, hb1⟩
  have HS1 := Lib.hid (HS.out.grow hb1)
  clear HS hb1
  go_wp2_with (first
    | (refine wpList_load_st (cs := #[.int .u64 a, .int .u64 b, .int .u64 c, .int .u64 d]) 1 HS1.out rfl rfl 24 (.tmp 6) rfl rfl _ Tryd.underlying24 rfl szWord ?_)
    | fail)
  refine (PA.out _).mono ?_
  rintro z w2 ⟨rfl, hb2⟩
  have HS2 := Lib.hid (HS1.out.grow hb2)
  clear HS1 hb2 PA
  go_wp2_with (first
    | (refine wpList_load_st (cs := #[.int .u64 e, .int .u64 f, .int .u64 g, .int .u64 h]) 0 HS2.out rfl rfl 24 (.tmp 7) rfl rfl _ Tryd.underlying24 rfl szWord ?_)
    | fail)
  refine (PR.out _).mono ?_
  rintro z w3 ⟨rfl, hb3⟩
  have HS3 := Lib.hid (HS2.out.grow hb3)
  clear HS2 hb3 PR
  go_wp2_with fail
  refine (G1.out _).mono ?_
  rintro z w4 ⟨rfl, hb4⟩
  have HS4 := Lib.hid ((HS3.out.grow hb4).alloc (.cells zAsk 26))
  clear HS3 hb4 G1
  go_wp2_with (first
    | (refine wpList_store_st (cs := zAsk) 0 HS4.out rfl rfl 26 (.tmp 16) (.tmp 66) rfl rfl rfl szAsk rfl (oneAsk _ _ _ _ _ _ _) ?_)
    | fail)
  intro w5 S5
  have HS5 := Lib.hid (S5.alloc (.cells #[.int .u8 more] 5))
  have hconv5 := run_convert_bytes_arg (w5.alloc (.cells #[.int .u8 more] 5)) 33 5 Tryd.underlying33 Tryd.underlying5 w5.heap.size 0 1 1 [more] rfl (fun i hi => by
    rw [cell_of_row _ _ _ _ _ _ (heap_alloc_new w5 _)]
    rcases (by omega : i = 0) with e; rw [e]; rfl) 9 Tryd.underlying9
  clear HS4 S5
  go_wp2_with fail
  refine (G2.out _).mono ?_
  rintro z w6 ⟨rfl, hb6⟩
  have HS6 := Lib.hid ((HS5.out.grow hb6).alloc (.cells zAsk 26))
  clear HS5 hb6 G2 hconv5
  go_wp2_with (first
    | (refine wpList_store_st (cs := zAsk) 0 HS6.out rfl rfl 26 (.tmp 18) (.tmp 75) rfl rfl rfl szAsk rfl (oneAsk _ _ _ _ _ _ _) ?_)
    | fail)
  intro w7 S7
  have HS7 := Lib.hid S7
  clear HS6 S7
  go_wp2_with fail
  refine (G3.out _).mono ?_
  rintro z w8 ⟨rfl, hb8⟩
  have HS8 := Lib.hid ((HS7.out.grow hb8).alloc (.cells zReply 42))
  clear HS7 hb8 G3
  go_wp2_with (first
    | (refine wpList_store_st (cs := zReply) 0 HS8.out rfl rfl 42 (.tmp 20) (.tmp 86) rfl rfl rfl szReply rfl (oneReply _ _ _ _ _ _ _ _ _ _ _) ?_)
    | fail)
  intro w9 S9
  have HS9 := Lib.hid (S9.alloc (.cells #[.int .u8 more] 5))
  have hconv9 := run_convert_bytes_arg (w9.alloc (.cells #[.int .u8 more] 5)) 33 5 Tryd.underlying33 Tryd.underlying5 w9.heap.size 0 1 1 [more] rfl (fun i hi => by
    rw [cell_of_row _ _ _ _ _ _ (heap_alloc_new w9 _)]
    rcases (by omega : i = 0) with e; rw [e]; rfl) 9 Tryd.underlying9
  clear HS8 S9
  go_wp2_with fail
  refine (G4.out _).mono ?_
  rintro z w10 ⟨rfl, hb10⟩
  have HS10 := Lib.hid ((HS9.out.grow hb10).alloc (.cells zReply 42))
  clear HS9 hb10 G4 hconv9
  go_wp2_with (first
    | (refine wpList_store_st (cs := zReply) 0 HS10.out rfl rfl 42 (.tmp 22) (.tmp 95) rfl rfl rfl szReply rfl (oneReply _ _ _ _ _ _ _ _ _ _ _) ?_)
    | fail)
  intro w11 S11
  have HS11 := Lib.hid S11
  clear HS10 S11
  go_wp2_with fail
  exact bodyPost_ret (v := .bool true) (by simp [results, Tryd.results7, go_sem]) rfl ⟨rfl, HS11.out.below⟩
end Go.Proofs.YtfphlkkhpccpnaaDoor
