/-
  WireBack: the walk.
-/
import Derived.Test.YtfphlkkhpccpnaaDoorBack
namespace Go.Proofs.YtfphlkkhpccpnaaDoor
open Go.RowKit Go.Proofs K
set_option linter.unusedVariables false

theorem made_below {H : Hs} {w w' : World} (hw : Ag H w) (hb : Below w.heap.size w w') {o : Obj} (ho : w'.heap[w.heap.size]? = some o) : St H w none_ H w' [blk w.heap.size o] :=
  ⟨hb.os, hb.tape, hb.output, hb.size, fun k hk _ => hb.block k hk, Le.refl _, fun _ _ h => .inl h, ag_below hw hb,
    fun b => b = w.heap.size, none_, ⟨rfl, ho⟩, fun b hb => ⟨by subst hb; exact (Array.getElem?_eq_some_iff.1 ho).1, .inl (by subst hb; exact Nat.le_refl _), by subst hb; exact ag_none hw (Nat.le_refl _)⟩, fun _ h => h.elim, fun _ _ h => h, trivial⟩
/-- A text's bytes in a new row, some room behind them. -/
def bytesO (l : List UInt8) (r : Nat) : Obj := .cells ((l.map fun b => Value.int .u8 b.toNat).toArray ++ Array.replicate r (.int .u8 0)) 5 (l.length + r, l.length + r + 1)
theorem bytes_st {H0 H : Hs} {w0 w : World} {X : Nat → Prop} {ps : List Hp} (S : St H0 w0 X H w ps) (s : ByteArray) : ∃ r, St H0 w0 X H (Lib.bytesWorld w 5 s) (blk w.heap.size (bytesO s.data.toList r) :: ps) := by
  refine ⟨grownCap w s.size 0 5 - s.size, S.more (made_below S.ag (below_bytes w 5 s) ?_)⟩
  rw [Lib.bytesWorld_at_new]
  have hs : s.data.size = s.data.toList.length := by simp
  have e : Lib.bytesCells w 5 s = (s.data.toList.map fun b => Value.int .u8 b.toNat).toArray ++ Array.replicate (grownCap w s.size 0 5 - s.size) (.int .u8 0) := by
    unfold Lib.bytesCells
    congr 1
    apply Array.toList_inj.1
    simp
  unfold bytesO
  rw [e]
  simp
theorem bytesO_at {l : List UInt8} {r j : Nat} (h : j < l.length) : ((l.map fun b => Value.int .u8 b.toNat).toArray ++ Array.replicate r (Value.int .u8 0))[j]? = some (.int .u8 (l.getD j 0).toNat) := by
  rw [Array.getElem?_append_left (by simpa using h)]
  simp [h]
theorem bytesO_frozen {w : World} {b : Nat} {l : List UInt8} {r j : Nat} (h : w.heap[b]? = some (bytesO l r)) (hj : j < l.length) : w.frozen? ⟨b, j, none⟩ = false := by
  simp [World.frozen?, h, bytesO]
  omega
theorem bytesO_set {l : List UInt8} {r j : Nat} (h : j < l.length) (x : UInt8) : ((l.map fun b => Value.int .u8 b.toNat).toArray ++ Array.replicate r (Value.int .u8 0)).setIfInBounds j (.int .u8 x.toNat) = (((l.set j x).map fun b => Value.int .u8 b.toNat).toArray ++ Array.replicate r (.int .u8 0)) := by
  apply Array.toList_inj.1
  simp [h, List.map_set]
theorem flipped (x : UInt8) {m : Nat} (hm : m < 8) : ∃ y : UInt8, bits .xor .u8 (x.toNat : Int) (2 ^ m % 256) = (y.toNat : Int) ∧ y ≠ x := by
  have hx : x.toNat < 256 := x.toNat_lt
  have key : ∀ p : Nat, 0 < p → p < 256 → ∃ y : UInt8, bits .xor .u8 (x.toNat : Int) (p : Int) = (y.toNat : Int) ∧ y ≠ x := fun p hp0 hp => by
    have hb := xor256 hx hp
    refine ⟨UInt8.ofNat (x.toNat ^^^ p), ?_, fun h => ?_⟩
    · rw [bx8 _ _ hx hp, UInt8.toNat_ofNat', Nat.mod_eq_of_lt (by omega)]
    · have h1 := congrArg UInt8.toNat h
      rw [UInt8.toNat_ofNat', Nat.mod_eq_of_lt (by omega)] at h1
      have h2 : x.toNat ^^^ p = x.toNat ^^^ 0 := by rw [Nat.xor_zero]; exact h1
      have := xor_cancel h2
      omega
  rcases (by omega : m = 0 ∨ m = 1 ∨ m = 2 ∨ m = 3 ∨ m = 4 ∨ m = 5 ∨ m = 6 ∨ m = 7) with rfl | rfl | rfl | rfl | rfl | rfl | rfl | rfl
  · exact key 1 (by decide) (by decide)
  · exact key 2 (by decide) (by decide)
  · exact key 4 (by decide) (by decide)
  · exact key 8 (by decide) (by decide)
  · exact key 16 (by decide) (by decide)
  · exact key 32 (by decide) (by decide)
  · exact key 64 (by decide) (by decide)
  · exact key 128 (by decide) (by decide)
theorem strOfBytes (l : List UInt8) : strOfNums (l.map fun b => (b.toNat : Int)) = bs l := by
  unfold strOfNums bs
  rw [List.map_map]
  congr 2
  conv => rhs; rw [← List.map_id l]
  apply List.map_congr_left
  intro b _
  simp
theorem bytesO_conv {w : World} {b : Nat} {l : List UInt8} {r cap : Nat} (h : w.heap[b]? = some (bytesO l r)) : (convert 33 9 (.slice (some ⟨b, 0, none⟩) l.length cap)).run Tryd.prog w = .ok (.string (bs l)) w := by
  rw [← strOfBytes]
  refine run_convert_bytes_arg w 33 5 Tryd.underlying33 Tryd.underlying5 b 0 l.length cap (l.map fun b => (b.toNat : Int)) (by simp) (fun i hi => ?_) 9 Tryd.underlying9
  rw [Nat.zero_add, cell_of_row _ _ _ _ _ _ h, bytesO_at hi]
  simp [hi]
set_option maxRecDepth 100000 in
set_option maxHeartbeats 4000000 in
theorem back_walk (id sa sb sc sd n a b c d : Int) (code0 code : ByteArray) (e f g h bit : Int) (hbit0 : 0 ≤ bit) (hbit1 : bit < 4294967296) {s t u : ByteArray}
    (BC : BackCalls id sa sb sc sd n a b c d code s t u e f g h) (hcd : code0.extract 0 (min (code0.size : Int) 300).toNat = code) (hcode : code0.size ≤ 140737488355328) (w : World) :
    Calls Tryd.prog 5 #[.int .u64 id, .agg #[.int .u64 sa, .int .u64 sb, .int .u64 sc, .int .u64 sd], .agg #[.int .u64 n, .int .u64 a, .int .u64 b, .int .u64 c, .int .u64 d, .string code0], .agg #[.int .u64 e, .int .u64 f, .int .u64 g, .int .u64 h], .int .u32 bit] w (RetV (.bool true) w) := by
  have HB := Lib.hid BC
  clear BC
  have HS := Lib.hid ((((St.start (ag_emp w)).alloc (.cells #[.int .u64 sa, .int .u64 sb, .int .u64 sc, .int .u64 sd] 24)).alloc' (.cells #[.int .u64 n, .int .u64 a, .int .u64 b, .int .u64 c, .int .u64 d, .string code0] 40) (w.heap.size + 1) (by simp)).alloc' (.cells #[.int .u64 e, .int .u64 f, .int .u64 g, .int .u64 h] 24) (w.heap.size + 2) (by simp))
  go_enter Tryd.func5, Tryd.ntmps5
  go_wp2_with fail
  refine (examples_any _).mono ?_
  rintro z w1 ⟨rfl, hb1⟩
  have HS1 := Lib.hid (HS.out.grow hb1)
  clear HS hb1
  go_wp2_with (first
    | (refine wpList_load_st (cs := #[.int .u64 sa, .int .u64 sb, .int .u64 sc, .int .u64 sd]) 2 HS1.out rfl rfl 24 (.tmp 6) rfl rfl _ Tryd.underlying24 rfl szWord ?_)
    | fail)
  have HS1a := Lib.hid (HS1.out.alloc (.cells (askC id digA sa sb sc sd 2) 26))
  clear HS1
  refine (HB.out.pa _).mono ?_
  rintro z w2 ⟨rfl, hb2⟩
  have HS2 := Lib.hid (HS1a.out.grow hb2)
  clear HS1a hb2
  go_wp2_with fail
  refine (HB.out.ga _).mono ?_
  rintro z w3 ⟨rfl, hb3⟩
  have HS3 := Lib.hid ((HS2.out.grow hb3).alloc (.cells zAsk 26))
  clear HS2 hb3
  go_wp2_with (first
    | (refine wpList_store_st (cs := askC id digA sa sb sc sd 2) 0 HS3.out rfl rfl 26 (.tmp 15) (.tmp 47) rfl rfl rfl szAsk rfl (oneAsk _ _ _ _ _ _ _) ?_)
    | fail)
  intro w4 S4
  have c5 : w4.cell? ⟨w.heap.size + 1, 5, none⟩ = some (.string code0) := S4.cell 3 rfl rfl
  have f5 : w4.frozen? ⟨w.heap.size + 1, 5, none⟩ = false := S4.frozen 3 rfl 5
  have HS4 : Hid (St empH w none_ empH _ [blk (w.heap.size + 1) (.cells #[.int .u64 n, .int .u64 a, .int .u64 b, .int .u64 c, .int .u64 d, .string code] 40), blk w3.heap.size (.cells (askC id digA sa sb sc sd 2) 26), blk w1.heap.size (.cells (askC id digA sa sb sc sd 2) 26), blk (w.heap.size + 2) (.cells #[.int .u64 e, .int .u64 f, .int .u64 g, .int .u64 h] 24)]) := (S4.setCell (j := 5) 3 rfl (.string code)).drop 4
  clear HS3 S4
  go_wp2_with (first
    | (refine wpList_load_st (cs := #[.int .u64 n, .int .u64 a, .int .u64 b, .int .u64 c, .int .u64 d, .string code]) 0 HS4.out rfl rfl 40 (.tmp 7) rfl rfl _ Tryd.underlying40 rfl szAcc ?_)
    | fail)
  have HS5 := Lib.hid (HS4.out.alloc' (.cells (replyC id n a b c d code 0 0 0 0) 42) w4.heap.size (by simp))
  clear HS4 c5 f5
  refine (HB.out.pr _).mono ?_
  rintro z w5 ⟨rfl, hb5⟩
  have HS6 := Lib.hid (HS5.out.grow hb5)
  clear HS5 hb5
  go_wp2_with fail
  refine (HB.out.gr _).mono ?_
  rintro z w6 ⟨rfl, hb6⟩
  have HS7 := Lib.hid ((HS6.out.grow hb6).alloc (.cells zReply 42))
  clear HS6 hb6
  go_wp2_with (first
    | (refine wpList_store_st (cs := replyC id n a b c d code 0 0 0 0) 0 HS7.out rfl rfl 42 (.tmp 20) (.tmp 68) rfl rfl rfl szReply rfl (oneReply _ _ _ _ _ _ _ _ _ _ _) ?_)
    | fail)
  intro w7 S7
  have HS8 := Lib.hid S7
  clear HS7 S7
  go_wp2_with fail
  refine (HB.out.gw _).mono ?_
  rintro z w8 ⟨rfl, hb8⟩
  have HS9 := Lib.hid ((HS8.out.grow hb8).alloc (.cells zReply 42))
  clear HS8 hb8
  go_wp2_with (first
    | (refine wpList_store_st (cs := zReply) 0 HS9.out rfl rfl 42 (.tmp 22) (.tmp 73) rfl rfl rfl szReply rfl (oneReply _ _ _ _ _ _ _ _ _ _ _) ?_)
    | fail)
  intro w9 S9
  have HS10 : Hid (St empH w none_ empH w9 [blk w6.heap.size (.cells (replyC id n a b c d code 0 0 0 0) 42), blk w4.heap.size (.cells (replyC id n a b c d code 0 0 0 0) 42), blk w3.heap.size (.cells (askC id digA sa sb sc sd 2) 26), blk w1.heap.size (.cells (askC id digA sa sb sc sd 2) 26), blk (w.heap.size + 2) (.cells #[.int .u64 e, .int .u64 f, .int .u64 g, .int .u64 h] 24)]) := (S9.drop 0).drop 2
  clear HS9 S9
  go_wp2_with (first
    | (refine wpList_load_st (cs := #[.int .u64 e, .int .u64 f, .int .u64 g, .int .u64 h]) 4 HS10.out rfl rfl 24 (.tmp 8) rfl rfl _ Tryd.underlying24 rfl szWord ?_)
    | fail)
  have HS11 := Lib.hid (HS10.out.alloc (.cells (replyC id 0 0 0 0 0 ⟨#[]⟩ e f g h) 42))
  clear HS10
  refine (HB.out.pv _).mono ?_
  rintro z w10 ⟨rfl, hb10⟩
  have HS12 := Lib.hid (HS11.out.grow hb10)
  clear HS11 hb10
  go_wp2_with fail
  refine (HB.out.gv _).mono ?_
  rintro z w11 ⟨rfl, hb11⟩
  have HS13 := Lib.hid ((HS12.out.grow hb11).alloc (.cells zReply 42))
  clear HS12 hb11
  have ht5 := HB.out.t5
  have ht9 := HB.out.t9
  have l5 : ((t.size : Int) < 5) = False := eq_false (by omega)
  go_wp2_with (first
    | (refine wpList_store_st (cs := replyC id 0 0 0 0 0 ⟨#[]⟩ e f g h) 0 HS13.out rfl rfl 42 (.tmp 27) (.tmp 86) rfl rfl rfl szReply rfl (oneReply _ _ _ _ _ _ _ _ _ _ _) ?_)
    | fail)
  intro w12 S12
  have HS14 := Lib.hid S12
  clear HS13 S12
  obtain ⟨k, hk⟩ : ∃ k : Nat, bit % (8 * (t.size : Int)) = (k : Int) := ⟨(bit % (8 * (t.size : Int))).toNat, (Int.toNat_of_nonneg (Int.emod_nonneg _ (by omega))).symm⟩
  have hk8 : (k : Int) < 8 * (t.size : Int) := hk ▸ Int.emod_lt_of_pos _ (by omega)
  have hkw : wrap64 (k : Int) = (k : Int) := by unfold wrap64; omega
  have hconv := Lib.run_convert_string_bytes (P := Tryd.prog) w12 9 33 5 t Tryd.underlying9 Tryd.underlying33 Tryd.underlying5
  obtain ⟨r, S15⟩ := bytes_st HS14.out t
  obtain ⟨W, hW⟩ : ∃ W, W = Lib.bytesWorld w12 5 t := ⟨_, rfl⟩
  rw [← hW] at hconv S15
  have HS15 := Lib.hid S15
  have hj : k / 8 < t.size := by omega
  have hjL : k / 8 < t.data.toList.length := by rw [sizeL]; exact hj
  have hq : (k : Int).tdiv 8 = ((k / 8 : Nat) : Int) := by rw [Int.tdiv_eq_ediv_of_nonneg (by omega)]; omega
  have hr : (k : Int).tmod 8 = ((k % 8 : Nat) : Int) := by rw [Int.tmod_eq_emod_of_nonneg (by omega)]; omega
  have hcell : W.cell? ⟨w12.heap.size, k / 8, none⟩ = some (.int .u8 (t.data.toList.getD (k / 8) 0).toNat) := S15.cell 0 rfl (bytesO_at hjL)
  have hfr : W.frozen? ⟨w12.heap.size, k / 8, none⟩ = false := bytesO_frozen (S15.blk_at 0 rfl) hjL
  obtain ⟨x, hx⟩ : ∃ x, x = t.data.toList.getD (k / 8) 0 := ⟨_, rfl⟩
  rw [← hx] at hcell
  have HX := Lib.hid hx
  have HW := Lib.hid hW
  have hi1 : (0 : Int) ≤ ((k / 8 : Nat) : Int) := by omega
  have hi2 : ((k / 8 : Nat) : Int) < (t.size : Int) := by omega
  have hi3 : (0 : Int) ≤ ((k % 8 : Nat) : Int) := by omega
  obtain ⟨y, hy, hne⟩ := flipped x (m := k % 8) (by omega)
  have HNE : Hid (y ≠ t.data.toList[k / 8]) := by
    rw [hx, List.getD_eq_getElem?_getD, List.getElem?_eq_getElem hjL] at hne
    exact hne
  clear S15 hx HS14 hW hne
  go_wp2_with fail
  go_region
  have hset : ((t.data.toList.map fun b => Value.int .u8 b.toNat).toArray ++ Array.replicate r (Value.int .u8 0)).setIfInBounds (k / 8) (.int .u8 y.toNat) = _ := bytesO_set hjL y
  have S16 := (HS15.out.setCell (j := k / 8) 0 rfl (.int .u8 y.toNat)).drew
  rw [hset] at S16
  have hlen : (t.data.toList.set (k / 8) y).length = t.size := by rw [List.length_set, sizeL]
  have S17 : St empH w none_ empH ((W.setCell ⟨w12.heap.size, k / 8, none⟩ (.int .u8 y.toNat)).drew) [blk w12.heap.size (bytesO (t.data.toList.set (k / 8) y) r), blk w11.heap.size (.cells (replyC id 0 0 0 0 0 ⟨#[]⟩ e f g h) 42), blk w9.heap.size (.cells (replyC id 0 0 0 0 0 ⟨#[]⟩ e f g h) 42), blk w6.heap.size (.cells (replyC id n a b c d code 0 0 0 0) 42), blk w4.heap.size (.cells (replyC id n a b c d code 0 0 0 0) 42), blk w3.heap.size (.cells (askC id digA sa sb sc sd 2) 26), blk w1.heap.size (.cells (askC id digA sa sb sc sd 2) 26)] := by
    have := S16.drop 7
    unfold bytesO
    rw [List.length_set]
    exact this
  obtain ⟨W2, hW2⟩ : ∃ W2, W2 = (W.setCell ⟨w12.heap.size, k / 8, none⟩ (.int .u8 y.toNat)).drew := ⟨_, rfl⟩
  rw [← hW2] at S17 ⊢
  have hconv2 := bytesO_conv (cap := grownCap w12 t.size 0 5) (S17.blk_at 0 rfl)
  rw [hlen] at hconv2
  have HS17 := Lib.hid (S17.drop 0)
  clear S16 S17 hset hW2 HS15 hlen hcell hfr hconv
  go_wp2_with fail
  refine (HB.out.gt (k / 8) hjL y HNE.out _).mono ?_
  rintro z w13 ⟨rfl, hb13⟩
  have HS18 := Lib.hid ((HS17.out.grow hb13).alloc (.cells zReply 42))
  clear HS17 hb13 hconv2
  go_wp2_with (first
    | (refine wpList_store_st (cs := zReply) 0 HS18.out rfl rfl 42 (.tmp 31) (.tmp 144) rfl rfl rfl szReply rfl (oneReply _ _ _ _ _ _ _ _ _ _ _) ?_)
    | fail)
  intro w14 S14
  have HS19 : Hid (St empH w none_ empH w14 [blk w13.heap.size (.cells zReply 42), blk w11.heap.size (.cells (replyC id 0 0 0 0 0 ⟨#[]⟩ e f g h) 42), blk w9.heap.size (.cells (replyC id 0 0 0 0 0 ⟨#[]⟩ e f g h) 42), blk w6.heap.size (.cells (replyC id n a b c d code 0 0 0 0) 42), blk w4.heap.size (.cells (replyC id n a b c d code 0 0 0 0) 42), blk w3.heap.size (.cells (askC id digA sa sb sc sd 2) 26), blk w1.heap.size (.cells (askC id digA sa sb sc sd 2) 26)]) := S14
  clear HS18 S14
  go_wp2_with (first
    | (refine wpList_load_gd (cs := askC id digA sa sb sc sd 2) 5 HS19.out rfl 26 (.tmp 15) rfl rfl _ Tryd.underlying26 rfl szAsk rfl ?_)
    | (refine wpList_load_gd (cs := askC id digA sa sb sc sd 2) 6 HS19.out rfl 26 (.tmp 12) rfl rfl _ Tryd.underlying26 rfl szAsk rfl ?_)
    | (refine wpList_load_gd (cs := replyC id n a b c d code 0 0 0 0) 3 HS19.out rfl 42 (.tmp 20) rfl rfl _ Tryd.underlying42 rfl szReply rfl ?_)
    | (refine wpList_load_gd (cs := replyC id n a b c d code 0 0 0 0) 4 HS19.out rfl 42 (.tmp 17) rfl rfl _ Tryd.underlying42 rfl szReply rfl ?_)
    | (refine wpList_load_gd (cs := replyC id 0 0 0 0 0 ⟨#[]⟩ e f g h) 1 HS19.out rfl 42 (.tmp 27) rfl rfl _ Tryd.underlying42 rfl szReply rfl ?_)
    | (refine wpList_load_gd (cs := replyC id 0 0 0 0 0 ⟨#[]⟩ e f g h) 2 HS19.out rfl 42 (.tmp 24) rfl rfl _ Tryd.underlying42 rfl szReply rfl ?_)
    | (refine wpList_bin .eql 26 26 (.tmp 148) (.tmp 149) rfl rfl (.bool true) (eqgAsk _ _ _ _ _) (eqAskB _ _ _ _ _ _ _ _) ?_)
    | (refine wpList_bin .eql 42 42 (.tmp 153) (.tmp 154) rfl rfl (.bool true) (eqgReply _ _ _ _ _) (eqReplyB _ _ _ _ _ _ _ _ _ _ _ _) ?_)
    | (refine wpList_bin .eql 42 42 (.tmp 158) (.tmp 159) rfl rfl (.bool true) (eqgReply _ _ _ _ _) (eqReplyB _ _ _ _ _ _ _ _ _ _ _ _) ?_)
    | fail)
  exact bodyPost_ret (v := .bool true) (by simp [results, Tryd.results5, go_sem]) rfl ⟨rfl, HS19.out.below⟩
theorem back_all (id sa sb sc sd n a b c d : Int) (code : ByteArray) (e f g h bit : Int) (hid : W64 id) (hsa : W64 sa) (hsb : W64 sb) (hsc : W64 sc) (hsd : W64 sd) (hn : W64 n) (ha : W64 a) (hb : W64 b) (hc : W64 c) (hd : W64 d) (hcode : code.size ≤ 140737488355328)
    (he : W64 e) (hf : W64 f) (hg : W64 g) (hh : W64 h) (hbit0 : 0 ≤ bit) (hbit1 : bit < 4294967296) (w : World) :
    Calls Tryd.prog 5 #[.int .u64 id, .agg #[.int .u64 sa, .int .u64 sb, .int .u64 sc, .int .u64 sd], .agg #[.int .u64 n, .int .u64 a, .int .u64 b, .int .u64 c, .int .u64 d, .string code], .agg #[.int .u64 e, .int .u64 f, .int .u64 g, .int .u64 h], .int .u32 bit] w (RetV (.bool true) w) := by
  have hl : (code.extract 0 (min (code.size : Int) 300).toNat).size ≤ 300 := by
    rw [ByteArray.size_extract]
    omega
  obtain ⟨s, t, u, BC⟩ := backCalls (e := e) (f := f) (g := g) (h := h) hid hsa hsb hsc hsd hn ha hb hc hd he hf hg hh hl
  exact back_walk id sa sb sc sd n a b c d code _ e f g h bit hbit0 hbit1 BC rfl hcode w
end Go.Proofs.YtfphlkkhpccpnaaDoor
