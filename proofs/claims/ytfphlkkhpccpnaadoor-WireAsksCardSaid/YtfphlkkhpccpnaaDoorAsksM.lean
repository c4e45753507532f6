/-
  The document's own PutAsk.
  The document's own GetAsk.
  The document's GetAsk and the program's tell the same: plain.
  WireAsks.
-/
import Derived.Test.YtfphlkkhpccpnaaDoorRefA
import Derived.Test.YtfphlkkhpccpnaaDoorGetAsk
import Derived.Test.YtfphlkkhpccpnaaDoorPlRep
import Derived.Test.YtfphlkkhpccpnaaDoorMid
import Derived.Test.YtfphlkkhpccpnaaDoorBackW
namespace Go.Proofs.YtfphlkkhpccpnaaDoor
open Go.RowKit Go.Proofs K
set_option linter.unusedVariables false

theorem szRItemP : (Tryd.prog.info? 84).map (·.size) = some 3 := by kernel_rfl
theorem infoRItemP : (Tryd.prog.info? 84).map (fun i => (i.zero, i.size, i.bytes)) = some (some (.agg #[.bool false, .string ⟨#[]⟩, .slice none 0 0]), 3, 48) := by kernel_rfl
theorem wrapU_bd (n : Int) : W64 (IntKind.u64.wrap n) := by
  unfold W64
  simp [IntKind.wrap, IntKind.bits, IntKind.signed]
  omega
set_option maxRecDepth 100000 in
theorem rnumber_any (n : Int) (h : W64 n) (w : World) : Calls Tryd.prog 38 #[.int .u64 n] w (RetV (.agg #[.bool false, .string (numS n), .slice none 0 0]) w) := by
  obtain ⟨m, rfl⟩ := Int.eq_ofNat_of_zero_le h.1
  have hm : m < 18446744073709551616 := by have := h.2; omega
  have HB := Lib.hid (rbytes_any m hm)
  have HS := Lib.hid ((St.start (ag_emp w)).alloc (.cells #[.bool false, .string ⟨#[]⟩, .slice none 0 0] 84))
  clear h hm
  go_enter Tryd.func38, Tryd.ntmps38
  go_wp2_with fail
  refine (HB.out _).mono ?_
  rintro e w1 ⟨rfl, hb1⟩
  have HS1 := Lib.hid (HS.out.grow hb1)
  clear HS hb1
  go_wp2_with (first
    | (refine wpList_store_st (cs := #[.bool false, .string (numS (m : Int)), .slice none 0 0]) 0 HS1.out rfl rfl 84 (.tmp 2) (.tmp 5) rfl rfl rfl szRItemP rfl (oneItem _ _ _ _ _) ?_)
    | fail)
  intro w4 S4
  go_wp2_with fail
  exact post_cell 0 S4 rfl Tryd.results38 rfl _ Tryd.underlying84 rfl szRItemP rfl ⟨rfl, S4.below⟩
set_option maxRecDepth 100000 in
theorem rtext_any (s : ByteArray) (w : World) : Calls Tryd.prog 39 #[.string s] w (RetV (.agg #[.bool false, .string s, .slice none 0 0]) w) := by
  have HS := Lib.hid ((St.start (ag_emp w)).alloc (.cells #[.bool false, .string ⟨#[]⟩, .slice none 0 0] 84))
  go_enter Tryd.func39, Tryd.ntmps39
  go_wp2_with (first
    | (refine wpList_store_st (cs := #[.bool false, .string s, .slice none 0 0]) 0 HS.out rfl rfl 84 (.tmp 2) (.tmp 4) rfl rfl rfl szRItemP rfl (oneItem _ _ _ _ _) ?_)
    | fail)
  intro w4 S4
  go_wp2_with fail
  exact post_cell 0 S4 rfl Tryd.results39 rfl _ Tryd.underlying84 rfl szRItemP rfl ⟨rfl, S4.below⟩
set_option maxRecDepth 100000 in
set_option maxHeartbeats 2000000 in
theorem rputAsk_kind (id : Int) (addr : ByteArray) (a b c d kind : Int) (h1 : kind ≠ 1) (h2 : kind ≠ 2) (w : World) : Calls Tryd.prog 13 #[.agg (askC id addr a b c d kind)] w (RetV (.tuple #[.string ⟨#[]⟩, .bool false]) w) := by
  have m1 : (kind == 1) = false := beq_eq_false_iff_ne.2 (by omega)
  have m2 : (kind == 2) = false := beq_eq_false_iff_ne.2 (by omega)
  have n1 : (kind != 1) = true := by rw [bne, m1]; rfl
  have n2 : (kind != 2) = true := by rw [bne, m2]; rfl
  obtain ⟨W, hW⟩ : ∃ W, W = w.alloc (.cells (askC id addr a b c d kind) 31) := ⟨_, rfl⟩
  have HS : Hid (St empH w none_ empH W [blk w.heap.size (.cells (askC id addr a b c d kind) 31)]) := by rw [hW]; exact (St.start (ag_emp w)).alloc _
  have f0 : ∀ w', Below W.heap.size W w' → w'.cell? ⟨w.heap.size, 0, none⟩ = some (.int .u64 id) := fun w' h => (HS.out.grow h).cell 0 rfl rfl
  have f1 : ∀ w', Below W.heap.size W w' → w'.cell? ⟨w.heap.size, 1, none⟩ = some (.string addr) := fun w' h => (HS.out.grow h).cell 0 rfl rfl
  have f6 : ∀ w', Below W.heap.size W w' → w'.cell? ⟨w.heap.size, 6, none⟩ = some (.int .i64 kind) := fun w' h => (HS.out.grow h).cell 0 rfl rfl
  have HW := Lib.hid hW
  clear hW
  simp only [askC]
  go_enter Tryd.func13, Tryd.ntmps13
  go_wp2_with fail
  have eW := HW.out
  simp only [askC] at eW
  rw [← eW]
  clear eW
  go_ret2
  exact ⟨rfl, HS.out.below⟩
set_option maxRecDepth 100000 in
set_option maxHeartbeats 2000000 in
theorem rputAsk_size (id : Int) (addr : ByteArray) (a b c d kind : Int) (hk12 : kind = 1 ∨ kind = 2) (h20 : addr.size ≠ 20) (w : World) : Calls Tryd.prog 13 #[.agg (askC id addr a b c d kind)] w (RetV (.tuple #[.string ⟨#[]⟩, .bool false]) w) := by
  rcases hk12 with hk | hk
  · have m1 : (kind == 1) = true := beq_iff_eq.2 hk
    have m2 : (kind == 2) = false := beq_eq_false_iff_ne.2 (by omega)
    have n1 : (kind != 1) = false := by rw [bne, m1]; rfl
    have n2 : (kind != 2) = true := by rw [bne, m2]; rfl
    have e20 : ((addr.size : Int) == 20) = false := by rw [beq_eq_false_iff_ne]; omega
    have e20' : ((addr.size : Int) != 20) = true := by rw [bne, e20]; rfl
    clear hk h20
    obtain ⟨W, hW⟩ : ∃ W, W = w.alloc (.cells (askC id addr a b c d kind) 31) := ⟨_, rfl⟩
    have HS : Hid (St empH w none_ empH W [blk w.heap.size (.cells (askC id addr a b c d kind) 31)]) := by rw [hW]; exact (St.start (ag_emp w)).alloc _
    have f0 : ∀ w', Below W.heap.size W w' → w'.cell? ⟨w.heap.size, 0, none⟩ = some (.int .u64 id) := fun w' h => (HS.out.grow h).cell 0 rfl rfl
    have f1 : ∀ w', Below W.heap.size W w' → w'.cell? ⟨w.heap.size, 1, none⟩ = some (.string addr) := fun w' h => (HS.out.grow h).cell 0 rfl rfl
    have f6 : ∀ w', Below W.heap.size W w' → w'.cell? ⟨w.heap.size, 6, none⟩ = some (.int .i64 kind) := fun w' h => (HS.out.grow h).cell 0 rfl rfl
    have HW := Lib.hid hW
    clear hW
    simp only [askC]
    go_enter Tryd.func13, Tryd.ntmps13
    go_wp2_with fail
    have eW := HW.out
    simp only [askC] at eW
    rw [← eW]
    clear eW
    go_ret2
    exact ⟨rfl, HS.out.below⟩
  · have m1 : (kind == 1) = false := beq_eq_false_iff_ne.2 (by omega)
    have m2 : (kind == 2) = true := beq_iff_eq.2 hk
    have n1 : (kind != 1) = true := by rw [bne, m1]; rfl
    have n2 : (kind != 2) = false := by rw [bne, m2]; rfl
    have e20 : ((addr.size : Int) == 20) = false := by rw [beq_eq_false_iff_ne]; omega
    have e20' : ((addr.size : Int) != 20) = true := by rw [bne, e20]; rfl
    clear hk h20
    obtain ⟨W, hW⟩ : ∃ W, W = w.alloc (.cells (askC id addr a b c d kind) 31) := ⟨_, rfl⟩
    have HS : Hid (St empH w none_ empH W [blk w.heap.size (.cells (askC id addr a b c d kind) 31)]) := by rw [hW]; exact (St.start (ag_emp w)).alloc _
    have f0 : ∀ w', Below W.heap.size W w' → w'.cell? ⟨w.heap.size, 0, none⟩ = some (.int .u64 id) := fun w' h => (HS.out.grow h).cell 0 rfl rfl
    have f1 : ∀ w', Below W.heap.size W w' → w'.cell? ⟨w.heap.size, 1, none⟩ = some (.string addr) := fun w' h => (HS.out.grow h).cell 0 rfl rfl
    have f6 : ∀ w', Below W.heap.size W w' → w'.cell? ⟨w.heap.size, 6, none⟩ = some (.int .i64 kind) := fun w' h => (HS.out.grow h).cell 0 rfl rfl
    have HW := Lib.hid hW
    clear hW
    simp only [askC]
    go_enter Tryd.func13, Tryd.ntmps13
    go_wp2_with fail
    have eW := HW.out
    simp only [askC] at eW
    rw [← eW]
    clear eW
    go_ret2
    exact ⟨rfl, HS.out.below⟩
set_option maxRecDepth 100000 in
set_option maxHeartbeats 2000000 in
theorem rputAsk_slot (id : Int) (addr : ByteArray) (a b c d kind : Int) (hk : kind = 1) (h20 : addr.size = 20) (hz : ¬ (a = 0 ∧ b = 0 ∧ c = 0 ∧ d = 0)) (w : World) : Calls Tryd.prog 13 #[.agg (askC id addr a b c d kind)] w (RetV (.tuple #[.string ⟨#[]⟩, .bool false]) w) := by
  have m1 : (kind == 1) = true := beq_iff_eq.2 hk
  have m2 : (kind == 2) = false := beq_eq_false_iff_ne.2 (by omega)
  have n1 : (kind != 1) = false := by rw [bne, m1]; rfl
  have n2 : (kind != 2) = true := by rw [bne, m2]; rfl
  have e20 : ((addr.size : Int) == 20) = true := by rw [beq_iff_eq]; omega
  have e20' : ((addr.size : Int) != 20) = false := by rw [bne, e20]; rfl
  have HZ := Lib.hid hz
  clear hk h20 hz
  obtain ⟨W, hW⟩ : ∃ W, W = w.alloc (.cells (askC id addr a b c d kind) 31) := ⟨_, rfl⟩
  have HS : Hid (St empH w none_ empH W [blk w.heap.size (.cells (askC id addr a b c d kind) 31)]) := by rw [hW]; exact (St.start (ag_emp w)).alloc _
  have f0 : ∀ w', Below W.heap.size W w' → w'.cell? ⟨w.heap.size, 0, none⟩ = some (.int .u64 id) := fun w' h => (HS.out.grow h).cell 0 rfl rfl
  have f1 : ∀ w', Below W.heap.size W w' → w'.cell? ⟨w.heap.size, 1, none⟩ = some (.string addr) := fun w' h => (HS.out.grow h).cell 0 rfl rfl
  have f6 : ∀ w', Below W.heap.size W w' → w'.cell? ⟨w.heap.size, 6, none⟩ = some (.int .i64 kind) := fun w' h => (HS.out.grow h).cell 0 rfl rfl
  have HW := Lib.hid hW
  clear hW
  simp only [askC]
  go_enter Tryd.func13, Tryd.ntmps13
  go_wp2_with fail
  all_goals first | (refine (HZ.out ⟨?_, ?_, ?_, ?_⟩).elim <;> assumption) | (go_ret2; exact ⟨rfl, (Below.refl _ _).alloc (Nat.le_refl _) _⟩)
set_option maxRecDepth 100000 in
set_option maxHeartbeats 2000000 in
theorem rputAsk_one (id : Int) (addr : ByteArray) (a b c d kind : Int) (hid : W64 id) (hk : kind = 1) (h20 : addr.size = 20) (hz : a = 0 ∧ b = 0 ∧ c = 0 ∧ d = 0) (w : World) : Calls Tryd.prog 13 #[.agg (askC id addr a b c d kind)] w (RetV (.tuple #[.string (putL [numS id, numS (IntKind.u64.wrap 1), addr]), .bool true]) w) := by
  have m1 : (kind == 1) = true := beq_iff_eq.2 hk
  have m2 : (kind == 2) = false := beq_eq_false_iff_ne.2 (by omega)
  have n1 : (kind != 1) = false := by rw [bne, m1]; rfl
  have n2 : (kind != 2) = true := by rw [bne, m2]; rfl
  have e20 : ((addr.size : Int) == 20) = true := by rw [beq_iff_eq]; omega
  have e20' : ((addr.size : Int) != 20) = false := by rw [bne, e20]; rfl
  have HID := Lib.hid hid
  have HK := Lib.hid hk
  have H20 := Lib.hid h20
  obtain ⟨rfl, rfl, rfl, rfl⟩ := hz
  clear hid hk h20
  obtain ⟨W, hW⟩ : ∃ W, W = w.alloc (.cells (askC id addr 0 0 0 0 kind) 31) := ⟨_, rfl⟩
  have HS : Hid (St empH w none_ empH W [blk w.heap.size (.cells (askC id addr 0 0 0 0 kind) 31)]) := by rw [hW]; exact (St.start (ag_emp w)).alloc _
  have f0 : ∀ w', Below W.heap.size W w' → w'.cell? ⟨w.heap.size, 0, none⟩ = some (.int .u64 id) := fun w' h => (HS.out.grow h).cell 0 rfl rfl
  have f1 : ∀ w', Below W.heap.size W w' → w'.cell? ⟨w.heap.size, 1, none⟩ = some (.string addr) := fun w' h => (HS.out.grow h).cell 0 rfl rfl
  have f6 : ∀ w', Below W.heap.size W w' → w'.cell? ⟨w.heap.size, 6, none⟩ = some (.int .i64 kind) := fun w' h => (HS.out.grow h).cell 0 rfl rfl
  have HW := Lib.hid hW
  clear hW
  simp only [askC]
  go_enter Tryd.func13, Tryd.ntmps13
  go_wp2_with fail
  have eW := HW.out
  simp only [askC] at eW
  rw [← eW]
  clear eW
  go_region_held3 (fun w' => Below W.heap.size W w') (repeat (first | assumption | exact Below.refl _ _ | apply Below.drew | (refine Below.alloc ?_ (by first | exact Nat.le_refl _ | exact Below.size (by assumption) | simp) _))) (first
    | (go_at_call 38; refine (retFrom (W := W) ?_ (rnumber_any _ (by first | exact HID.out | exact wrapU_bd _) _)).mono ?_; (first | assumption | exact (Below.refl _ _).drew); rintro e w1 ⟨rfl, hb1⟩)
    | (go_at_call 39; refine (retFrom (W := W) ?_ (rtext_any _ _)).mono ?_; (first | assumption | exact (Below.refl _ _).drew); rintro e w1 ⟨rfl, hb1⟩))
  clear f0 f1 f6
  obtain ⟨w2, hw2⟩ : ∃ w2, w2 = w1.alloc (.cells #[.bool false, .string (numS id), .slice none 0 0, .bool false, .string (numS (IntKind.u64.wrap kind)), .slice none 0 0, .bool false, .string addr, .slice none 0 0] 84) := ⟨_, rfl⟩
  have HS1 : Hid (St empH w none_ empH w2 [own 84 3 (.slice (some ⟨w1.heap.size, 0, none⟩) 3 3) 3 (textsC [numS id, numS (IntKind.u64.wrap kind), addr]), blk w.heap.size (.cells (askC id addr 0 0 0 0 kind) 31)]) := by
    rw [hw2]
    exact (HS.out.grow hb1).madeRow #[.bool false, .string (numS id), .slice none 0 0, .bool false, .string (numS (IntKind.u64.wrap kind)), .slice none 0 0, .bool false, .string addr, .slice none 0 0] rfl (by decide)
  rw [← hw2]
  clear hw2 hb1 HS
  have c1 : w2.cell? ⟨w.heap.size, 1, none⟩ = some (.string addr) := HS1.out.cell 1 rfl rfl
  have c2 : w2.cell? ⟨w.heap.size, 2, none⟩ = some (.int .u64 0) := HS1.out.cell 1 rfl rfl
  have c3 : w2.cell? ⟨w.heap.size, 3, none⟩ = some (.int .u64 0) := HS1.out.cell 1 rfl rfl
  have c4 : w2.cell? ⟨w.heap.size, 4, none⟩ = some (.int .u64 0) := HS1.out.cell 1 rfl rfl
  have c5 : w2.cell? ⟨w.heap.size, 5, none⟩ = some (.int .u64 0) := HS1.out.cell 1 rfl rfl
  have c6 : w2.cell? ⟨w.heap.size, 6, none⟩ = some (.int .i64 kind) := HS1.out.cell 1 rfl rfl
  obtain rfl := HK.out
  clear HK m1 m2 n1 n2
  obtain ⟨H', hle, hrep, S5⟩ := HS1.out.keepOwn 0 rfl (ds := itsD ([numS id, numS (IntKind.u64.wrap 1), addr].map It.text)) (texts_rep empH [numS id, numS (IntKind.u64.wrap 1), addr])
  have HREP : Hid (∀ A cp, RepV H' (.slice A 3 cp) (.sl 3 3 (itsD ([numS id, numS (IntKind.u64.wrap 1), addr].map It.text))) → RepL H' [.bool true, .string ⟨#[]⟩, .slice A 3 cp] (It.list ([numS id, numS (IntKind.u64.wrap 1), addr].map It.text)).d) := Lib.hid fun A cp h => by unfold It.d; exact .cons (.pl rfl) (.cons (.pl rfl) (.cons h .nil))
  have HREP2 := Lib.hid (HREP.out _ _ hrep)
  have HS5 := Lib.hid S5
  clear S5 hrep HREP
  go_wp2_with fail
  refine (renc_ok (.list ([numS id, numS (IntKind.u64.wrap 1), addr].map It.text)) (put_short (by simp)) _ _ _ _ _ HS5.out.ag HREP2.out (put_len (by simp) (ask_small1 H20.out))).mono ?_
  rintro e w6 ⟨rfl, hb6⟩
  have HB := Lib.hid ((HS5.out.grow hb6).below)
  clear HS5 hb6
  go_wp2_with fail
  go_ret2
  exact ⟨rfl, HB.out⟩
set_option maxRecDepth 100000 in
set_option maxHeartbeats 2000000 in
theorem rputAsk_two (id : Int) (addr : ByteArray) (a b c d kind : Int) (hid : W64 id) (ha : W64 a) (hb : W64 b) (hc : W64 c) (hd : W64 d) (hk : kind = 2) (h20 : addr.size = 20) (w : World) : Calls Tryd.prog 13 #[.agg (askC id addr a b c d kind)] w (RetV (.tuple #[.string (putL [numS id, numS (IntKind.u64.wrap 2), addr, wordS a b c d]), .bool true]) w) := by
  have m1 : (kind == 1) = false := beq_eq_false_iff_ne.2 (by omega)
  have m2 : (kind == 2) = true := beq_iff_eq.2 hk
  have n1 : (kind != 1) = true := by rw [bne, m1]; rfl
  have n2 : (kind != 2) = false := by rw [bne, m2]; rfl
  have e20 : ((addr.size : Int) == 20) = true := by rw [beq_iff_eq]; omega
  have e20' : ((addr.size : Int) != 20) = false := by rw [bne, e20]; rfl
  have HID := Lib.hid hid
  have HK := Lib.hid hk
  have H20 := Lib.hid h20
  have HWB := Lib.hid (rwbytes_any a b c d ha hb hc hd)
  clear hid hk h20 ha hb hc hd
  obtain ⟨W, hW⟩ : ∃ W, W = w.alloc (.cells (askC id addr a b c d kind) 31) := ⟨_, rfl⟩
  have HS : Hid (St empH w none_ empH W [blk w.heap.size (.cells (askC id addr a b c d kind) 31)]) := by rw [hW]; exact (St.start (ag_emp w)).alloc _
  have f0 : ∀ w', Below W.heap.size W w' → w'.cell? ⟨w.heap.size, 0, none⟩ = some (.int .u64 id) := fun w' h => (HS.out.grow h).cell 0 rfl rfl
  have f1 : ∀ w', Below W.heap.size W w' → w'.cell? ⟨w.heap.size, 1, none⟩ = some (.string addr) := fun w' h => (HS.out.grow h).cell 0 rfl rfl
  have f6 : ∀ w', Below W.heap.size W w' → w'.cell? ⟨w.heap.size, 6, none⟩ = some (.int .i64 kind) := fun w' h => (HS.out.grow h).cell 0 rfl rfl
  have HW := Lib.hid hW
  clear hW
  simp only [askC]
  go_enter Tryd.func13, Tryd.ntmps13
  go_wp2_with fail
  have eW := HW.out
  simp only [askC] at eW
  rw [← eW]
  clear eW
  go_region_held3 (fun w' => Below W.heap.size W w') (repeat (first | assumption | exact Below.refl _ _ | apply Below.drew | (refine Below.alloc ?_ (by first | exact Nat.le_refl _ | exact Below.size (by assumption) | simp) _))) (first
    | (go_at_call 38; refine (retFrom (W := W) ?_ (rnumber_any _ (by first | exact HID.out | exact wrapU_bd _) _)).mono ?_; (first | assumption | exact (Below.refl _ _).drew); rintro e w1 ⟨rfl, hb1⟩)
    | (go_at_call 39; refine (retFrom (W := W) ?_ (rtext_any _ _)).mono ?_; (first | assumption | exact (Below.refl _ _).drew); rintro e w1 ⟨rfl, hb1⟩))
  clear f0 f1 f6
  obtain ⟨w2, hw2⟩ : ∃ w2, w2 = w1.alloc (.cells #[.bool false, .string (numS id), .slice none 0 0, .bool false, .string (numS (IntKind.u64.wrap kind)), .slice none 0 0, .bool false, .string addr, .slice none 0 0] 84) := ⟨_, rfl⟩
  have HS1 : Hid (St empH w none_ empH w2 [own 84 3 (.slice (some ⟨w1.heap.size, 0, none⟩) 3 3) 3 (textsC [numS id, numS (IntKind.u64.wrap kind), addr]), blk w.heap.size (.cells (askC id addr a b c d kind) 31)]) := by
    rw [hw2]
    exact (HS.out.grow hb1).madeRow #[.bool false, .string (numS id), .slice none 0 0, .bool false, .string (numS (IntKind.u64.wrap kind)), .slice none 0 0, .bool false, .string addr, .slice none 0 0] rfl (by decide)
  rw [← hw2]
  clear hw2 hb1 HS
  have c1 : w2.cell? ⟨w.heap.size, 1, none⟩ = some (.string addr) := HS1.out.cell 1 rfl rfl
  have c2 : w2.cell? ⟨w.heap.size, 2, none⟩ = some (.int .u64 a) := HS1.out.cell 1 rfl rfl
  have c3 : w2.cell? ⟨w.heap.size, 3, none⟩ = some (.int .u64 b) := HS1.out.cell 1 rfl rfl
  have c4 : w2.cell? ⟨w.heap.size, 4, none⟩ = some (.int .u64 c) := HS1.out.cell 1 rfl rfl
  have c5 : w2.cell? ⟨w.heap.size, 5, none⟩ = some (.int .u64 d) := HS1.out.cell 1 rfl rfl
  have c6 : w2.cell? ⟨w.heap.size, 6, none⟩ = some (.int .i64 kind) := HS1.out.cell 1 rfl rfl
  obtain rfl := HK.out
  clear HK m1 m2 n1 n2
  go_wp2_with fail
  refine (HWB.out _).mono ?_
  rintro e w3 ⟨rfl, hb3⟩
  have HS2 := Lib.hid (HS1.out.grow hb3)
  clear hb3 HS1 c1 c2 c3 c4 c5 c6
  go_wp2_with fail
  refine (rtext_any _ _).mono ?_
  rintro e w4 ⟨rfl, hb4⟩
  have HS3 := Lib.hid ((HS2.out.grow hb4).madeRow (e := 84) (size := 3) (n := 1) #[.bool false, .string (wordS a b c d), .slice none 0 0] rfl (by decide))
  clear hb4 HS2
  obtain ⟨i0, hi, hz0, hz1, hz2⟩ := info_parts infoRItemP
  go_wp2_with (first
    | (at_builtin; refine wpList_append_st 1 84 HS3.out rfl rfl _ _ 82 rfl i0 _ 48 Tryd.underlying82 hi hz0 hz1 hz2 rfl (by decide) rfl ⟨w4.heap.size, 0, none⟩ 1 1 [.bool false, .string (wordS a b c d), .slice none 0 0] rfl rfl (fun j u hj => ?_) (oneItemL _ _ _ _ _) (by unfold maxLen; omega) (by omega) ?_)
    | fail)
  · rw [Addr.add_lit, Nat.zero_add]
    have h1 := HS3.out.ownCell 0 rfl j (by have := (List.getElem?_eq_some_iff.1 hj).1; simpa using this)
    exact h1.trans hj
  intro A4 c4 w5 S4
  obtain ⟨H', hle, hrep, S5⟩ := S4.keepOwn 0 rfl (ds := itsD ([numS id, numS (IntKind.u64.wrap 2), addr, wordS a b c d].map It.text)) (texts_rep empH [numS id, numS (IntKind.u64.wrap 2), addr, wordS a b c d])
  have HREP : Hid (∀ A cp, RepV H' (.slice A 4 cp) (.sl 3 4 (itsD ([numS id, numS (IntKind.u64.wrap 2), addr, wordS a b c d].map It.text))) → RepL H' [.bool true, .string ⟨#[]⟩, .slice A 4 cp] (It.list ([numS id, numS (IntKind.u64.wrap 2), addr, wordS a b c d].map It.text)).d) := Lib.hid fun A cp h => by unfold It.d; exact .cons (.pl rfl) (.cons (.pl rfl) (.cons h .nil))
  have HREP2 := Lib.hid (HREP.out _ _ hrep)
  have HS5 := Lib.hid S5
  clear S4 HS3
  clear S5 hrep HREP
  go_wp2_with fail
  refine (renc_ok (.list ([numS id, numS (IntKind.u64.wrap 2), addr, wordS a b c d].map It.text)) (put_short (by simp)) _ _ _ _ _ HS5.out.ag HREP2.out (put_len (by simp) (ask_small H20.out))).mono ?_
  rintro e w6 ⟨rfl, hb6⟩
  have HB := Lib.hid ((HS5.out.grow hb6).below)
  clear HS5 hb6
  go_wp2_with fail
  go_ret2
  exact ⟨rfl, HB.out⟩
theorem rputAsk_all (id : Int) (addr : ByteArray) (a b c d kind : Int) (hid : W64 id) (ha : W64 a) (hb : W64 b) (hc : W64 c) (hd : W64 d) (w : World) : Calls Tryd.prog 13 #[.agg (askC id addr a b c d kind)] w (RetV (.tuple #[.string (putAskR id addr a b c d kind).1, .bool (putAskR id addr a b c d kind).2]) w) := by
  unfold putAskR
  by_cases h20 : addr.size = 20
  · rw [if_neg (fun h => h h20)]
    by_cases h2 : kind = 2
    · rw [if_pos h2]
      exact rputAsk_two id addr a b c d kind hid ha hb hc hd h2 h20 w
    · rw [if_neg h2]
      by_cases h1 : kind = 1
      · by_cases hz : a = 0 ∧ b = 0 ∧ c = 0 ∧ d = 0
        · rw [if_pos ⟨h1, hz⟩]
          exact rputAsk_one id addr a b c d kind hid h1 h20 hz w
        · rw [if_neg (fun h => hz h.2)]
          exact rputAsk_slot id addr a b c d kind h1 h20 hz w
      · rw [if_neg (fun h => h1 h.1)]
        exact rputAsk_kind id addr a b c d kind h1 h2 w
  · rw [if_pos h20]
    by_cases hk : kind = 1 ∨ kind = 2
    · exact rputAsk_size id addr a b c d kind hk h20 w
    · exact rputAsk_kind id addr a b c d kind (fun h => hk (.inl h)) (fun h => hk (.inr h)) w
end Go.Proofs.YtfphlkkhpccpnaaDoor

namespace Go.Proofs.YtfphlkkhpccpnaaDoor
open Go.RowKit Go.Proofs K
set_option linter.unusedVariables false

def itemsOf : It → List It
  | .text _ => []
  | .list l => l
def itS : It → ByteArray
  | .text s => s
  | .list _ => ⟨#[]⟩
def rNum : It → Int
  | .text s => smallR s
  | .list _ => 0
theorem rNum_bd (i : It) : W64 (rNum i) := by
  cases i with
  | text s => exact smallR_bd s
  | list l => exact (⟨by decide, by decide⟩ : W64 0)
theorem it_str {H : Hs} {x y z : Value} {i : It} (h : RepL H [x, y, z] i.d) : y = .string (itS i) := by
  cases i with
  | text s => obtain ⟨_, _, _, h2, _⟩ := text_cells h; exact h2
  | list l => obtain ⟨_, _, _, h2, _⟩ := list_cells h; exact h2
set_option maxRecDepth 100000 in
theorem rsmall_it {H : Hs} {x y z : Value} {i : It} (h : RepL H [x, y, z] i.d) (w : World) : Calls Tryd.prog 45 #[.agg #[x, y, z]] w (fun e w' => ∃ ok, e = .returned (.tuple #[.int .u64 (rNum i), .bool ok]) ∧ Below w.heap.size w w') := by
  cases i with
  | text s =>
    obtain ⟨A, c, rfl, rfl, rfl⟩ := text_cells h
    by_cases hs : s.size ≤ 140737488355328
    · exact (rsmall_text s A 0 c hs w).mono fun e w' h => ⟨_, h.1, h.2⟩
    · have l8 : ((s.size : Int) > 8) = True := eq_true (by omega)
      have HR : Hid (rNum (.text s) = 0) := Lib.hid (by
        have : smallOk s = false := by unfold smallOk; rw [decide_eq_false (by omega)]; rfl
        show smallR s = 0
        unfold smallR; rw [this]; rfl)
      clear hs
      go_enter Tryd.func45, Tryd.ntmps45
      go_wp2_with fail
      go_ret2
      exact ⟨false, by rw [HR.out]; rfl, (Below.refl _ _).alloc (Nat.le_refl _) _⟩
  | list l =>
    obtain ⟨A, c, rfl, rfl, rfl, _⟩ := list_cells h
    exact (rsmall_list _ A _ c w).mono fun e w' h => ⟨_, h.1, h.2⟩
/-- The slot that a text is: 0, if it is too long. -/
def ofW (s : ByteArray) (i : Nat) : Int := if s.size ≤ 32 then ofL s s.size i else 0
theorem rof_all (s : ByteArray) (w : World) : Calls Tryd.prog 46 #[.string s] w (fun e w' => ∃ ok, e = .returned (.tuple #[.agg #[.int .u64 (ofW s 3), .int .u64 (ofW s 2), .int .u64 (ofW s 1), .int .u64 (ofW s 0)], .bool ok]) ∧ Below w.heap.size w w') := by
  unfold ofW
  by_cases hs : s.size ≤ 32
  · simp only [if_pos hs]
    exact (rof_any s hs w).mono fun e w' h => ⟨_, h.1, h.2⟩
  · simp only [if_neg hs]
    exact (rof_no s (by omega) w).mono fun e w' h => ⟨_, h.1, h.2⟩
def kindR (n : Int) : Int := if n = 1 ∨ n = 2 then n else 0
def slotR (k : List It) (i : Nat) : Int := match k[3]? with | some x => ofW (itS x) i | none => 0
theorem ofL_bd (s : ByteArray) : ∀ (k i : Nat), W64 (ofL s k i)
  | 0, i => ⟨by simp [ofL], by simp [ofL]⟩
  | k + 1, i => by
    unfold ofL
    split
    · have h2 := bits_lo_u64 BinOp.or (ofL s k i) (IntKind.u64.wrap (IntKind.u64.wrap (lowB s k) * 2 ^ (k % 8 * 8)))
      have h3 := bits_hi_u64 BinOp.or (ofL s k i) (IntKind.u64.wrap (IntKind.u64.wrap (lowB s k) * 2 ^ (k % 8 * 8)))
      unfold W64
      omega
    · exact ofL_bd s k i
theorem slotR_bd (k : List It) (j : Nat) : W64 (slotR k j) := by
  unfold slotR
  split
  · unfold ofW
    split
    · exact ofL_bd _ _ _
    · exact ⟨by decide, by decide⟩
  · exact ⟨by decide, by decide⟩
/-- The ask that the document forms of a list's items. -/
def askRef (k : List It) (i0 i1 i2 : It) : Int × ByteArray × Int × Int × Int × Int × Int := (rNum i0, itS i2, slotR k 3, slotR k 2, slotR k 1, slotR k 0, kindR (rNum i1))
inductive RGetD (l : List UInt8) : Option (Array Value) → Prop
  | bad (h : DecR l none) : RGetD l none
  | few {i : It} (h : DecR l (some i)) (h3 : (itemsOf i).length < 3) : RGetD l none
  | other {i i0 i1 i2 : It} (h : DecR l (some i)) (h0 : (itemsOf i)[0]? = some i0) (h1 : (itemsOf i)[1]? = some i1) (h2 : (itemsOf i)[2]? = some i2)
      (hn : putAskR (rNum i0) (itS i2) (slotR (itemsOf i) 3) (slotR (itemsOf i) 2) (slotR (itemsOf i) 1) (slotR (itemsOf i) 0) (kindR (rNum i1)) ≠ (bs l, true)) : RGetD l none
  | good {i i0 i1 i2 : It} (h : DecR l (some i)) (h0 : (itemsOf i)[0]? = some i0) (h1 : (itemsOf i)[1]? = some i1) (h2 : (itemsOf i)[2]? = some i2)
      (hn : putAskR (rNum i0) (itS i2) (slotR (itemsOf i) 3) (slotR (itemsOf i) 2) (slotR (itemsOf i) 1) (slotR (itemsOf i) 0) (kindR (rNum i1)) = (bs l, true)) :
      RGetD l (some (askC (rNum i0) (itS i2) (slotR (itemsOf i) 3) (slotR (itemsOf i) 2) (slotR (itemsOf i) 1) (slotR (itemsOf i) 0) (kindR (rNum i1))))
def RGetQ (l : List UInt8) (w : World) (e : Ending) (w' : World) : Prop := ∃ o, RGetD l o ∧ e = .returned (.tuple #[.agg (o.getD zAsk), .bool o.isSome]) ∧ Below w.heap.size w w'
theorem szRAsk : (Tryd.prog.info? 31).map (·.size) = some 7 := by kernel_rfl
theorem list_of {H : Hs} {p : Bool} {s : ByteArray} {A : Option Addr} {n c : Nat} {i : It} (h : RepL H [.bool p, .string s, .slice A n c] i.d) : n = (itemsOf i).length ∧ RepV H (.slice A n c) (.sl 3 (itemsOf i).length (itsD (itemsOf i))) := by
  have key : ∀ (d1 d2 d3 : D), RepL H [.bool p, .string s, .slice A n c] [d1, d2, d3] → RepV H (.slice A n c) d3 := fun d1 d2 d3 h => by
    obtain ⟨_, _, e1, _, t1⟩ := h.cons_inv
    cases e1
    obtain ⟨_, _, e2, _, t2⟩ := t1.cons_inv
    cases e2
    obtain ⟨_, _, e3, h3, _⟩ := t2.cons_inv
    cases e3
    exact h3
  cases i with
  | text s =>
    unfold It.d at h
    have h3 := key _ _ _ h
    obtain ⟨_, _, _, e, _⟩ := h3.sl_inv
    cases e
    exact ⟨rfl, by unfold itemsOf itsD; exact h3⟩
  | list l =>
    unfold It.d at h
    have h3 := key _ _ _ h
    obtain ⟨_, _, _, e, _⟩ := h3.sl_inv
    cases e
    exact ⟨rfl, h3⟩
theorem Row.cellAt {H : Hs} {w : World} {b o : Nat} {cs : List Value} (h : Row H (some ⟨b, o, none⟩) cs) (hw : Ag H w) {j : Nat} {u : Value} (hu : cs[j]? = some u) : w.cell? ⟨b, o + j, none⟩ = some u := by
  obtain ⟨b', o', e, h⟩ := h.cell hw hu
  cases e
  exact h
set_option maxRecDepth 100000 in
set_option maxHeartbeats 4000000 in
theorem rgetAsk_any (l : List UInt8) (w : World) : Calls Tryd.prog 16 #[.string (bs l)] w (RGetQ l w) := by
  have HS := Lib.hid ((St.start (ag_emp w)).alloc (.cells zAsk 31))
  have HD := Lib.hid (rdecode_any l HS.out.ag)
  go_enter Tryd.func16, Tryd.ntmps16
  go_wp2_with fail
  refine HD.out.mono ?_
  rintro e w1 (⟨i, x, y, z, H1, hR, rfl, hrep, S1⟩ | ⟨n, hR, hn, rfl, S1⟩)
  · obtain ⟨p1, s1, A, n, c, rfl, rfl, rfl⟩ := it_cells hrep
    obtain ⟨hn, hV⟩ := list_of hrep
    obtain ⟨k, hk⟩ : ∃ k, k = itemsOf i := ⟨_, rfl⟩
    rw [← hk] at hn hV
    subst hn
    have HS2 := Lib.hid ((HS.out.more S1).alloc (.cells #[.bool p1, .string s1, .slice A k.length c] 84))
    have HR := Lib.hid hR
    have HK := Lib.hid hk
    by_cases h3 : k.length < 3
    · have hlt : ((k.length : Int) < 3) = True := eq_true (by omega)
      have HF := Lib.hid h3
      clear hR hrep hV S1 HS hk h3
      go_wp2_with (first
        | (refine wpList_store_st (cs := zAsk) 1 HS2.out rfl rfl 31 (.tmp 2) (.tmp 24) rfl rfl rfl szRAsk rfl (oneAsk _ _ _ _ _ _ _) ?_)
        | fail)
      intro w4 S4
      go_wp2_with fail
      exact post_cell2 0 S4 rfl Tryd.results16 rfl _ Tryd.underlying31 rfl szRAsk rfl ⟨none, .few HR.out (by rw [← HK.out]; exact HF.out), rfl, S4.below⟩
    · have hlt : ¬ ((k.length : Int) < 3) := by omega
      have hlt0 : (0 : Int) < (k.length : Int) := by omega
      have hd3 : decide ((k.length : Int) < 3) = false := decide_eq_false (by omega)
      have hlt1 : (1 : Int) < (k.length : Int) := by omega
      have hlt2 : (2 : Int) < (k.length : Int) := by omega
      obtain ⟨A', c', cs, he, hnc, hA, hlen, hrow, hrd⟩ := hV.sl_inv
      cases he
      obtain ⟨x0, y0, z0, hx0, hy0, hz0, hr0⟩ := its_at hrd (show 0 < k.length by omega)
      obtain ⟨x1, y1, z1, hx1, hy1, hz1, hr1⟩ := its_at hrd (show 1 < k.length by omega)
      obtain ⟨x2, y2, z2, hx2, hy2, hz2, hr2⟩ := its_at hrd (show 2 < k.length by omega)
      obtain ⟨i0, hi0⟩ : ∃ i0, i0 = k[0] := ⟨_, rfl⟩
      obtain ⟨i1, hi1⟩ : ∃ i1, i1 = k[1] := ⟨_, rfl⟩
      obtain ⟨i2, hi2⟩ : ∃ i2, i2 = k[2] := ⟨_, rfl⟩
      rw [← hi0] at hr0
      rw [← hi1] at hr1
      rw [← hi2] at hr2
      have hy2' := it_str hr2
      obtain ⟨q0, t0, A0, n0, c0, rfl, rfl, rfl⟩ := it_cells hr0
      obtain ⟨q1, t1, A1, n1, c1, rfl, rfl, rfl⟩ := it_cells hr1
      obtain ⟨b0, o, rfl, _⟩ := hrow.cell HS2.out.ag hx0
      have HI0 : Hid ((itemsOf i)[0]? = some i0) := Lib.hid (by rw [← hk, hi0]; exact List.getElem?_eq_getElem _)
      have HI1 : Hid ((itemsOf i)[1]? = some i1) := Lib.hid (by rw [← hk, hi1]; exact List.getElem?_eq_getElem _)
      have HI2 : Hid ((itemsOf i)[2]? = some i2) := Lib.hid (by rw [← hk, hi2]; exact List.getElem?_eq_getElem _)
      have HC : Hid (∀ wx, Ag H1 wx → wx.cell? ⟨b0, o, none⟩ = some (.bool q0) ∧ wx.cell? ⟨b0, o + 1, none⟩ = some (.string t0) ∧ wx.cell? ⟨b0, o + 2, none⟩ = some (.slice A0 n0 c0) ∧
          wx.cell? ⟨b0, o + 3, none⟩ = some (.bool q1) ∧ wx.cell? ⟨b0, o + 3 + 1, none⟩ = some (.string t1) ∧ wx.cell? ⟨b0, o + 3 + 2, none⟩ = some (.slice A1 n1 c1) ∧ wx.cell? ⟨b0, o + 6 + 1, none⟩ = some (.string (itS i2))) := Lib.hid fun wx hwx =>
        ⟨Row.cellAt hrow hwx hx0, Row.cellAt hrow hwx hy0, Row.cellAt hrow hwx hz0, Row.cellAt hrow hwx hx1, Row.cellAt hrow hwx hy1, Row.cellAt hrow hwx hz1, hy2' ▸ Row.cellAt hrow hwx hy2⟩
      have H3 : Hid (∀ x, k[3]? = some x → ∀ wx, Ag H1 wx → wx.cell? ⟨b0, o + 9 + 1, none⟩ = some (.string (itS x))) := Lib.hid fun x hx wx hwx => by
        obtain ⟨h4, rfl⟩ := List.getElem?_eq_some_iff.1 hx
        obtain ⟨x3, y3, z3, hx3, hy3, hz3, hr3⟩ := its_at hrd h4
        rw [it_str hr3] at hy3
        exact Row.cellAt hrow hwx hy3
      have HSM0 := Lib.hid (rsmall_it hr0)
      have HSM1 := Lib.hid (rsmall_it hr1)
      have HS3 := Lib.hid (HS2.out.alloc' (.cells #[.int .u64 0, .string (itS i2), .int .u64 0, .int .u64 0, .int .u64 0, .int .u64 0, .int .i64 0] 31) (w1.heap.size + 1) (by simp))
      obtain ⟨_, _, _, _, _, _, e26⟩ := HC.out _ HS2.out.ag
      obtain ⟨e30, e31, e32, _, _, _, _⟩ := HC.out _ HS3.out.ag
      clear hR hrep hV S1 HS hk h3 hrow hrd hx0 hy0 hz0 hx1 hy1 hz1 hx2 hy2 hz2 hr0 hr1 hr2 hi0 hi1 hi2 hy2' hlen hA hnc
      go_wp2_with fail
      refine (HSM0.out _).mono ?_
      rintro e w2 ⟨ok0, rfl, hb2⟩
      have S4 := HS3.out.grow hb2
      have d0 : w2.cell? ⟨w1.heap.size + 1, 0, none⟩ = some (.int .u64 0) := S4.cell 0 rfl rfl
      have g0 : w2.frozen? ⟨w1.heap.size + 1, 0, none⟩ = false := S4.frozen 0 rfl 0
      have HS5 : Hid (St empH w none_ H1 (w2.setCell ⟨w1.heap.size + 1, 0, none⟩ (.int .u64 (rNum i0))) [blk (w1.heap.size + 1) (.cells (askC (rNum i0) (itS i2) 0 0 0 0 0) 31), blk w1.heap.size (.cells #[.bool p1, .string s1, .slice (some ⟨b0, o, none⟩) k.length c] 84), blk w.heap.size (.cells zAsk 31)]) := S4.setCell (j := 0) 0 rfl (.int .u64 (rNum i0))
      have h52 : (w2.setCell ⟨w1.heap.size + 1, 0, none⟩ (.int .u64 (rNum i0))).cell? ⟨w1.heap.size, 2, none⟩ = some (.slice (some ⟨b0, o, none⟩) k.length c) := HS5.out.cell 1 rfl rfl
      obtain ⟨_, _, _, e53, e54, e55, _⟩ := HC.out _ HS5.out.ag
      clear S4 HS3 HS2 hb2 e26 e30 e31 e32
      go_wp2_with fail
      refine (HSM1.out _).mono ?_
      rintro e w3 ⟨ok1, rfl, hb3⟩
      have HS6 : Hid (St empH w none_ H1 w3 [blk (w1.heap.size + 1) (.cells (askC (rNum i0) (itS i2) 0 0 0 0 0) 31), blk w1.heap.size (.cells #[.bool p1, .string s1, .slice (some ⟨b0, o, none⟩) k.length c] 84), blk w.heap.size (.cells zAsk 31)]) := HS5.out.grow hb3
      clear HS5 hb3 d0 g0 h52 e53 e54 e55
      obtain ⟨WW, HWW⟩ : ∃ WW, Hid (WW = if rNum i1 = 1 ∨ rNum i1 = 2 then w3.setCell ⟨w1.heap.size + 1, 6, none⟩ (.int .i64 (rNum i1)) else w3) := ⟨_, rfl⟩
      have HS7 : Hid (St empH w none_ H1 WW [blk (w1.heap.size + 1) (.cells (askC (rNum i0) (itS i2) 0 0 0 0 (kindR (rNum i1))) 31), blk w1.heap.size (.cells #[.bool p1, .string s1, .slice (some ⟨b0, o, none⟩) k.length c] 84), blk w.heap.size (.cells zAsk 31)]) := Lib.hid (by
        have hw := HWW.out
        unfold kindR
        by_cases h12 : rNum i1 = 1 ∨ rNum i1 = 2
        · rw [if_pos h12] at hw ⊢
          rw [hw]
          exact HS6.out.setCell (j := 6) 0 rfl (.int .i64 (rNum i1))
        · rw [if_neg h12] at hw ⊢
          rw [hw]
          exact HS6.out)
      have hbdN := rNum_bd i1
      have d6 : w3.cell? ⟨w1.heap.size + 1, 6, none⟩ = some (.int .i64 0) := HS6.out.cell 0 rfl rfl
      have g6 : w3.frozen? ⟨w1.heap.size + 1, 6, none⟩ = false := HS6.out.frozen 0 rfl 6
      have h72 : WW.cell? ⟨w1.heap.size, 2, none⟩ = some (.slice (some ⟨b0, o, none⟩) k.length c) := HS7.out.cell 1 rfl rfl
      have HPA := Lib.hid (rputAsk_all (rNum i0) (itS i2) (slotR k 3) (slotR k 2) (slotR k 1) (slotR k 0) (kindR (rNum i1)) (rNum_bd i0) (slotR_bd k 3) (slotR_bd k 2) (slotR_bd k 1) (slotR_bd k 0))
      obtain ⟨t, ok, ht⟩ : ∃ t ok, putAskR (rNum i0) (itS i2) (slotR k 3) (slotR k 2) (slotR k 1) (slotR k 0) (kindR (rNum i1)) = (t, ok) := ⟨_, _, rfl⟩
      rw [ht] at HPA
      have HNO : Hid ((t, ok) ≠ (bs l, true) → RGetD l none) := Lib.hid fun h => .other HR.out HI0.out HI1.out HI2.out (by rw [← HK.out, ht]; exact h)
      have HYES : Hid ((t, ok) = (bs l, true) → RGetD l (some (askC (rNum i0) (itS i2) (slotR k 3) (slotR k 2) (slotR k 1) (slotR k 0) (kindR (rNum i1))))) := Lib.hid fun h => by
        have := RGetD.good HR.out HI0.out HI1.out HI2.out (by rw [← HK.out, ht]; exact h)
        rw [← HK.out] at this
        exact this
      clear ht
      by_cases hk1 : rNum i1 = 1
      · have hWW : w3.setCell ⟨w1.heap.size + 1, 6, none⟩ (.int .i64 (rNum i1)) = WW := by rw [HWW.out, if_pos (.inl hk1)]
        have m1 : (rNum i1 == 1) = true := beq_iff_eq.2 hk1
        have hw64 : wrap64 (rNum i1) = rNum i1 := by unfold wrap64; omega
        clear hk1
        by_cases h4 : 3 < k.length
        · have hlt3 : (3 : Int) < (k.length : Int) := by omega
          have e10 := H3.out k[3] (List.getElem?_eq_getElem h4) _ HS7.out.ag
          have hsl : ∀ j, slotR k j = ofW (itS k[3]) j := fun j => by unfold slotR; rw [List.getElem?_eq_getElem h4]
          obtain ⟨x3, hx3⟩ : ∃ x3, x3 = itS k[3] := ⟨_, rfl⟩
          rw [← hx3] at e10 hsl
          have hs3 := hsl 3
          have hs2 := hsl 2
          have hs1 := hsl 1
          have hs0 := hsl 0
          have HHS := Lib.hid (And.intro hs3 (And.intro hs2 (And.intro hs1 hs0)))
          clear h4 hsl hx3 hs3 hs2 hs1 hs0
          go_wp2_with fail
          refine (rof_all _ _).mono ?_
          rintro e w4 ⟨ok3, rfl, hb4⟩
          have HS8 := Lib.hid (HS7.out.grow hb4)
          clear hb4 HS7 h72 e10 d6 g6
          go_wp2_with (first
            | (refine wpList_mid_st (cs := #[.int .u64 (ofW x3 3), .int .u64 (ofW x3 2), .int .u64 (ofW x3 1), .int .u64 (ofW x3 0)]) (old := askC (rNum i0) (itS i2) 0 0 0 0 (kindR (rNum i1))) 0 HS8.out rfl rfl 24 (.tmp 70) (.tmp 68) rfl 2 rfl rfl szWord (by show (2 + 4 : Nat) ≤ 7; omega) (oneW _ _ _ _) ?_)
            | fail)
          intro w5 S5
          obtain ⟨hs3, hs2, hs1, hs0⟩ := HHS.out
          have HS9 : Hid (St empH w none_ H1 w5 [blk (w1.heap.size + 1) (.cells (askC (rNum i0) (itS i2) (slotR k 3) (slotR k 2) (slotR k 1) (slotR k 0) (kindR (rNum i1))) 31), blk w1.heap.size (.cells #[.bool p1, .string s1, .slice (some ⟨b0, o, none⟩) k.length c] 84), blk w.heap.size (.cells zAsk 31)]) := Lib.hid (by
            rw [hs3, hs2, hs1, hs0]
            exact S5)
          clear HS8 S5 hs3 hs2 hs1 hs0
          go_wp2_with (first
            | (refine wpList_load_st (cs := askC (rNum i0) (itS i2) (slotR k 3) (slotR k 2) (slotR k 1) (slotR k 0) (kindR (rNum i1))) 0 HS9.out rfl rfl 31 (.tmp 6) rfl rfl _ Tryd.underlying31 rfl szRAsk ?_)
            | fail)
          refine (HPA.out _).mono ?_
          rintro e w6 ⟨rfl, hb6⟩
          have HS10 := Lib.hid (HS9.out.grow hb6)
          clear HS9 hb6
          cases ok with
          | false =>
            go_wp2_with (first
              | (refine wpList_store_st (cs := zAsk) 2 HS10.out rfl rfl 31 (.tmp 2) (.tmp 83) rfl rfl rfl szRAsk rfl (oneAsk _ _ _ _ _ _ _) ?_)
              | fail)
            intro w7 S7
            go_wp2_with fail
            exact post_cell2 0 S7 rfl Tryd.results16 rfl _ Tryd.underlying31 rfl szRAsk rfl ⟨none, HNO.out (by simp), rfl, S7.below⟩
          | true =>
            by_cases he : t = bs l
            · have e1 := eq_list he
              have HE := Lib.hid he
              clear he
              go_wp2_with (first
                | (refine wpList_load_st (cs := askC (rNum i0) (itS i2) (slotR k 3) (slotR k 2) (slotR k 1) (slotR k 0) (kindR (rNum i1))) 0 HS10.out rfl rfl 31 (.tmp 6) rfl rfl _ Tryd.underlying31 rfl szRAsk ?_)
                | (refine wpList_store_st (cs := askC (rNum i0) (itS i2) (slotR k 3) (slotR k 2) (slotR k 1) (slotR k 0) (kindR (rNum i1))) 2 HS10.out rfl rfl 31 (.tmp 2) (.tmp 84) rfl rfl rfl szRAsk rfl (oneAsk _ _ _ _ _ _ _) ?_)
                | fail)
              intro w7 S7
              go_wp2_with fail
              exact post_cell2 0 S7 rfl Tryd.results16 rfl _ Tryd.underlying31 rfl szRAsk rfl ⟨_, HYES.out (by rw [HE.out]), rfl, S7.below⟩
            · have e1 := neq_list he
              have HE := Lib.hid he
              clear he
              go_wp2_with (first
                | (refine wpList_store_st (cs := zAsk) 2 HS10.out rfl rfl 31 (.tmp 2) (.tmp 83) rfl rfl rfl szRAsk rfl (oneAsk _ _ _ _ _ _ _) ?_)
                | fail)
              intro w7 S7
              go_wp2_with fail
              exact post_cell2 0 S7 rfl Tryd.results16 rfl _ Tryd.underlying31 rfl szRAsk rfl ⟨none, HNO.out (fun h => HE.out (Prod.mk.inj h).1), rfl, S7.below⟩
        · have hlt3 : ¬ (3 : Int) < (k.length : Int) := by omega
          have hsl : ∀ j, slotR k j = 0 := fun j => by unfold slotR; rw [List.getElem?_eq_none (by omega)]
          have hs3 := hsl 3
          have hs2 := hsl 2
          have hs1 := hsl 1
          have hs0 := hsl 0
          clear h4 hsl
          have HS9 : Hid (St empH w none_ H1 WW [blk (w1.heap.size + 1) (.cells (askC (rNum i0) (itS i2) (slotR k 3) (slotR k 2) (slotR k 1) (slotR k 0) (kindR (rNum i1))) 31), blk w1.heap.size (.cells #[.bool p1, .string s1, .slice (some ⟨b0, o, none⟩) k.length c] 84), blk w.heap.size (.cells zAsk 31)]) := Lib.hid (by
            rw [hs3, hs2, hs1, hs0]
            exact HS7.out)
          clear hs3 hs2 hs1 hs0
          go_wp2_with (first
            | (refine wpList_load_st (cs := askC (rNum i0) (itS i2) (slotR k 3) (slotR k 2) (slotR k 1) (slotR k 0) (kindR (rNum i1))) 0 HS9.out rfl rfl 31 (.tmp 6) rfl rfl _ Tryd.underlying31 rfl szRAsk ?_)
            | fail)
          refine (HPA.out _).mono ?_
          rintro e w6 ⟨rfl, hb6⟩
          have HS10 := Lib.hid (HS9.out.grow hb6)
          clear HS9 hb6
          cases ok with
          | false =>
            go_wp2_with (first
              | (refine wpList_store_st (cs := zAsk) 2 HS10.out rfl rfl 31 (.tmp 2) (.tmp 83) rfl rfl rfl szRAsk rfl (oneAsk _ _ _ _ _ _ _) ?_)
              | fail)
            intro w7 S7
            go_wp2_with fail
            exact post_cell2 0 S7 rfl Tryd.results16 rfl _ Tryd.underlying31 rfl szRAsk rfl ⟨none, HNO.out (by simp), rfl, S7.below⟩
          | true =>
            by_cases he : t = bs l
            · have e1 := eq_list he
              have HE := Lib.hid he
              clear he
              go_wp2_with (first
                | (refine wpList_load_st (cs := askC (rNum i0) (itS i2) (slotR k 3) (slotR k 2) (slotR k 1) (slotR k 0) (kindR (rNum i1))) 0 HS10.out rfl rfl 31 (.tmp 6) rfl rfl _ Tryd.underlying31 rfl szRAsk ?_)
                | (refine wpList_store_st (cs := askC (rNum i0) (itS i2) (slotR k 3) (slotR k 2) (slotR k 1) (slotR k 0) (kindR (rNum i1))) 2 HS10.out rfl rfl 31 (.tmp 2) (.tmp 84) rfl rfl rfl szRAsk rfl (oneAsk _ _ _ _ _ _ _) ?_)
                | fail)
              intro w7 S7
              go_wp2_with fail
              exact post_cell2 0 S7 rfl Tryd.results16 rfl _ Tryd.underlying31 rfl szRAsk rfl ⟨_, HYES.out (by rw [HE.out]), rfl, S7.below⟩
            · have e1 := neq_list he
              have HE := Lib.hid he
              clear he
              go_wp2_with (first
                | (refine wpList_store_st (cs := zAsk) 2 HS10.out rfl rfl 31 (.tmp 2) (.tmp 83) rfl rfl rfl szRAsk rfl (oneAsk _ _ _ _ _ _ _) ?_)
                | fail)
              intro w7 S7
              go_wp2_with fail
              exact post_cell2 0 S7 rfl Tryd.results16 rfl _ Tryd.underlying31 rfl szRAsk rfl ⟨none, HNO.out (fun h => HE.out (Prod.mk.inj h).1), rfl, S7.below⟩
      · by_cases hk2 : rNum i1 = 2
        · have hWW : w3.setCell ⟨w1.heap.size + 1, 6, none⟩ (.int .i64 (rNum i1)) = WW := by rw [HWW.out, if_pos (.inr hk2)]
          have m1 : (rNum i1 == 1) = false := beq_eq_false_iff_ne.2 hk1
          have m2 : (rNum i1 == 2) = true := beq_iff_eq.2 hk2
          have hw64 : wrap64 (rNum i1) = rNum i1 := by unfold wrap64; omega
          clear hk1 hk2
          by_cases h4 : 3 < k.length
          · have hlt3 : (3 : Int) < (k.length : Int) := by omega
            have e10 := H3.out k[3] (List.getElem?_eq_getElem h4) _ HS7.out.ag
            have hsl : ∀ j, slotR k j = ofW (itS k[3]) j := fun j => by unfold slotR; rw [List.getElem?_eq_getElem h4]
            obtain ⟨x3, hx3⟩ : ∃ x3, x3 = itS k[3] := ⟨_, rfl⟩
            rw [← hx3] at e10 hsl
            have hs3 := hsl 3
            have hs2 := hsl 2
            have hs1 := hsl 1
            have hs0 := hsl 0
            have HHS := Lib.hid (And.intro hs3 (And.intro hs2 (And.intro hs1 hs0)))
            clear h4 hsl hx3 hs3 hs2 hs1 hs0
            go_wp2_with fail
            refine (rof_all _ _).mono ?_
            rintro e w4 ⟨ok3, rfl, hb4⟩
            have HS8 := Lib.hid (HS7.out.grow hb4)
            clear hb4 HS7 h72 e10 d6 g6
            go_wp2_with (first
              | (refine wpList_mid_st (cs := #[.int .u64 (ofW x3 3), .int .u64 (ofW x3 2), .int .u64 (ofW x3 1), .int .u64 (ofW x3 0)]) (old := askC (rNum i0) (itS i2) 0 0 0 0 (kindR (rNum i1))) 0 HS8.out rfl rfl 24 (.tmp 70) (.tmp 68) rfl 2 rfl rfl szWord (by show (2 + 4 : Nat) ≤ 7; omega) (oneW _ _ _ _) ?_)
              | fail)
            intro w5 S5
            obtain ⟨hs3, hs2, hs1, hs0⟩ := HHS.out
            have HS9 : Hid (St empH w none_ H1 w5 [blk (w1.heap.size + 1) (.cells (askC (rNum i0) (itS i2) (slotR k 3) (slotR k 2) (slotR k 1) (slotR k 0) (kindR (rNum i1))) 31), blk w1.heap.size (.cells #[.bool p1, .string s1, .slice (some ⟨b0, o, none⟩) k.length c] 84), blk w.heap.size (.cells zAsk 31)]) := Lib.hid (by
              rw [hs3, hs2, hs1, hs0]
              exact S5)
            clear HS8 S5 hs3 hs2 hs1 hs0
            go_wp2_with (first
              | (refine wpList_load_st (cs := askC (rNum i0) (itS i2) (slotR k 3) (slotR k 2) (slotR k 1) (slotR k 0) (kindR (rNum i1))) 0 HS9.out rfl rfl 31 (.tmp 6) rfl rfl _ Tryd.underlying31 rfl szRAsk ?_)
              | fail)
            refine (HPA.out _).mono ?_
            rintro e w6 ⟨rfl, hb6⟩
            have HS10 := Lib.hid (HS9.out.grow hb6)
            clear HS9 hb6
            cases ok with
            | false =>
              go_wp2_with (first
                | (refine wpList_store_st (cs := zAsk) 2 HS10.out rfl rfl 31 (.tmp 2) (.tmp 83) rfl rfl rfl szRAsk rfl (oneAsk _ _ _ _ _ _ _) ?_)
                | fail)
              intro w7 S7
              go_wp2_with fail
              exact post_cell2 0 S7 rfl Tryd.results16 rfl _ Tryd.underlying31 rfl szRAsk rfl ⟨none, HNO.out (by simp), rfl, S7.below⟩
            | true =>
              by_cases he : t = bs l
              · have e1 := eq_list he
                have HE := Lib.hid he
                clear he
                go_wp2_with (first
                  | (refine wpList_load_st (cs := askC (rNum i0) (itS i2) (slotR k 3) (slotR k 2) (slotR k 1) (slotR k 0) (kindR (rNum i1))) 0 HS10.out rfl rfl 31 (.tmp 6) rfl rfl _ Tryd.underlying31 rfl szRAsk ?_)
                  | (refine wpList_store_st (cs := askC (rNum i0) (itS i2) (slotR k 3) (slotR k 2) (slotR k 1) (slotR k 0) (kindR (rNum i1))) 2 HS10.out rfl rfl 31 (.tmp 2) (.tmp 84) rfl rfl rfl szRAsk rfl (oneAsk _ _ _ _ _ _ _) ?_)
                  | fail)
                intro w7 S7
                go_wp2_with fail
                exact post_cell2 0 S7 rfl Tryd.results16 rfl _ Tryd.underlying31 rfl szRAsk rfl ⟨_, HYES.out (by rw [HE.out]), rfl, S7.below⟩
              · have e1 := neq_list he
                have HE := Lib.hid he
                clear he
                go_wp2_with (first
                  | (refine wpList_store_st (cs := zAsk) 2 HS10.out rfl rfl 31 (.tmp 2) (.tmp 83) rfl rfl rfl szRAsk rfl (oneAsk _ _ _ _ _ _ _) ?_)
                  | fail)
                intro w7 S7
                go_wp2_with fail
                exact post_cell2 0 S7 rfl Tryd.results16 rfl _ Tryd.underlying31 rfl szRAsk rfl ⟨none, HNO.out (fun h => HE.out (Prod.mk.inj h).1), rfl, S7.below⟩
          · have hlt3 : ¬ (3 : Int) < (k.length : Int) := by omega
            have hsl : ∀ j, slotR k j = 0 := fun j => by unfold slotR; rw [List.getElem?_eq_none (by omega)]
            have hs3 := hsl 3
            have hs2 := hsl 2
            have hs1 := hsl 1
            have hs0 := hsl 0
            clear h4 hsl
            have HS9 : Hid (St empH w none_ H1 WW [blk (w1.heap.size + 1) (.cells (askC (rNum i0) (itS i2) (slotR k 3) (slotR k 2) (slotR k 1) (slotR k 0) (kindR (rNum i1))) 31), blk w1.heap.size (.cells #[.bool p1, .string s1, .slice (some ⟨b0, o, none⟩) k.length c] 84), blk w.heap.size (.cells zAsk 31)]) := Lib.hid (by
              rw [hs3, hs2, hs1, hs0]
              exact HS7.out)
            clear hs3 hs2 hs1 hs0
            go_wp2_with (first
              | (refine wpList_load_st (cs := askC (rNum i0) (itS i2) (slotR k 3) (slotR k 2) (slotR k 1) (slotR k 0) (kindR (rNum i1))) 0 HS9.out rfl rfl 31 (.tmp 6) rfl rfl _ Tryd.underlying31 rfl szRAsk ?_)
              | fail)
            refine (HPA.out _).mono ?_
            rintro e w6 ⟨rfl, hb6⟩
            have HS10 := Lib.hid (HS9.out.grow hb6)
            clear HS9 hb6
            cases ok with
            | false =>
              go_wp2_with (first
                | (refine wpList_store_st (cs := zAsk) 2 HS10.out rfl rfl 31 (.tmp 2) (.tmp 83) rfl rfl rfl szRAsk rfl (oneAsk _ _ _ _ _ _ _) ?_)
                | fail)
              intro w7 S7
              go_wp2_with fail
              exact post_cell2 0 S7 rfl Tryd.results16 rfl _ Tryd.underlying31 rfl szRAsk rfl ⟨none, HNO.out (by simp), rfl, S7.below⟩
            | true =>
              by_cases he : t = bs l
              · have e1 := eq_list he
                have HE := Lib.hid he
                clear he
                go_wp2_with (first
                  | (refine wpList_load_st (cs := askC (rNum i0) (itS i2) (slotR k 3) (slotR k 2) (slotR k 1) (slotR k 0) (kindR (rNum i1))) 0 HS10.out rfl rfl 31 (.tmp 6) rfl rfl _ Tryd.underlying31 rfl szRAsk ?_)
                  | (refine wpList_store_st (cs := askC (rNum i0) (itS i2) (slotR k 3) (slotR k 2) (slotR k 1) (slotR k 0) (kindR (rNum i1))) 2 HS10.out rfl rfl 31 (.tmp 2) (.tmp 84) rfl rfl rfl szRAsk rfl (oneAsk _ _ _ _ _ _ _) ?_)
                  | fail)
                intro w7 S7
                go_wp2_with fail
                exact post_cell2 0 S7 rfl Tryd.results16 rfl _ Tryd.underlying31 rfl szRAsk rfl ⟨_, HYES.out (by rw [HE.out]), rfl, S7.below⟩
              · have e1 := neq_list he
                have HE := Lib.hid he
                clear he
                go_wp2_with (first
                  | (refine wpList_store_st (cs := zAsk) 2 HS10.out rfl rfl 31 (.tmp 2) (.tmp 83) rfl rfl rfl szRAsk rfl (oneAsk _ _ _ _ _ _ _) ?_)
                  | fail)
                intro w7 S7
                go_wp2_with fail
                exact post_cell2 0 S7 rfl Tryd.results16 rfl _ Tryd.underlying31 rfl szRAsk rfl ⟨none, HNO.out (fun h => HE.out (Prod.mk.inj h).1), rfl, S7.below⟩
        · have hWW : WW = w3 := by rw [HWW.out, if_neg (by omega)]
          have m1 : (rNum i1 == 1) = false := beq_eq_false_iff_ne.2 hk1
          have m2 : (rNum i1 == 2) = false := beq_eq_false_iff_ne.2 hk2
          clear hk1 hk2 HWW
          subst hWW
          by_cases h4 : 3 < k.length
          · have hlt3 : (3 : Int) < (k.length : Int) := by omega
            have e10 := H3.out k[3] (List.getElem?_eq_getElem h4) _ HS7.out.ag
            have hsl : ∀ j, slotR k j = ofW (itS k[3]) j := fun j => by unfold slotR; rw [List.getElem?_eq_getElem h4]
            obtain ⟨x3, hx3⟩ : ∃ x3, x3 = itS k[3] := ⟨_, rfl⟩
            rw [← hx3] at e10 hsl
            have hs3 := hsl 3
            have hs2 := hsl 2
            have hs1 := hsl 1
            have hs0 := hsl 0
            have HHS := Lib.hid (And.intro hs3 (And.intro hs2 (And.intro hs1 hs0)))
            clear h4 hsl hx3 hs3 hs2 hs1 hs0
            go_wp2_with fail
            refine (rof_all _ _).mono ?_
            rintro e w4 ⟨ok3, rfl, hb4⟩
            have HS8 := Lib.hid (HS7.out.grow hb4)
            clear hb4 HS7 h72 e10 d6 g6
            go_wp2_with (first
              | (refine wpList_mid_st (cs := #[.int .u64 (ofW x3 3), .int .u64 (ofW x3 2), .int .u64 (ofW x3 1), .int .u64 (ofW x3 0)]) (old := askC (rNum i0) (itS i2) 0 0 0 0 (kindR (rNum i1))) 0 HS8.out rfl rfl 24 (.tmp 70) (.tmp 68) rfl 2 rfl rfl szWord (by show (2 + 4 : Nat) ≤ 7; omega) (oneW _ _ _ _) ?_)
              | fail)
            intro w5 S5
            obtain ⟨hs3, hs2, hs1, hs0⟩ := HHS.out
            have HS9 : Hid (St empH w none_ H1 w5 [blk (w1.heap.size + 1) (.cells (askC (rNum i0) (itS i2) (slotR k 3) (slotR k 2) (slotR k 1) (slotR k 0) (kindR (rNum i1))) 31), blk w1.heap.size (.cells #[.bool p1, .string s1, .slice (some ⟨b0, o, none⟩) k.length c] 84), blk w.heap.size (.cells zAsk 31)]) := Lib.hid (by
              rw [hs3, hs2, hs1, hs0]
              exact S5)
            clear HS8 S5 hs3 hs2 hs1 hs0
            go_wp2_with (first
              | (refine wpList_load_st (cs := askC (rNum i0) (itS i2) (slotR k 3) (slotR k 2) (slotR k 1) (slotR k 0) (kindR (rNum i1))) 0 HS9.out rfl rfl 31 (.tmp 6) rfl rfl _ Tryd.underlying31 rfl szRAsk ?_)
              | fail)
            refine (HPA.out _).mono ?_
            rintro e w6 ⟨rfl, hb6⟩
            have HS10 := Lib.hid (HS9.out.grow hb6)
            clear HS9 hb6
            cases ok with
            | false =>
              go_wp2_with (first
                | (refine wpList_store_st (cs := zAsk) 2 HS10.out rfl rfl 31 (.tmp 2) (.tmp 83) rfl rfl rfl szRAsk rfl (oneAsk _ _ _ _ _ _ _) ?_)
                | fail)
              intro w7 S7
              go_wp2_with fail
              exact post_cell2 0 S7 rfl Tryd.results16 rfl _ Tryd.underlying31 rfl szRAsk rfl ⟨none, HNO.out (by simp), rfl, S7.below⟩
            | true =>
              by_cases he : t = bs l
              · have e1 := eq_list he
                have HE := Lib.hid he
                clear he
                go_wp2_with (first
                  | (refine wpList_load_st (cs := askC (rNum i0) (itS i2) (slotR k 3) (slotR k 2) (slotR k 1) (slotR k 0) (kindR (rNum i1))) 0 HS10.out rfl rfl 31 (.tmp 6) rfl rfl _ Tryd.underlying31 rfl szRAsk ?_)
                  | (refine wpList_store_st (cs := askC (rNum i0) (itS i2) (slotR k 3) (slotR k 2) (slotR k 1) (slotR k 0) (kindR (rNum i1))) 2 HS10.out rfl rfl 31 (.tmp 2) (.tmp 84) rfl rfl rfl szRAsk rfl (oneAsk _ _ _ _ _ _ _) ?_)
                  | fail)
                intro w7 S7
                go_wp2_with fail
                exact post_cell2 0 S7 rfl Tryd.results16 rfl _ Tryd.underlying31 rfl szRAsk rfl ⟨_, HYES.out (by rw [HE.out]), rfl, S7.below⟩
              · have e1 := neq_list he
                have HE := Lib.hid he
                clear he
                go_wp2_with (first
                  | (refine wpList_store_st (cs := zAsk) 2 HS10.out rfl rfl 31 (.tmp 2) (.tmp 83) rfl rfl rfl szRAsk rfl (oneAsk _ _ _ _ _ _ _) ?_)
                  | fail)
                intro w7 S7
                go_wp2_with fail
                exact post_cell2 0 S7 rfl Tryd.results16 rfl _ Tryd.underlying31 rfl szRAsk rfl ⟨none, HNO.out (fun h => HE.out (Prod.mk.inj h).1), rfl, S7.below⟩
          · have hlt3 : ¬ (3 : Int) < (k.length : Int) := by omega
            have hsl : ∀ j, slotR k j = 0 := fun j => by unfold slotR; rw [List.getElem?_eq_none (by omega)]
            have hs3 := hsl 3
            have hs2 := hsl 2
            have hs1 := hsl 1
            have hs0 := hsl 0
            clear h4 hsl
            have HS9 : Hid (St empH w none_ H1 WW [blk (w1.heap.size + 1) (.cells (askC (rNum i0) (itS i2) (slotR k 3) (slotR k 2) (slotR k 1) (slotR k 0) (kindR (rNum i1))) 31), blk w1.heap.size (.cells #[.bool p1, .string s1, .slice (some ⟨b0, o, none⟩) k.length c] 84), blk w.heap.size (.cells zAsk 31)]) := Lib.hid (by
              rw [hs3, hs2, hs1, hs0]
              exact HS7.out)
            clear hs3 hs2 hs1 hs0
            go_wp2_with (first
              | (refine wpList_load_st (cs := askC (rNum i0) (itS i2) (slotR k 3) (slotR k 2) (slotR k 1) (slotR k 0) (kindR (rNum i1))) 0 HS9.out rfl rfl 31 (.tmp 6) rfl rfl _ Tryd.underlying31 rfl szRAsk ?_)
              | fail)
            refine (HPA.out _).mono ?_
            rintro e w6 ⟨rfl, hb6⟩
            have HS10 := Lib.hid (HS9.out.grow hb6)
            clear HS9 hb6
            cases ok with
            | false =>
              go_wp2_with (first
                | (refine wpList_store_st (cs := zAsk) 2 HS10.out rfl rfl 31 (.tmp 2) (.tmp 83) rfl rfl rfl szRAsk rfl (oneAsk _ _ _ _ _ _ _) ?_)
                | fail)
              intro w7 S7
              go_wp2_with fail
              exact post_cell2 0 S7 rfl Tryd.results16 rfl _ Tryd.underlying31 rfl szRAsk rfl ⟨none, HNO.out (by simp), rfl, S7.below⟩
            | true =>
              by_cases he : t = bs l
              · have e1 := eq_list he
                have HE := Lib.hid he
                clear he
                go_wp2_with (first
                  | (refine wpList_load_st (cs := askC (rNum i0) (itS i2) (slotR k 3) (slotR k 2) (slotR k 1) (slotR k 0) (kindR (rNum i1))) 0 HS10.out rfl rfl 31 (.tmp 6) rfl rfl _ Tryd.underlying31 rfl szRAsk ?_)
                  | (refine wpList_store_st (cs := askC (rNum i0) (itS i2) (slotR k 3) (slotR k 2) (slotR k 1) (slotR k 0) (kindR (rNum i1))) 2 HS10.out rfl rfl 31 (.tmp 2) (.tmp 84) rfl rfl rfl szRAsk rfl (oneAsk _ _ _ _ _ _ _) ?_)
                  | fail)
                intro w7 S7
                go_wp2_with fail
                exact post_cell2 0 S7 rfl Tryd.results16 rfl _ Tryd.underlying31 rfl szRAsk rfl ⟨_, HYES.out (by rw [HE.out]), rfl, S7.below⟩
              · have e1 := neq_list he
                have HE := Lib.hid he
                clear he
                go_wp2_with (first
                  | (refine wpList_store_st (cs := zAsk) 2 HS10.out rfl rfl 31 (.tmp 2) (.tmp 83) rfl rfl rfl szRAsk rfl (oneAsk _ _ _ _ _ _ _) ?_)
                  | fail)
                intro w7 S7
                go_wp2_with fail
                exact post_cell2 0 S7 rfl Tryd.results16 rfl _ Tryd.underlying31 rfl szRAsk rfl ⟨none, HNO.out (fun h => HE.out (Prod.mk.inj h).1), rfl, S7.below⟩
  · have HS2 := Lib.hid ((HS.out.more S1).alloc (.cells #[.bool false, .string ⟨#[]⟩, .slice none 0 0] 84))
    have hn2 : (n != 0) = true := by rw [bne, hn]; rfl
    have HR := Lib.hid hR
    clear hR S1 HS hn
    simp only [zItem]
    go_wp2_with (first
      | (refine wpList_store_st (cs := zAsk) 1 HS2.out rfl rfl 31 (.tmp 2) (.tmp 24) rfl rfl rfl szRAsk rfl (oneAsk _ _ _ _ _ _ _) ?_)
      | fail)
    intro w4 S4
    go_wp2_with fail
    exact post_cell2 0 S4 rfl Tryd.results16 rfl _ Tryd.underlying31 rfl szRAsk rfl ⟨none, .bad HR.out, rfl, S4.below⟩
end Go.Proofs.YtfphlkkhpccpnaaDoor

namespace Go.Proofs.YtfphlkkhpccpnaaDoor
open Go.RowKit Go.Proofs K
set_option linter.unusedVariables false

theorem askR_bd {l r : List It} {id : Int} {addr : ByteArray} {a b c d k : Int} (h : askR l = some (askC id addr a b c d k, r)) : W64 id ∧ W64 a ∧ W64 b ∧ W64 c ∧ W64 d := by
  unfold askR at h
  obtain ⟨x, h1, h⟩ := Option.bind_eq_some_iff.1 h
  obtain ⟨y, h2, h⟩ := Option.bind_eq_some_iff.1 h
  obtain ⟨z, h3, h⟩ := Option.bind_eq_some_iff.1 h
  have hx : W64 x.1 := by
    unfold numR at h1
    split at h1
    · split at h1
      · cases h1
        exact smallR_bd _
      · cases h1
    · cases h1
  have z0 : W64 0 := ⟨by decide, by decide⟩
  split at h
  · simp only [Option.some.injEq, Prod.mk.injEq] at h
    obtain ⟨rfl, _, rfl, rfl, rfl, rfl, _⟩ := askC_inj h.1
    exact ⟨hx, z0, z0, z0, z0⟩
  · split at h
    · obtain ⟨t, h4, h⟩ := Option.map_eq_some_iff.1 h
      simp only [Prod.mk.injEq] at h
      obtain ⟨rfl, _, rfl, rfl, rfl, rfl, _⟩ := askC_inj h.1
      exact ⟨hx, ofL_bd _ _ _, ofL_bd _ _ _, ofL_bd _ _ _, ofL_bd _ _ _⟩
    · cases h
theorem askF_bd {l : List UInt8} {id : Int} {addr : ByteArray} {a b c d k : Int} (h : askF l = some (askC id addr a b c d k)) : W64 id ∧ W64 a ∧ W64 b ∧ W64 c ∧ W64 d := by
  unfold askF at h
  split at h
  · split at h
    · rename_i h2
      simp only [Option.some.injEq] at h
      subst h
      exact askR_bd h2
    · cases h
  · cases h
theorem two64 : W64 (IntKind.u64.wrap 2) ∧ W64 (IntKind.u64.wrap 1) := ⟨wrapU_bd _, wrapU_bd _⟩
theorem ofW_word {a b c d : Int} (ha : W64 a) (hb : W64 b) (hc : W64 c) (hd : W64 d) : ofW (wordS a b c d) 3 = a ∧ ofW (wordS a b c d) 2 = b ∧ ofW (wordS a b c d) 1 = c ∧ ofW (wordS a b c d) 0 = d := by
  have h := word_back ha hb hc hd
  have hs : (wordS a b c d).size ≤ 32 := by rw [wordS_size]; exact Nat.le_refl _
  unfold ofW
  rw [if_pos hs, if_pos hs, if_pos hs, if_pos hs]
  exact h
theorem ref_put {id : Int} {addr : ByteArray} {a b c d k : Int} (hid : W64 id) (ha : W64 a) (hb : W64 b) (hc : W64 c) (hd : W64 d) (h : AskOk id addr a b c d k) {o : Option (Array Value)} (hR : RGetD (putL (askTs id addr a b c d k)).data.toList o) : o = some (askC id addr a b c d k) := by
  have hdec := decF_put (askTs_len (id := id) (a := a) (b := b) (c := c) (d := d) (kind := k) h.1)
  have hput := putAskR_ok h
  have hbs : bs (putL (askTs id addr a b c d k)).data.toList = putL (askTs id addr a b c d k) := bs_list _
  have key : ∀ i i0 i1 i2 : It, DecR (putL (askTs id addr a b c d k)).data.toList (some i) → (itemsOf i)[0]? = some i0 → (itemsOf i)[1]? = some i1 → (itemsOf i)[2]? = some i2 →
      rNum i0 = id ∧ itS i2 = addr ∧ slotR (itemsOf i) 3 = a ∧ slotR (itemsOf i) 2 = b ∧ slotR (itemsOf i) 1 = c ∧ slotR (itemsOf i) 0 = d ∧ kindR (rNum i1) = k := by
    intro i i0 i1 i2 hD h0 h1 h2
    have hi := (decF_of hD).symm.trans hdec
    simp only [Option.some.injEq] at hi
    subst hi
    obtain ⟨h20, h21⟩ := h
    rcases h21 with rfl | ⟨rfl, rfl, rfl, rfl, rfl⟩
    · rw [show askTs id addr a b c d 2 = [numS id, numS (IntKind.u64.wrap 2), addr, wordS a b c d] from rfl] at h0 h1 h2 ⊢
      simp only [itemsOf, List.map_cons, List.map_nil, List.getElem?_cons_zero, List.getElem?_cons_succ, Option.some.injEq] at h0 h1 h2
      subst h0 h1 h2
      obtain ⟨e1, e2, e3, e4⟩ := ofW_word ha hb hc hd
      exact ⟨numS_back hid.1 hid.2, rfl, e1, e2, e3, e4, by show kindR (smallR _) = 2; rw [numS_back two64.1.1 two64.1.2]; rfl⟩
    · rw [show askTs id addr 0 0 0 0 1 = [numS id, numS (IntKind.u64.wrap 1), addr] from rfl] at h0 h1 h2 ⊢
      simp only [itemsOf, List.map_cons, List.map_nil, List.getElem?_cons_zero, List.getElem?_cons_succ, Option.some.injEq] at h0 h1 h2
      subst h0 h1 h2
      exact ⟨numS_back hid.1 hid.2, rfl, rfl, rfl, rfl, rfl, by show kindR (smallR _) = 1; rw [numS_back two64.2.1 two64.2.2]; rfl⟩
  cases hR with
  | bad hD => have := decF_of hD; rw [hdec] at this; cases this
  | few hD h3 =>
    have hi := (decF_of hD).symm.trans hdec
    simp only [Option.some.injEq] at hi
    subst hi
    exfalso
    unfold askTs at h3
    split at h3 <;> simp [itemsOf] at h3
  | other hD h0 h1 h2 hn =>
    obtain ⟨e1, e2, e3, e4, e5, e6, e7⟩ := key _ _ _ _ hD h0 h1 h2
    rw [e1, e2, e3, e4, e5, e6, e7, hput, hbs] at hn
    exact absurd rfl hn
  | good hD h0 h1 h2 hn =>
    obtain ⟨e1, e2, e3, e4, e5, e6, e7⟩ := key _ _ _ _ hD h0 h1 h2
    rw [e1, e2, e3, e4, e5, e6, e7]
theorem ok_of {id : Int} {addr : ByteArray} {a b c d k : Int} {t : ByteArray} (h : putAskR id addr a b c d k = (t, true)) : AskOk id addr a b c d k := by
  by_cases hk : AskOk id addr a b c d k
  · exact hk
  · rw [putAskR_no hk] at h
    cases h
theorem askF_nil : askF [] = none := rfl
/-- The two tell the same. -/
theorem same_ask {l : List UInt8} {o : Option (Array Value)} (hR : RGetD l o) {w w' : World} {e : Ending} (hG : GetAskP l w e w') : e = .returned (.tuple #[.agg (o.getD zAsk), .bool o.isSome]) := by
  rcases getAsk_is hG with ⟨id, addr, a, b, c, d, k, hf, hp, he⟩ | ⟨he, hn⟩
  · obtain ⟨hid, ha, hb, hc, hd⟩ := askF_bd hf
    have hok : AskOk id addr a b c d k := by
      by_cases hk : AskOk id addr a b c d k
      · exact hk
      · rw [putAskR_no hk] at hp
        have : l = [] := by
          have := congrArg (fun x : ByteArray => x.data.toList) hp
          simpa [bs] using this.symm
        subst this
        rw [askF_nil] at hf
        cases hf
    rw [putAskR_ok hok] at hp
    have hl : l = (putL (askTs id addr a b c d k)).data.toList := by
      have := congrArg (fun x : ByteArray => x.data.toList) hp
      simpa [bs] using this.symm
    subst hl
    rw [ref_put hid ha hb hc hd hok hR, he]
    rfl
  · rw [he]
    cases o with
    | none => rfl
    | some x =>
      exfalso
      cases hR with
      | @good i i0 i1 i2 hD h0 h1 h2 hput =>
        have hok := ok_of hput
        rw [putAskR_ok hok] at hput
        have hp := (Prod.mk.inj hput).1
        have hl : l = (putL (askTs (rNum i0) (itS i2) (slotR (itemsOf i) 3) (slotR (itemsOf i) 2) (slotR (itemsOf i) 1) (slotR (itemsOf i) 0) (kindR (rNum i1)))).data.toList := by
          have := congrArg (fun x : ByteArray => x.data.toList) hp
          simpa [bs] using this.symm
        have hf := askF_put (rNum_bd i0) (slotR_bd _ 3) (slotR_bd _ 2) (slotR_bd _ 1) (slotR_bd _ 0) hok
        rw [← hl] at hf
        exact hn _ _ _ _ _ _ _ hf (by rw [putAskR_ok hok]; exact hp)
end Go.Proofs.YtfphlkkhpccpnaaDoor

namespace Go.Proofs.YtfphlkkhpccpnaaDoor
open Go.RowKit Go.Proofs K
set_option linter.unusedVariables false

set_option maxRecDepth 100000 in
theorem refAsk_any (id : Int) (addr : ByteArray) (a b c d kd : Int) (w : World) : Calls Tryd.prog 14 #[.agg (askC id addr a b c d kd)] w (RetV (.agg (askC id addr a b c d kd)) w) := by
  have HS := Lib.hid (((St.start (ag_emp w)).alloc (.cells #[.int .u64 id, .string addr, .int .u64 a, .int .u64 b, .int .u64 c, .int .u64 d, .int .i64 kd] 26)).alloc' (.cells zAsk 31) (w.heap.size + 1) (by simp))
  simp only [askC]
  go_enter Tryd.func14, Tryd.ntmps14
  go_wp2_with (first
    | (refine wpList_store_st (cs := askC id addr a b c d kd) 0 HS.out rfl rfl 31 (.tmp 2) (.tmp 11) rfl rfl rfl szRAsk rfl (oneAsk _ _ _ _ _ _ _) ?_)
    | fail)
  intro w4 S4
  go_wp2_with fail
  exact post_cell 0 S4 rfl Tryd.results14 rfl _ Tryd.underlying31 rfl szRAsk rfl ⟨rfl, S4.below⟩
theorem refAskE (id : Int) (addr : ByteArray) (a b c d kd : Int) (w : World) : Calls Tryd.prog 14 #[.agg #[.int .u64 id, .string addr, .int .u64 a, .int .u64 b, .int .u64 c, .int .u64 d, .int .i64 kd]] w (RetV (.agg #[.int .u64 id, .string addr, .int .u64 a, .int .u64 b, .int .u64 c, .int .u64 d, .int .i64 kd]) w) := refAsk_any id addr a b c d kd w
theorem getAsk_form {l : List UInt8} {w w' : World} {e : Ending} (h : GetAskP l w e w') : ∃ id addr a b c d kd fl, e = .returned (.tuple #[.agg (askC id addr a b c d kd), .bool fl]) := by
  rcases h.1 with ⟨_, _, _, _, _, _, _, _, _, he⟩ | ⟨he, _⟩
  · exact ⟨_, _, _, _, _, _, _, _, he⟩
  · exact ⟨_, _, _, _, _, _, _, _, he⟩
theorem eqRAsk (id : Int) (s : ByteArray) (a b c d k : Int) (n : Nat) (w : World) : (Op.equalIn (n + 3) 31 (.agg (askC id s a b c d k)) (.agg (askC id s a b c d k))).run Tryd.prog w = .ok true w := by
  have hf : Tryd.prog.underlying 31 = some (.struct (Tryd.prog.fieldsOf 31)) := by kernel_rfl
  have hp : Tryd.prog.stoodInHeld 31 = false := by kernel_rfl
  rw [run_equalIn_struct _ _ _ _ _ hf hp]
  simp [Program.fieldsOf, Tryd.underlying31, Op.eqFields, part, go_sem, askC, eqWord]
theorem eqRAskB (id : Int) (s : ByteArray) (a b c d k : Int) (w : World) : (binOp .eql 31 (.agg (askC id s a b c d k)) (.agg (askC id s a b c d k))).run Tryd.prog w = .ok (.bool true) w := by
  have h := eqRAsk id s a b c d k 9997 w
  simp only [binOp, Op.equal, Op.maxDepth, Sem.run_bind]
  rw [h]
  rfl
theorem eqgRAsk (x y : Operand) (u v : Array Value) (w : World) : (eqGuard .eql 31 x y (.agg u) (.agg v)).run Tryd.prog w = .ok () w := by
  have h : Tryd.prog.eqGuardType Tryd.prog.depth 31 = false := by kernel_rfl
  simp [eqGuard, Sem.run_bind, run_program, h]
theorem turnB (v : UInt8) {b : Int} (h0 : 0 ≤ b) (h1 : b < 256) : ∃ y : UInt8, bits .xor .u8 (v.toNat : Int) b = (y.toNat : Int) := by
  obtain ⟨n, rfl⟩ := Int.eq_ofNat_of_zero_le h0
  have hn : n < 256 := by omega
  have hv : v.toNat < 256 := v.toNat_lt
  have hb := xor256 hv hn
  exact ⟨UInt8.ofNat (v.toNat ^^^ n), by rw [bx8 _ _ hv hn, UInt8.toNat_ofNat', Nat.mod_eq_of_lt (by omega)]⟩
/-- What the calls answer. -/
structure AskCalls (id : Int) (addr : ByteArray) (a b c d kd : Int) (x : ByteArray) (ok : Bool) : Prop where
  pa : ∀ w, Calls Tryd.prog 12 #[.agg (askC id addr a b c d kd)] w (RetV (.tuple #[.string x, .bool ok]) w)
  pr : ∀ w, Calls Tryd.prog 13 #[.agg (askC id addr a b c d kd)] w (RetV (.tuple #[.string x, .bool ok]) w)
theorem getAskS (s : ByteArray) (w : World) : Calls Tryd.prog 15 #[.string s] w (GetAskP s.data.toList w) := by
  have := getAsk_any s.data.toList w
  rwa [bs_list] at this
theorem rgetAskS (s : ByteArray) (w : World) : Calls Tryd.prog 16 #[.string s] w (RGetQ s.data.toList w) := by
  have := rgetAsk_any s.data.toList w
  rwa [bs_list] at this
set_option maxRecDepth 100000 in
set_option maxHeartbeats 4000000 in
theorem asks_off (id : Int) (addr : ByteArray) (a b c d kd : Int) (s : ByteArray) (atI byI : Int) (w : World) {x : ByteArray} {ok : Bool} (HC : AskCalls id addr a b c d kd x ok) : Calls Tryd.prog 3 #[.agg (askC id addr a b c d kd), .string s, .bool false, .int .i64 atI, .int .u8 byI] w (RetV (.bool true) w) := by
  have HB := Lib.hid HC
  clear HC
  have HS := Lib.hid ((St.start (ag_emp w)).alloc (.cells (askC id addr a b c d kd) 26))
  go_enter Tryd.func3, Tryd.ntmps3
  go_wp2_with fail
  refine (examples_any _).mono ?_
  rintro z w1 ⟨rfl, hb1⟩
  have HS1 := Lib.hid (HS.out.grow hb1)
  clear HS hb1
  go_wp2_with (first
    | (refine wpList_load_st (cs := askC id addr a b c d kd) 0 HS1.out rfl rfl 26 (.tmp 5) rfl rfl _ Tryd.underlying26 rfl szAsk ?_)
    | fail)
  refine (HB.out.pa _).mono ?_
  rintro z w2 ⟨rfl, hb2⟩
  have HS2 := Lib.hid (HS1.out.grow hb2)
  clear HS1 hb2
  go_wp2_with (first
    | (refine wpList_load_st (cs := askC id addr a b c d kd) 0 HS2.out rfl rfl 26 (.tmp 5) rfl rfl _ Tryd.underlying26 rfl szAsk ?_)
    | fail)
  refine (refAsk_any _ _ _ _ _ _ _ _).mono ?_
  rintro z w3 ⟨rfl, hb3⟩
  have HS3 := Lib.hid (HS2.out.grow hb3)
  clear HS2 hb3
  go_wp2_with fail
  refine (HB.out.pr _).mono ?_
  rintro z w4 ⟨rfl, hb4⟩
  have HS4 := Lib.hid (HS3.out.grow hb4)
  clear HS3 hb4
  go_wp2_with fail
  refine (getAskS _ _).mono ?_
  intro e w5 hG
  obtain ⟨id', addr', a', b', c', d', kd', fl, rfl⟩ := getAsk_form hG
  have HG := Lib.hid hG
  have HS5 := Lib.hid ((HS4.out.grow hG.2).alloc (.cells zAsk 26))
  clear HS4 hG
  go_wp2_with (first
    | (refine wpList_store_st (cs := askC id' addr' a' b' c' d' kd') 0 HS5.out rfl rfl 26 (.tmp 17) (.tmp 67) rfl rfl rfl szAsk rfl (oneAsk _ _ _ _ _ _ _) ?_)
    | fail)
  intro w6 S6
  have HS6 := Lib.hid S6
  clear HS5 S6
  go_wp2_with fail
  refine (rgetAskS _ _).mono ?_
  rintro z w7 ⟨o, hR, rfl, hb7⟩
  have hsame := same_ask hR HG.out
  simp only [Ending.returned.injEq, Value.tuple.injEq, Array.mk.injEq, List.cons.injEq, Value.agg.injEq, Value.bool.injEq, and_true] at hsame
  rw [← hsame.1, ← hsame.2]
  have HS7 := Lib.hid ((HS6.out.grow hb7).alloc (.cells zAsk 31))
  clear hb7 HS6 hR hsame HG
  go_wp2_with (first
    | (refine wpList_store_st (cs := askC id' addr' a' b' c' d' kd') 0 HS7.out rfl rfl 31 (.tmp 19) (.tmp 72) rfl rfl rfl szRAsk rfl (oneAsk _ _ _ _ _ _ _) ?_)
    | fail)
  intro w8 S8
  obtain ⟨W, hW⟩ : ∃ W, W = w8 := ⟨_, rfl⟩
  have HS8 : Hid (St empH w none_ empH w8 [blk w7.heap.size (.cells (askC id' addr' a' b' c' d' kd') 31), blk w5.heap.size (.cells (askC id' addr' a' b' c' d' kd') 26)]) := S8.drop 2
  clear HS7 S8
  go_wp2_with fail
  have p0 : ∀ w', Below w8.heap.size w8 w' → w'.cell? ⟨w5.heap.size, 0, none⟩ = some (.int .u64 id') := fun w' h => (HS8.out.grow h).cell 1 rfl rfl
  have p1 : ∀ w', Below w8.heap.size w8 w' → w'.cell? ⟨w5.heap.size, 1, none⟩ = some (.string addr') := fun w' h => (HS8.out.grow h).cell 1 rfl rfl
  have p2 : ∀ w', Below w8.heap.size w8 w' → w'.cell? ⟨w5.heap.size, 2, none⟩ = some (.int .u64 a') := fun w' h => (HS8.out.grow h).cell 1 rfl rfl
  have p3 : ∀ w', Below w8.heap.size w8 w' → w'.cell? ⟨w5.heap.size, 3, none⟩ = some (.int .u64 b') := fun w' h => (HS8.out.grow h).cell 1 rfl rfl
  have p4 : ∀ w', Below w8.heap.size w8 w' → w'.cell? ⟨w5.heap.size, 4, none⟩ = some (.int .u64 c') := fun w' h => (HS8.out.grow h).cell 1 rfl rfl
  have p5 : ∀ w', Below w8.heap.size w8 w' → w'.cell? ⟨w5.heap.size, 5, none⟩ = some (.int .u64 d') := fun w' h => (HS8.out.grow h).cell 1 rfl rfl
  have p6 : ∀ w', Below w8.heap.size w8 w' → w'.cell? ⟨w5.heap.size, 6, none⟩ = some (.int .i64 kd') := fun w' h => (HS8.out.grow h).cell 1 rfl rfl
  have q0 : ∀ w', Below w8.heap.size w8 w' → w'.cell? ⟨w7.heap.size, 0, none⟩ = some (.int .u64 id') := fun w' h => (HS8.out.grow h).cell 0 rfl rfl
  have q1 : ∀ w', Below w8.heap.size w8 w' → w'.cell? ⟨w7.heap.size, 1, none⟩ = some (.string addr') := fun w' h => (HS8.out.grow h).cell 0 rfl rfl
  have q2 : ∀ w', Below w8.heap.size w8 w' → w'.cell? ⟨w7.heap.size, 2, none⟩ = some (.int .u64 a') := fun w' h => (HS8.out.grow h).cell 0 rfl rfl
  have q3 : ∀ w', Below w8.heap.size w8 w' → w'.cell? ⟨w7.heap.size, 3, none⟩ = some (.int .u64 b') := fun w' h => (HS8.out.grow h).cell 0 rfl rfl
  have q4 : ∀ w', Below w8.heap.size w8 w' → w'.cell? ⟨w7.heap.size, 4, none⟩ = some (.int .u64 c') := fun w' h => (HS8.out.grow h).cell 0 rfl rfl
  have q5 : ∀ w', Below w8.heap.size w8 w' → w'.cell? ⟨w7.heap.size, 5, none⟩ = some (.int .u64 d') := fun w' h => (HS8.out.grow h).cell 0 rfl rfl
  have q6 : ∀ w', Below w8.heap.size w8 w' → w'.cell? ⟨w7.heap.size, 6, none⟩ = some (.int .i64 kd') := fun w' h => (HS8.out.grow h).cell 0 rfl rfl
  have heq : ∀ w, (binOp .eql 31 (.agg #[.int .u64 id', .string addr', .int .u64 a', .int .u64 b', .int .u64 c', .int .u64 d', .int .i64 kd']) (.agg #[.int .u64 id', .string addr', .int .u64 a', .int .u64 b', .int .u64 c', .int .u64 d', .int .i64 kd'])).run Tryd.prog w = .ok (.bool true) w := fun w => eqRAskB id' addr' a' b' c' d' kd' w
  have heg : ∀ x y w, (eqGuard .eql 31 x y (.agg #[.int .u64 id', .string addr', .int .u64 a', .int .u64 b', .int .u64 c', .int .u64 d', .int .i64 kd']) (.agg #[.int .u64 id', .string addr', .int .u64 a', .int .u64 b', .int .u64 c', .int .u64 d', .int .i64 kd'])).run Tryd.prog w = .ok () w := fun x y w => eqgRAsk x y _ _ w
  go_region_held3 (fun w' => Below w8.heap.size w8 w') (repeat (first | assumption | exact Below.refl _ _ | apply Below.drew | (refine Below.alloc ?_ (by first | exact Nat.le_refl _ | exact Below.size (by assumption) | simp) _))) (first
    | (go_at_call 14; refine (retFrom (W := w8) ?_ (refAskE id' addr' a' b' c' d' kd' _)).mono ?_; (first | assumption | exact (Below.refl _ _).drew); rintro z w9 ⟨rfl, hb9⟩))
  have HB9 := Lib.hid ((HS8.out.grow hb9).below)
  go_wp2_with fail
  exact bodyPost_ret (v := .bool true) (by simp [results, Tryd.results3, go_sem]) rfl ⟨rfl, HB9.out⟩
set_option maxRecDepth 100000 in
set_option maxHeartbeats 4000000 in
theorem asks_none (id : Int) (addr : ByteArray) (a b c d kd : Int) (s : ByteArray) (atI byI : Int) (w : World) {x : ByteArray} {ok : Bool} (HC : AskCalls id addr a b c d kd x ok) (hx : x = ⟨#[]⟩) : Calls Tryd.prog 3 #[.agg (askC id addr a b c d kd), .string s, .bool true, .int .i64 atI, .int .u8 byI] w (RetV (.bool true) w) := by
  have e0 : (x.toList == ([] : List UInt8)) = true := by rw [hx, ByteArray.toList_eq]; rfl
  have e0b : x.toList.isEmpty = true := by rw [hx, ByteArray.toList_eq]; rfl
  clear hx
  have HB := Lib.hid HC
  clear HC
  have HS := Lib.hid ((St.start (ag_emp w)).alloc (.cells (askC id addr a b c d kd) 26))
  go_enter Tryd.func3, Tryd.ntmps3
  go_wp2_with fail
  refine (examples_any _).mono ?_
  rintro z w1 ⟨rfl, hb1⟩
  have HS1 := Lib.hid (HS.out.grow hb1)
  clear HS hb1
  go_wp2_with (first
    | (refine wpList_load_st (cs := askC id addr a b c d kd) 0 HS1.out rfl rfl 26 (.tmp 5) rfl rfl _ Tryd.underlying26 rfl szAsk ?_)
    | fail)
  refine (HB.out.pa _).mono ?_
  rintro z w2 ⟨rfl, hb2⟩
  have HS2 := Lib.hid (HS1.out.grow hb2)
  clear HS1 hb2
  go_wp2_with (first
    | (refine wpList_load_st (cs := askC id addr a b c d kd) 0 HS2.out rfl rfl 26 (.tmp 5) rfl rfl _ Tryd.underlying26 rfl szAsk ?_)
    | fail)
  refine (refAsk_any _ _ _ _ _ _ _ _).mono ?_
  rintro z w3 ⟨rfl, hb3⟩
  have HS3 := Lib.hid (HS2.out.grow hb3)
  clear HS2 hb3
  go_wp2_with fail
  refine (HB.out.pr _).mono ?_
  rintro z w4 ⟨rfl, hb4⟩
  have HS4 := Lib.hid (HS3.out.grow hb4)
  clear HS3 hb4
  go_wp2_with fail
  refine (getAskS _ _).mono ?_
  intro e w5 hG
  obtain ⟨id', addr', a', b', c', d', kd', fl, rfl⟩ := getAsk_form hG
  have HG := Lib.hid hG
  have HS5 := Lib.hid ((HS4.out.grow hG.2).alloc (.cells zAsk 26))
  clear HS4 hG
  go_wp2_with (first
    | (refine wpList_store_st (cs := askC id' addr' a' b' c' d' kd') 0 HS5.out rfl rfl 26 (.tmp 17) (.tmp 67) rfl rfl rfl szAsk rfl (oneAsk _ _ _ _ _ _ _) ?_)
    | fail)
  intro w6 S6
  have HS6 := Lib.hid S6
  clear HS5 S6
  go_wp2_with fail
  refine (rgetAskS _ _).mono ?_
  rintro z w7 ⟨o, hR, rfl, hb7⟩
  have hsame := same_ask hR HG.out
  simp only [Ending.returned.injEq, Value.tuple.injEq, Array.mk.injEq, List.cons.injEq, Value.agg.injEq, Value.bool.injEq, and_true] at hsame
  rw [← hsame.1, ← hsame.2]
  have HS7 := Lib.hid ((HS6.out.grow hb7).alloc (.cells zAsk 31))
  clear hb7 HS6 hR hsame HG
  go_wp2_with (first
    | (refine wpList_store_st (cs := askC id' addr' a' b' c' d' kd') 0 HS7.out rfl rfl 31 (.tmp 19) (.tmp 72) rfl rfl rfl szRAsk rfl (oneAsk _ _ _ _ _ _ _) ?_)
    | fail)
  intro w8 S8
  obtain ⟨W, hW⟩ : ∃ W, W = w8 := ⟨_, rfl⟩
  have HS8 : Hid (St empH w none_ empH w8 [blk w7.heap.size (.cells (askC id' addr' a' b' c' d' kd') 31), blk w5.heap.size (.cells (askC id' addr' a' b' c' d' kd') 26)]) := S8.drop 2
  clear HS7 S8
  go_wp2_with fail
  have p0 : ∀ w', Below w8.heap.size w8 w' → w'.cell? ⟨w5.heap.size, 0, none⟩ = some (.int .u64 id') := fun w' h => (HS8.out.grow h).cell 1 rfl rfl
  have p1 : ∀ w', Below w8.heap.size w8 w' → w'.cell? ⟨w5.heap.size, 1, none⟩ = some (.string addr') := fun w' h => (HS8.out.grow h).cell 1 rfl rfl
  have p2 : ∀ w', Below w8.heap.size w8 w' → w'.cell? ⟨w5.heap.size, 2, none⟩ = some (.int .u64 a') := fun w' h => (HS8.out.grow h).cell 1 rfl rfl
  have p3 : ∀ w', Below w8.heap.size w8 w' → w'.cell? ⟨w5.heap.size, 3, none⟩ = some (.int .u64 b') := fun w' h => (HS8.out.grow h).cell 1 rfl rfl
  have p4 : ∀ w', Below w8.heap.size w8 w' → w'.cell? ⟨w5.heap.size, 4, none⟩ = some (.int .u64 c') := fun w' h => (HS8.out.grow h).cell 1 rfl rfl
  have p5 : ∀ w', Below w8.heap.size w8 w' → w'.cell? ⟨w5.heap.size, 5, none⟩ = some (.int .u64 d') := fun w' h => (HS8.out.grow h).cell 1 rfl rfl
  have p6 : ∀ w', Below w8.heap.size w8 w' → w'.cell? ⟨w5.heap.size, 6, none⟩ = some (.int .i64 kd') := fun w' h => (HS8.out.grow h).cell 1 rfl rfl
  have q0 : ∀ w', Below w8.heap.size w8 w' → w'.cell? ⟨w7.heap.size, 0, none⟩ = some (.int .u64 id') := fun w' h => (HS8.out.grow h).cell 0 rfl rfl
  have q1 : ∀ w', Below w8.heap.size w8 w' → w'.cell? ⟨w7.heap.size, 1, none⟩ = some (.string addr') := fun w' h => (HS8.out.grow h).cell 0 rfl rfl
  have q2 : ∀ w', Below w8.heap.size w8 w' → w'.cell? ⟨w7.heap.size, 2, none⟩ = some (.int .u64 a') := fun w' h => (HS8.out.grow h).cell 0 rfl rfl
  have q3 : ∀ w', Below w8.heap.size w8 w' → w'.cell? ⟨w7.heap.size, 3, none⟩ = some (.int .u64 b') := fun w' h => (HS8.out.grow h).cell 0 rfl rfl
  have q4 : ∀ w', Below w8.heap.size w8 w' → w'.cell? ⟨w7.heap.size, 4, none⟩ = some (.int .u64 c') := fun w' h => (HS8.out.grow h).cell 0 rfl rfl
  have q5 : ∀ w', Below w8.heap.size w8 w' → w'.cell? ⟨w7.heap.size, 5, none⟩ = some (.int .u64 d') := fun w' h => (HS8.out.grow h).cell 0 rfl rfl
  have q6 : ∀ w', Below w8.heap.size w8 w' → w'.cell? ⟨w7.heap.size, 6, none⟩ = some (.int .i64 kd') := fun w' h => (HS8.out.grow h).cell 0 rfl rfl
  have heq : ∀ w, (binOp .eql 31 (.agg #[.int .u64 id', .string addr', .int .u64 a', .int .u64 b', .int .u64 c', .int .u64 d', .int .i64 kd']) (.agg #[.int .u64 id', .string addr', .int .u64 a', .int .u64 b', .int .u64 c', .int .u64 d', .int .i64 kd'])).run Tryd.prog w = .ok (.bool true) w := fun w => eqRAskB id' addr' a' b' c' d' kd' w
  have heg : ∀ x y w, (eqGuard .eql 31 x y (.agg #[.int .u64 id', .string addr', .int .u64 a', .int .u64 b', .int .u64 c', .int .u64 d', .int .i64 kd']) (.agg #[.int .u64 id', .string addr', .int .u64 a', .int .u64 b', .int .u64 c', .int .u64 d', .int .i64 kd'])).run Tryd.prog w = .ok () w := fun x y w => eqgRAsk x y _ _ w
  go_region_held3 (fun w' => Below w8.heap.size w8 w') (repeat (first | assumption | exact Below.refl _ _ | apply Below.drew | (refine Below.alloc ?_ (by first | exact Nat.le_refl _ | exact Below.size (by assumption) | simp) _))) (first
    | (go_at_call 14; refine (retFrom (W := w8) ?_ (refAskE id' addr' a' b' c' d' kd' _)).mono ?_; (first | assumption | exact (Below.refl _ _).drew); rintro z w9 ⟨rfl, hb9⟩))
  have HB9 := Lib.hid ((HS8.out.grow hb9).below)
  go_wp2_with fail
  exact bodyPost_ret (v := .bool true) (by simp [results, Tryd.results3, go_sem]) rfl ⟨rfl, HB9.out⟩
set_option maxRecDepth 100000 in
set_option maxHeartbeats 4000000 in
theorem asks_on (id : Int) (addr : ByteArray) (a b c d kd : Int) (s : ByteArray) (atI byI : Int) (w : World) {x : ByteArray} {ok : Bool} (HC : AskCalls id addr a b c d kd x ok) (hx : x ≠ ⟨#[]⟩) (hsz : x.size ≤ 1000000) (hat : 0 ≤ atI) (hat2 : atI < 9223372036854775808) (hby0 : 0 ≤ byI) (hby1 : byI < 256) : Calls Tryd.prog 3 #[.agg (askC id addr a b c d kd), .string s, .bool true, .int .i64 atI, .int .u8 byI] w (RetV (.bool true) w) := by
  -- the byte that is turned
  have hxs : 0 < x.size := by
    rcases Nat.eq_zero_or_pos x.size with h | h
    · exact absurd (ByteArray.ext (Array.eq_empty_of_size_eq_zero h)) hx
    · exact h
  have e0 : (x.toList == ([] : List UInt8)) = false := by
    rw [beq_eq_false_iff_ne, ByteArray.toList_eq]
    intro h
    exact hx (ByteArray.ext (Array.toList_inj.1 h))
  have e0b : x.toList.isEmpty = false := by rw [List.isEmpty_eq_false_iff]; intro h; rw [h] at e0; cases e0
  obtain ⟨m, hm⟩ : ∃ m : Nat, atI % (x.size : Int) = (m : Int) := ⟨(atI % (x.size : Int)).toNat, (Int.toNat_of_nonneg (Int.emod_nonneg _ (by omega))).symm⟩
  have hm8 : (m : Int) < (x.size : Int) := hm ▸ Int.emod_lt_of_pos _ (by omega)
  have hmt : (atI).tmod (x.size : Int) = (m : Int) := by rw [Int.tmod_eq_emod_of_nonneg (by omega)]; exact hm
  clear hx
  have hneg : ¬ atI < 0 := by omega
  have HB := Lib.hid HC
  clear HC
  have HS := Lib.hid ((St.start (ag_emp w)).alloc (.cells (askC id addr a b c d kd) 26))
  go_enter Tryd.func3, Tryd.ntmps3
  go_wp2_with fail
  refine (examples_any _).mono ?_
  rintro z w1 ⟨rfl, hb1⟩
  have HS1 := Lib.hid (HS.out.grow hb1)
  clear HS hb1
  go_wp2_with (first
    | (refine wpList_load_st (cs := askC id addr a b c d kd) 0 HS1.out rfl rfl 26 (.tmp 5) rfl rfl _ Tryd.underlying26 rfl szAsk ?_)
    | fail)
  refine (HB.out.pa _).mono ?_
  rintro z w2 ⟨rfl, hb2⟩
  have HS2 := Lib.hid (HS1.out.grow hb2)
  clear HS1 hb2
  go_wp2_with (first
    | (refine wpList_load_st (cs := askC id addr a b c d kd) 0 HS2.out rfl rfl 26 (.tmp 5) rfl rfl _ Tryd.underlying26 rfl szAsk ?_)
    | fail)
  refine (refAsk_any _ _ _ _ _ _ _ _).mono ?_
  rintro z w3 ⟨rfl, hb3⟩
  have HS3 := Lib.hid (HS2.out.grow hb3)
  clear HS2 hb3
  go_wp2_with fail
  refine (HB.out.pr _).mono ?_
  rintro z w4 ⟨rfl, hb4⟩
  have HS4 := Lib.hid (HS3.out.grow hb4)
  clear HS3 hb4
  have hconv := Lib.run_convert_string_bytes (P := Tryd.prog) w4 9 33 5 x Tryd.underlying9 Tryd.underlying33 Tryd.underlying5
  obtain ⟨r, S15⟩ := bytes_st HS4.out x
  obtain ⟨W, hW⟩ : ∃ W, W = Lib.bytesWorld w4 5 x := ⟨_, rfl⟩
  rw [← hW] at hconv S15
  have HS15 := Lib.hid S15
  have hj : m < x.size := by omega
  have hjL : m < x.data.toList.length := by rw [sizeL]; exact hj
  have hcell : W.cell? ⟨w4.heap.size, m, none⟩ = some (.int .u8 (x.data.toList.getD m 0).toNat) := S15.cell 0 rfl (bytesO_at hjL)
  have hfr : W.frozen? ⟨w4.heap.size, m, none⟩ = false := bytesO_frozen (S15.blk_at 0 rfl) hjL
  obtain ⟨v0, hv0⟩ : ∃ v0, v0 = x.data.toList.getD m 0 := ⟨_, rfl⟩
  rw [← hv0] at hcell
  have HW := Lib.hid hW
  have hi1 : (0 : Int) ≤ (m : Int) := by omega
  obtain ⟨y, hy⟩ := turnB v0 hby0 hby1
  clear S15 hv0 HS4 hW
  go_wp2_with fail
  go_region
  have hset : ((x.data.toList.map fun b => Value.int .u8 b.toNat).toArray ++ Array.replicate r (Value.int .u8 0)).setIfInBounds m (.int .u8 y.toNat) = _ := bytesO_set hjL y
  have S16 := (HS15.out.setCell (j := m) 0 rfl (.int .u8 y.toNat)).drew
  rw [hset] at S16
  have hlen : (x.data.toList.set m y).length = x.size := by rw [List.length_set, sizeL]
  obtain ⟨W2, hW2⟩ : ∃ W2, W2 = (W.setCell ⟨w4.heap.size, m, none⟩ (.int .u8 y.toNat)).drew := ⟨_, rfl⟩
  have S17 : St empH w none_ empH W2 [blk w4.heap.size (bytesO (x.data.toList.set m y) r)] := by
    rw [hW2]
    have := (S16.drop 1)
    unfold bytesO
    rw [List.length_set]
    exact this
  rw [← hW2]
  have hconv2 := bytesO_conv (cap := grownCap w4 x.size 0 5) (S17.blk_at 0 rfl)
  rw [hlen] at hconv2
  have HS4 := Lib.hid S17
  clear S16 S17 hset hW2 HS15 hlen hcell hfr hconv
  go_wp2_with fail
  refine (getAskS _ _).mono ?_
  intro e w5 hG
  obtain ⟨id', addr', a', b', c', d', kd', fl, rfl⟩ := getAsk_form hG
  have HG := Lib.hid hG
  have HS5 := Lib.hid ((HS4.out.grow hG.2).alloc (.cells zAsk 26))
  clear HS4 hG
  go_wp2_with (first
    | (refine wpList_store_st (cs := askC id' addr' a' b' c' d' kd') 0 HS5.out rfl rfl 26 (.tmp 17) (.tmp 67) rfl rfl rfl szAsk rfl (oneAsk _ _ _ _ _ _ _) ?_)
    | fail)
  intro w6 S6
  have HS6 := Lib.hid S6
  clear HS5 S6
  go_wp2_with fail
  refine (rgetAskS _ _).mono ?_
  rintro z w7 ⟨o, hR, rfl, hb7⟩
  have hsame := same_ask hR HG.out
  simp only [Ending.returned.injEq, Value.tuple.injEq, Array.mk.injEq, List.cons.injEq, Value.agg.injEq, Value.bool.injEq, and_true] at hsame
  rw [← hsame.1, ← hsame.2]
  have HS7 := Lib.hid ((HS6.out.grow hb7).alloc (.cells zAsk 31))
  clear hb7 HS6 hR hsame HG
  go_wp2_with (first
    | (refine wpList_store_st (cs := askC id' addr' a' b' c' d' kd') 0 HS7.out rfl rfl 31 (.tmp 19) (.tmp 72) rfl rfl rfl szRAsk rfl (oneAsk _ _ _ _ _ _ _) ?_)
    | fail)
  intro w8 S8
  obtain ⟨W, hW⟩ : ∃ W, W = w8 := ⟨_, rfl⟩
  have HS8 : Hid (St empH w none_ empH w8 [blk w7.heap.size (.cells (askC id' addr' a' b' c' d' kd') 31), blk w5.heap.size (.cells (askC id' addr' a' b' c' d' kd') 26)]) := S8.drop 2
  clear HS7 S8
  go_wp2_with fail
  have p0 : ∀ w', Below w8.heap.size w8 w' → w'.cell? ⟨w5.heap.size, 0, none⟩ = some (.int .u64 id') := fun w' h => (HS8.out.grow h).cell 1 rfl rfl
  have p1 : ∀ w', Below w8.heap.size w8 w' → w'.cell? ⟨w5.heap.size, 1, none⟩ = some (.string addr') := fun w' h => (HS8.out.grow h).cell 1 rfl rfl
  have p2 : ∀ w', Below w8.heap.size w8 w' → w'.cell? ⟨w5.heap.size, 2, none⟩ = some (.int .u64 a') := fun w' h => (HS8.out.grow h).cell 1 rfl rfl
  have p3 : ∀ w', Below w8.heap.size w8 w' → w'.cell? ⟨w5.heap.size, 3, none⟩ = some (.int .u64 b') := fun w' h => (HS8.out.grow h).cell 1 rfl rfl
  have p4 : ∀ w', Below w8.heap.size w8 w' → w'.cell? ⟨w5.heap.size, 4, none⟩ = some (.int .u64 c') := fun w' h => (HS8.out.grow h).cell 1 rfl rfl
  have p5 : ∀ w', Below w8.heap.size w8 w' → w'.cell? ⟨w5.heap.size, 5, none⟩ = some (.int .u64 d') := fun w' h => (HS8.out.grow h).cell 1 rfl rfl
  have p6 : ∀ w', Below w8.heap.size w8 w' → w'.cell? ⟨w5.heap.size, 6, none⟩ = some (.int .i64 kd') := fun w' h => (HS8.out.grow h).cell 1 rfl rfl
  have q0 : ∀ w', Below w8.heap.size w8 w' → w'.cell? ⟨w7.heap.size, 0, none⟩ = some (.int .u64 id') := fun w' h => (HS8.out.grow h).cell 0 rfl rfl
  have q1 : ∀ w', Below w8.heap.size w8 w' → w'.cell? ⟨w7.heap.size, 1, none⟩ = some (.string addr') := fun w' h => (HS8.out.grow h).cell 0 rfl rfl
  have q2 : ∀ w', Below w8.heap.size w8 w' → w'.cell? ⟨w7.heap.size, 2, none⟩ = some (.int .u64 a') := fun w' h => (HS8.out.grow h).cell 0 rfl rfl
  have q3 : ∀ w', Below w8.heap.size w8 w' → w'.cell? ⟨w7.heap.size, 3, none⟩ = some (.int .u64 b') := fun w' h => (HS8.out.grow h).cell 0 rfl rfl
  have q4 : ∀ w', Below w8.heap.size w8 w' → w'.cell? ⟨w7.heap.size, 4, none⟩ = some (.int .u64 c') := fun w' h => (HS8.out.grow h).cell 0 rfl rfl
  have q5 : ∀ w', Below w8.heap.size w8 w' → w'.cell? ⟨w7.heap.size, 5, none⟩ = some (.int .u64 d') := fun w' h => (HS8.out.grow h).cell 0 rfl rfl
  have q6 : ∀ w', Below w8.heap.size w8 w' → w'.cell? ⟨w7.heap.size, 6, none⟩ = some (.int .i64 kd') := fun w' h => (HS8.out.grow h).cell 0 rfl rfl
  have heq : ∀ w, (binOp .eql 31 (.agg #[.int .u64 id', .string addr', .int .u64 a', .int .u64 b', .int .u64 c', .int .u64 d', .int .i64 kd']) (.agg #[.int .u64 id', .string addr', .int .u64 a', .int .u64 b', .int .u64 c', .int .u64 d', .int .i64 kd'])).run Tryd.prog w = .ok (.bool true) w := fun w => eqRAskB id' addr' a' b' c' d' kd' w
  have heg : ∀ x y w, (eqGuard .eql 31 x y (.agg #[.int .u64 id', .string addr', .int .u64 a', .int .u64 b', .int .u64 c', .int .u64 d', .int .i64 kd']) (.agg #[.int .u64 id', .string addr', .int .u64 a', .int .u64 b', .int .u64 c', .int .u64 d', .int .i64 kd'])).run Tryd.prog w = .ok () w := fun x y w => eqgRAsk x y _ _ w
  go_region_held3 (fun w' => Below w8.heap.size w8 w') (repeat (first | assumption | exact Below.refl _ _ | apply Below.drew | (refine Below.alloc ?_ (by first | exact Nat.le_refl _ | exact Below.size (by assumption) | simp) _))) (first
    | (go_at_call 14; refine (retFrom (W := w8) ?_ (refAskE id' addr' a' b' c' d' kd' _)).mono ?_; (first | assumption | exact (Below.refl _ _).drew); rintro z w9 ⟨rfl, hb9⟩))
  have HB9 := Lib.hid ((HS8.out.grow hb9).below)
  go_wp2_with fail
  exact bodyPost_ret (v := .bool true) (by simp [results, Tryd.results3, go_sem]) rfl ⟨rfl, HB9.out⟩
set_option maxRecDepth 100000 in
set_option maxHeartbeats 4000000 in
theorem asks_neg (id : Int) (addr : ByteArray) (a b c d kd : Int) (s : ByteArray) (atI byI : Int) (w : World) {x : ByteArray} {ok : Bool} (HC : AskCalls id addr a b c d kd x ok) (hx : x ≠ ⟨#[]⟩) (hsz : x.size ≤ 1000000) (hat : atI < 0) (hat2 : -9223372036854775808 ≤ atI) (hby0 : 0 ≤ byI) (hby1 : byI < 256) : Calls Tryd.prog 3 #[.agg (askC id addr a b c d kd), .string s, .bool true, .int .i64 atI, .int .u8 byI] w (RetV (.bool true) w) := by
  -- the byte that is turned
  have hxs : 0 < x.size := by
    rcases Nat.eq_zero_or_pos x.size with h | h
    · exact absurd (ByteArray.ext (Array.eq_empty_of_size_eq_zero h)) hx
    · exact h
  have e0 : (x.toList == ([] : List UInt8)) = false := by
    rw [beq_eq_false_iff_ne, ByteArray.toList_eq]
    intro h
    exact hx (ByteArray.ext (Array.toList_inj.1 h))
  have e0b : x.toList.isEmpty = false := by rw [List.isEmpty_eq_false_iff]; intro h; rw [h] at e0; cases e0
  obtain ⟨m, hm⟩ : ∃ m : Nat, (-(atI + 1)) % (x.size : Int) = (m : Int) := ⟨((-(atI + 1)) % (x.size : Int)).toNat, (Int.toNat_of_nonneg (Int.emod_nonneg _ (by omega))).symm⟩
  have hm8 : (m : Int) < (x.size : Int) := hm ▸ Int.emod_lt_of_pos _ (by omega)
  have hmt : ((-(atI + 1))).tmod (x.size : Int) = (m : Int) := by rw [Int.tmod_eq_emod_of_nonneg (by omega)]; exact hm
  clear hx
  have hw1 : IntKind.i64.wrap (atI + 1) = atI + 1 := IntWalk.i64_in _ (by omega)
  have HB := Lib.hid HC
  clear HC
  have HS := Lib.hid ((St.start (ag_emp w)).alloc (.cells (askC id addr a b c d kd) 26))
  go_enter Tryd.func3, Tryd.ntmps3
  go_wp2_with fail
  refine (examples_any _).mono ?_
  rintro z w1 ⟨rfl, hb1⟩
  have HS1 := Lib.hid (HS.out.grow hb1)
  clear HS hb1
  go_wp2_with (first
    | (refine wpList_load_st (cs := askC id addr a b c d kd) 0 HS1.out rfl rfl 26 (.tmp 5) rfl rfl _ Tryd.underlying26 rfl szAsk ?_)
    | fail)
  refine (HB.out.pa _).mono ?_
  rintro z w2 ⟨rfl, hb2⟩
  have HS2 := Lib.hid (HS1.out.grow hb2)
  clear HS1 hb2
  go_wp2_with (first
    | (refine wpList_load_st (cs := askC id addr a b c d kd) 0 HS2.out rfl rfl 26 (.tmp 5) rfl rfl _ Tryd.underlying26 rfl szAsk ?_)
    | fail)
  refine (refAsk_any _ _ _ _ _ _ _ _).mono ?_
  rintro z w3 ⟨rfl, hb3⟩
  have HS3 := Lib.hid (HS2.out.grow hb3)
  clear HS2 hb3
  go_wp2_with fail
  refine (HB.out.pr _).mono ?_
  rintro z w4 ⟨rfl, hb4⟩
  have HS4 := Lib.hid (HS3.out.grow hb4)
  clear HS3 hb4
  have hconv := Lib.run_convert_string_bytes (P := Tryd.prog) w4 9 33 5 x Tryd.underlying9 Tryd.underlying33 Tryd.underlying5
  obtain ⟨r, S15⟩ := bytes_st HS4.out x
  obtain ⟨W, hW⟩ : ∃ W, W = Lib.bytesWorld w4 5 x := ⟨_, rfl⟩
  rw [← hW] at hconv S15
  have HS15 := Lib.hid S15
  have hj : m < x.size := by omega
  have hjL : m < x.data.toList.length := by rw [sizeL]; exact hj
  have hcell : W.cell? ⟨w4.heap.size, m, none⟩ = some (.int .u8 (x.data.toList.getD m 0).toNat) := S15.cell 0 rfl (bytesO_at hjL)
  have hfr : W.frozen? ⟨w4.heap.size, m, none⟩ = false := bytesO_frozen (S15.blk_at 0 rfl) hjL
  obtain ⟨v0, hv0⟩ : ∃ v0, v0 = x.data.toList.getD m 0 := ⟨_, rfl⟩
  rw [← hv0] at hcell
  have HW := Lib.hid hW
  have hi1 : (0 : Int) ≤ (m : Int) := by omega
  obtain ⟨y, hy⟩ := turnB v0 hby0 hby1
  clear S15 hv0 HS4 hW
  go_wp2_with fail
  go_region
  have hset : ((x.data.toList.map fun b => Value.int .u8 b.toNat).toArray ++ Array.replicate r (Value.int .u8 0)).setIfInBounds m (.int .u8 y.toNat) = _ := bytesO_set hjL y
  have S16 := (HS15.out.setCell (j := m) 0 rfl (.int .u8 y.toNat)).drew
  rw [hset] at S16
  have hlen : (x.data.toList.set m y).length = x.size := by rw [List.length_set, sizeL]
  obtain ⟨W2, hW2⟩ : ∃ W2, W2 = (W.setCell ⟨w4.heap.size, m, none⟩ (.int .u8 y.toNat)).drew := ⟨_, rfl⟩
  have S17 : St empH w none_ empH W2 [blk w4.heap.size (bytesO (x.data.toList.set m y) r)] := by
    rw [hW2]
    have := (S16.drop 1)
    unfold bytesO
    rw [List.length_set]
    exact this
  rw [← hW2]
  have hconv2 := bytesO_conv (cap := grownCap w4 x.size 0 5) (S17.blk_at 0 rfl)
  rw [hlen] at hconv2
  have HS4 := Lib.hid S17
  clear S16 S17 hset hW2 HS15 hlen hcell hfr hconv
  go_wp2_with fail
  refine (getAskS _ _).mono ?_
  intro e w5 hG
  obtain ⟨id', addr', a', b', c', d', kd', fl, rfl⟩ := getAsk_form hG
  have HG := Lib.hid hG
  have HS5 := Lib.hid ((HS4.out.grow hG.2).alloc (.cells zAsk 26))
  clear HS4 hG
  go_wp2_with (first
    | (refine wpList_store_st (cs := askC id' addr' a' b' c' d' kd') 0 HS5.out rfl rfl 26 (.tmp 17) (.tmp 67) rfl rfl rfl szAsk rfl (oneAsk _ _ _ _ _ _ _) ?_)
    | fail)
  intro w6 S6
  have HS6 := Lib.hid S6
  clear HS5 S6
  go_wp2_with fail
  refine (rgetAskS _ _).mono ?_
  rintro z w7 ⟨o, hR, rfl, hb7⟩
  have hsame := same_ask hR HG.out
  simp only [Ending.returned.injEq, Value.tuple.injEq, Array.mk.injEq, List.cons.injEq, Value.agg.injEq, Value.bool.injEq, and_true] at hsame
  rw [← hsame.1, ← hsame.2]
  have HS7 := Lib.hid ((HS6.out.grow hb7).alloc (.cells zAsk 31))
  clear hb7 HS6 hR hsame HG
  go_wp2_with (first
    | (refine wpList_store_st (cs := askC id' addr' a' b' c' d' kd') 0 HS7.out rfl rfl 31 (.tmp 19) (.tmp 72) rfl rfl rfl szRAsk rfl (oneAsk _ _ _ _ _ _ _) ?_)
    | fail)
  intro w8 S8
  obtain ⟨W, hW⟩ : ∃ W, W = w8 := ⟨_, rfl⟩
  have HS8 : Hid (St empH w none_ empH w8 [blk w7.heap.size (.cells (askC id' addr' a' b' c' d' kd') 31), blk w5.heap.size (.cells (askC id' addr' a' b' c' d' kd') 26)]) := S8.drop 2
  clear HS7 S8
  go_wp2_with fail
  have p0 : ∀ w', Below w8.heap.size w8 w' → w'.cell? ⟨w5.heap.size, 0, none⟩ = some (.int .u64 id') := fun w' h => (HS8.out.grow h).cell 1 rfl rfl
  have p1 : ∀ w', Below w8.heap.size w8 w' → w'.cell? ⟨w5.heap.size, 1, none⟩ = some (.string addr') := fun w' h => (HS8.out.grow h).cell 1 rfl rfl
  have p2 : ∀ w', Below w8.heap.size w8 w' → w'.cell? ⟨w5.heap.size, 2, none⟩ = some (.int .u64 a') := fun w' h => (HS8.out.grow h).cell 1 rfl rfl
  have p3 : ∀ w', Below w8.heap.size w8 w' → w'.cell? ⟨w5.heap.size, 3, none⟩ = some (.int .u64 b') := fun w' h => (HS8.out.grow h).cell 1 rfl rfl
  have p4 : ∀ w', Below w8.heap.size w8 w' → w'.cell? ⟨w5.heap.size, 4, none⟩ = some (.int .u64 c') := fun w' h => (HS8.out.grow h).cell 1 rfl rfl
  have p5 : ∀ w', Below w8.heap.size w8 w' → w'.cell? ⟨w5.heap.size, 5, none⟩ = some (.int .u64 d') := fun w' h => (HS8.out.grow h).cell 1 rfl rfl
  have p6 : ∀ w', Below w8.heap.size w8 w' → w'.cell? ⟨w5.heap.size, 6, none⟩ = some (.int .i64 kd') := fun w' h => (HS8.out.grow h).cell 1 rfl rfl
  have q0 : ∀ w', Below w8.heap.size w8 w' → w'.cell? ⟨w7.heap.size, 0, none⟩ = some (.int .u64 id') := fun w' h => (HS8.out.grow h).cell 0 rfl rfl
  have q1 : ∀ w', Below w8.heap.size w8 w' → w'.cell? ⟨w7.heap.size, 1, none⟩ = some (.string addr') := fun w' h => (HS8.out.grow h).cell 0 rfl rfl
  have q2 : ∀ w', Below w8.heap.size w8 w' → w'.cell? ⟨w7.heap.size, 2, none⟩ = some (.int .u64 a') := fun w' h => (HS8.out.grow h).cell 0 rfl rfl
  have q3 : ∀ w', Below w8.heap.size w8 w' → w'.cell? ⟨w7.heap.size, 3, none⟩ = some (.int .u64 b') := fun w' h => (HS8.out.grow h).cell 0 rfl rfl
  have q4 : ∀ w', Below w8.heap.size w8 w' → w'.cell? ⟨w7.heap.size, 4, none⟩ = some (.int .u64 c') := fun w' h => (HS8.out.grow h).cell 0 rfl rfl
  have q5 : ∀ w', Below w8.heap.size w8 w' → w'.cell? ⟨w7.heap.size, 5, none⟩ = some (.int .u64 d') := fun w' h => (HS8.out.grow h).cell 0 rfl rfl
  have q6 : ∀ w', Below w8.heap.size w8 w' → w'.cell? ⟨w7.heap.size, 6, none⟩ = some (.int .i64 kd') := fun w' h => (HS8.out.grow h).cell 0 rfl rfl
  have heq : ∀ w, (binOp .eql 31 (.agg #[.int .u64 id', .string addr', .int .u64 a', .int .u64 b', .int .u64 c', .int .u64 d', .int .i64 kd']) (.agg #[.int .u64 id', .string addr', .int .u64 a', .int .u64 b', .int .u64 c', .int .u64 d', .int .i64 kd'])).run Tryd.prog w = .ok (.bool true) w := fun w => eqRAskB id' addr' a' b' c' d' kd' w
  have heg : ∀ x y w, (eqGuard .eql 31 x y (.agg #[.int .u64 id', .string addr', .int .u64 a', .int .u64 b', .int .u64 c', .int .u64 d', .int .i64 kd']) (.agg #[.int .u64 id', .string addr', .int .u64 a', .int .u64 b', .int .u64 c', .int .u64 d', .int .i64 kd'])).run Tryd.prog w = .ok () w := fun x y w => eqgRAsk x y _ _ w
  go_region_held3 (fun w' => Below w8.heap.size w8 w') (repeat (first | assumption | exact Below.refl _ _ | apply Below.drew | (refine Below.alloc ?_ (by first | exact Nat.le_refl _ | exact Below.size (by assumption) | simp) _))) (first
    | (go_at_call 14; refine (retFrom (W := w8) ?_ (refAskE id' addr' a' b' c' d' kd' _)).mono ?_; (first | assumption | exact (Below.refl _ _).drew); rintro z w9 ⟨rfl, hb9⟩))
  have HB9 := Lib.hid ((HS8.out.grow hb9).below)
  go_wp2_with fail
  exact bodyPost_ret (v := .bool true) (by simp [results, Tryd.results3, go_sem]) rfl ⟨rfl, HB9.out⟩
theorem put_size {id : Int} {addr : ByteArray} {a b c d kd : Int} : (putAskR id addr a b c d kd).1.size ≤ 1000000 := by
  by_cases h : AskOk id addr a b c d kd
  · rw [putAskR_ok h]
    have := askTs_len (id := id) (a := a) (b := b) (c := c) (d := d) (kind := kd) h.1
    have h2 := sizeL (putL (askTs id addr a b c d kd))
    show (putL (askTs id addr a b c d kd)).size ≤ 1000000
    omega
  · rw [putAskR_no h]
    exact Nat.zero_le _
theorem asks_all (id : Int) (addr : ByteArray) (a b c d kd : Int) (s : ByteArray) (own : Bool) (atI byI : Int) (hid : W64 id) (ha : W64 a) (hb : W64 b) (hc : W64 c) (hd : W64 d) (hat : -9223372036854775808 ≤ atI ∧ atI < 9223372036854775808) (hby : 0 ≤ byI ∧ byI < 256) (w : World) :
    Calls Tryd.prog 3 #[.agg (askC id addr a b c d kd), .string s, .bool own, .int .i64 atI, .int .u8 byI] w (RetV (.bool true) w) := by
  have HC : AskCalls id addr a b c d kd (putAskR id addr a b c d kd).1 (putAskR id addr a b c d kd).2 := ⟨putAsk_all id addr a b c d kd, rputAsk_all id addr a b c d kd hid ha hb hc hd⟩
  cases own with
  | false => exact asks_off id addr a b c d kd s atI byI w HC
  | true =>
    by_cases hx : (putAskR id addr a b c d kd).1 = ⟨#[]⟩
    · exact asks_none id addr a b c d kd s atI byI w HC hx
    · by_cases hn : atI < 0
      · exact asks_neg id addr a b c d kd s atI byI w HC hx put_size hn hat.1 hby.1 hby.2
      · exact asks_on id addr a b c d kd s atI byI w HC hx put_size (by omega) hat.2 hby.1 hby.2
end Go.Proofs.YtfphlkkhpccpnaaDoor
