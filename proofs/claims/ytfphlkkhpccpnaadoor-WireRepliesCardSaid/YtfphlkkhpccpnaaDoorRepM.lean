/-
  The document's own PutAsk.
  The document's own GetAsk.
  The document's own PutReply.
  The document's own PutReply: a reply of an account; all.
  What the document's own GetReply tells.
  The document's GetAsk and the program's tell the same: plain.
  What is read was written: plain.
  The document's own GetReply.
  The document's GetReply and the program's tell the same: plain.
  WireReplies.
-/
import Derived.Test.YtfphlkkhpccpnaaDoorRefA
import Derived.Test.YtfphlkkhpccpnaaDoorGetAsk
import Derived.Test.YtfphlkkhpccpnaaDoorPlRep
import Derived.Test.YtfphlkkhpccpnaaDoorMid
import Derived.Test.YtfphlkkhpccpnaaDoorGetRep
import Derived.Test.YtfphlkkhpccpnaaDoorBackW
namespace Go.Proofs.YtfphlkkhpccpnaaDoor
open Go.RowKit Go.Proofs K
set_option linter.unusedVariables false

theorem szRItemP : (Tryd.prog.info? 84).map (·.size) = some 3 := by kernel_rfl
theorem infoRItemP : (Tryd.prog.info? 84).map (fun i => (i.zero, i.size, i.bytes)) = some (some (.agg #[.bool false, .string ⟨#[]⟩, .slice none 0 0]), 3, 48) := by kernel_rfl
theorem wrapU_bd (n : Int) : W64 (IntKind.u64.wrap n) := by
  unfold W64
  simp [IntKind.wrap, IntKind.bits, IntKind.signed]
  omega
set_option maxRecDepth 100000 in
theorem rnumber_any (n : Int) (h : W64 n) (w : World) : Calls Tryd.prog 38 #[.int .u64 n] w (RetV (.agg #[.bool false, .string (numS n), .slice none 0 0]) w) := by
  obtain ⟨m, rfl⟩ := Int.eq_ofNat_of_zero_le h.1
  have hm : m < 18446744073709551616 := by have := h.2; omega
  have HB := Lib.hid (rbytes_any m hm)
  have HS := Lib.hid ((St.start (ag_emp w)).alloc (.cells #[.bool false, .string ⟨#[]⟩, .slice none 0 0] 84))
  clear h hm
  go_enter Tryd.func38, Tryd.ntmps38
  go_wp2_with fail
  refine (HB.out _).mono ?_
  rintro e w1 ⟨rfl, hb1⟩
  have HS1 := Lib.hid (HS.out.grow hb1)
  clear HS hb1
  go_wp2_with (first
    | (refine wpList_store_st (cs := #[.bool false, .string (numS (m : Int)), .slice none 0 0]) 0 HS1.out rfl rfl 84 (.tmp 2) (.tmp 5) rfl rfl rfl szRItemP rfl (oneItem _ _ _ _ _) ?_)
    | fail)
  intro w4 S4
  go_wp2_with fail
  exact post_cell 0 S4 rfl Tryd.results38 rfl _ Tryd.underlying84 rfl szRItemP rfl ⟨rfl, S4.below⟩
set_option maxRecDepth 100000 in
theorem rtext_any (s : ByteArray) (w : World) : Calls Tryd.prog 39 #[.string s] w (RetV (.agg #[.bool false, .string s, .slice none 0 0]) w) := by
  have HS := Lib.hid ((St.start (ag_emp w)).alloc (.cells #[.bool false, .string ⟨#[]⟩, .slice none 0 0] 84))
  go_enter Tryd.func39, Tryd.ntmps39
  go_wp2_with (first
    | (refine wpList_store_st (cs := #[.bool false, .string s, .slice none 0 0]) 0 HS.out rfl rfl 84 (.tmp 2) (.tmp 4) rfl rfl rfl szRItemP rfl (oneItem _ _ _ _ _) ?_)
    | fail)
  intro w4 S4
  go_wp2_with fail
  exact post_cell 0 S4 rfl Tryd.results39 rfl _ Tryd.underlying84 rfl szRItemP rfl ⟨rfl, S4.below⟩
set_option maxRecDepth 100000 in
set_option maxHeartbeats 2000000 in
theorem rputAsk_kind (id : Int) (addr : ByteArray) (a b c d kind : Int) (h1 : kind ≠ 1) (h2 : kind ≠ 2) (w : World) : Calls Tryd.prog 13 #[.agg (askC id addr a b c d kind)] w (RetV (.tuple #[.string ⟨#[]⟩, .bool false]) w) := by
  have m1 : (kind == 1) = false := beq_eq_false_iff_ne.2 (by omega)
  have m2 : (kind == 2) = false := beq_eq_false_iff_ne.2 (by omega)
  have n1 : (kind != 1) = true := by rw [bne, m1]; rfl
  have n2 : (kind != 2) = true := by rw [bne, m2]; rfl
  obtain ⟨W, hW⟩ : ∃ W, W = w.alloc (.cells (askC id addr a b c d kind) 31) := ⟨_, rfl⟩
  have HS : Hid (St empH w none_ empH W [blk w.heap.size (.cells (askC id addr a b c d kind) 31)]) := by rw [hW]; exact (St.start (ag_emp w)).alloc _
  have f0 : ∀ w', Below W.heap.size W w' → w'.cell? ⟨w.heap.size, 0, none⟩ = some (.int .u64 id) := fun w' h => (HS.out.grow h).cell 0 rfl rfl
  have f1 : ∀ w', Below W.heap.size W w' → w'.cell? ⟨w.heap.size, 1, none⟩ = some (.string addr) := fun w' h => (HS.out.grow h).cell 0 rfl rfl
  have f6 : ∀ w', Below W.heap.size W w' → w'.cell? ⟨w.heap.size, 6, none⟩ = some (.int .i64 kind) := fun w' h => (HS.out.grow h).cell 0 rfl rfl
  have HW := Lib.hid hW
  clear hW
  simp only [askC]
  go_enter Tryd.func13, Tryd.ntmps13
  go_wp2_with fail
  have eW := HW.out
  simp only [askC] at eW
  rw [← eW]
  clear eW
  go_ret2
  exact ⟨rfl, HS.out.below⟩
set_option maxRecDepth 100000 in
set_option maxHeartbeats 2000000 in
theorem rputAsk_size (id : Int) (addr : ByteArray) (a b c d kind : Int) (hk12 : kind = 1 ∨ kind = 2) (h20 : addr.size ≠ 20) (w : World) : Calls Tryd.prog 13 #[.agg (askC id addr a b c d kind)] w (RetV (.tuple #[.string ⟨#[]⟩, .bool false]) w) := by
  rcases hk12 with hk | hk
  · have m1 : (kind == 1) = true := beq_iff_eq.2 hk
    have m2 : (kind == 2) = false := beq_eq_false_iff_ne.2 (by omega)
    have n1 : (kind != 1) = false := by rw [bne, m1]; rfl
    have n2 : (kind != 2) = true := by rw [bne, m2]; rfl
    have e20 : ((addr.size : Int) == 20) = false := by rw [beq_eq_false_iff_ne]; omega
    have e20' : ((addr.size : Int) != 20) = true := by rw [bne, e20]; rfl
    clear hk h20
    obtain ⟨W, hW⟩ : ∃ W, W = w.alloc (.cells (askC id addr a b c d kind) 31) := ⟨_, rfl⟩
    have HS : Hid (St empH w none_ empH W [blk w.heap.size (.cells (askC id addr a b c d kind) 31)]) := by rw [hW]; exact (St.start (ag_emp w)).alloc _
    have f0 : ∀ w', Below W.heap.size W w' → w'.cell? ⟨w.heap.size, 0, none⟩ = some (.int .u64 id) := fun w' h => (HS.out.grow h).cell 0 rfl rfl
    have f1 : ∀ w', Below W.heap.size W w' → w'.cell? ⟨w.heap.size, 1, none⟩ = some (.string addr) := fun w' h => (HS.out.grow h).cell 0 rfl rfl
    have f6 : ∀ w', Below W.heap.size W w' → w'.cell? ⟨w.heap.size, 6, none⟩ = some (.int .i64 kind) := fun w' h => (HS.out.grow h).cell 0 rfl rfl
    have HW := Lib.hid hW
    clear hW
    simp only [askC]
    go_enter Tryd.func13, Tryd.ntmps13
    go_wp2_with fail
    have eW := HW.out
    simp only [askC] at eW
    rw [← eW]
    clear eW
    go_ret2
    exact ⟨rfl, HS.out.below⟩
  · have m1 : (kind == 1) = false := beq_eq_false_iff_ne.2 (by omega)
    have m2 : (kind == 2) = true := beq_iff_eq.2 hk
    have n1 : (kind != 1) = true := by rw [bne, m1]; rfl
    have n2 : (kind != 2) = false := by rw [bne, m2]; rfl
    have e20 : ((addr.size : Int) == 20) = false := by rw [beq_eq_false_iff_ne]; omega
    have e20' : ((addr.size : Int) != 20) = true := by rw [bne, e20]; rfl
    clear hk h20
    obtain ⟨W, hW⟩ : ∃ W, W = w.alloc (.cells (askC id addr a b c d kind) 31) := ⟨_, rfl⟩
    have HS : Hid (St empH w none_ empH W [blk w.heap.size (.cells (askC id addr a b c d kind) 31)]) := by rw [hW]; exact (St.start (ag_emp w)).alloc _
    have f0 : ∀ w', Below W.heap.size W w' → w'.cell? ⟨w.heap.size, 0, none⟩ = some (.int .u64 id) := fun w' h => (HS.out.grow h).cell 0 rfl rfl
    have f1 : ∀ w', Below W.heap.size W w' → w'.cell? ⟨w.heap.size, 1, none⟩ = some (.string addr) := fun w' h => (HS.out.grow h).cell 0 rfl rfl
    have f6 : ∀ w', Below W.heap.size W w' → w'.cell? ⟨w.heap.size, 6, none⟩ = some (.int .i64 kind) := fun w' h => (HS.out.grow h).cell 0 rfl rfl
    have HW := Lib.hid hW
    clear hW
    simp only [askC]
    go_enter Tryd.func13, Tryd.ntmps13
    go_wp2_with fail
    have eW := HW.out
    simp only [askC] at eW
    rw [← eW]
    clear eW
    go_ret2
    exact ⟨rfl, HS.out.below⟩
set_option maxRecDepth 100000 in
set_option maxHeartbeats 2000000 in
theorem rputAsk_slot (id : Int) (addr : ByteArray) (a b c d kind : Int) (hk : kind = 1) (h20 : addr.size = 20) (hz : ¬ (a = 0 ∧ b = 0 ∧ c = 0 ∧ d = 0)) (w : World) : Calls Tryd.prog 13 #[.agg (askC id addr a b c d kind)] w (RetV (.tuple #[.string ⟨#[]⟩, .bool false]) w) := by
  have m1 : (kind == 1) = true := beq_iff_eq.2 hk
  have m2 : (kind == 2) = false := beq_eq_false_iff_ne.2 (by omega)
  have n1 : (kind != 1) = false := by rw [bne, m1]; rfl
  have n2 : (kind != 2) = true := by rw [bne, m2]; rfl
  have e20 : ((addr.size : Int) == 20) = true := by rw [beq_iff_eq]; omega
  have e20' : ((addr.size : Int) != 20) = false := by rw [bne, e20]; rfl
  have HZ := Lib.hid hz
  clear hk h20 hz
  obtain ⟨W, hW⟩ : ∃ W, W = w.alloc (.cells (askC id addr a b c d kind) 31) := ⟨_, rfl⟩
  have HS : Hid (St empH w none_ empH W [blk w.heap.size (.cells (askC id addr a b c d kind) 31)]) := by rw [hW]; exact (St.start (ag_emp w)).alloc _
  have f0 : ∀ w', Below W.heap.size W w' → w'.cell? ⟨w.heap.size, 0, none⟩ = some (.int .u64 id) := fun w' h => (HS.out.grow h).cell 0 rfl rfl
  have f1 : ∀ w', Below W.heap.size W w' → w'.cell? ⟨w.heap.size, 1, none⟩ = some (.string addr) := fun w' h => (HS.out.grow h).cell 0 rfl rfl
  have f6 : ∀ w', Below W.heap.size W w' → w'.cell? ⟨w.heap.size, 6, none⟩ = some (.int .i64 kind) := fun w' h => (HS.out.grow h).cell 0 rfl rfl
  have HW := Lib.hid hW
  clear hW
  simp only [askC]
  go_enter Tryd.func13, Tryd.ntmps13
  go_wp2_with fail
  all_goals first | (refine (HZ.out ⟨?_, ?_, ?_, ?_⟩).elim <;> assumption) | (go_ret2; exact ⟨rfl, (Below.refl _ _).alloc (Nat.le_refl _) _⟩)
set_option maxRecDepth 100000 in
set_option maxHeartbeats 2000000 in
theorem rputAsk_one (id : Int) (addr : ByteArray) (a b c d kind : Int) (hid : W64 id) (hk : kind = 1) (h20 : addr.size = 20) (hz : a = 0 ∧ b = 0 ∧ c = 0 ∧ d = 0) (w : World) : Calls Tryd.prog 13 #[.agg (askC id addr a b c d kind)] w (RetV (.tuple #[.string (putL [numS id, numS (IntKind.u64.wrap 1), addr]), .bool true]) w) := by
  have m1 : (kind == 1) = true := beq_iff_eq.2 hk
  have m2 : (kind == 2) = false := beq_eq_false_iff_ne.2 (by omega)
  have n1 : (kind != 1) = false := by rw [bne, m1]; rfl
  have n2 : (kind != 2) = true := by rw [bne, m2]; rfl
  have e20 : ((addr.size : Int) == 20) = true := by rw [beq_iff_eq]; omega
  have e20' : ((addr.size : Int) != 20) = false := by rw [bne, e20]; rfl
  have HID := Lib.hid hid
  have HK := Lib.hid hk
  have H20 := Lib.hid h20
  obtain ⟨rfl, rfl, rfl, rfl⟩ := hz
  clear hid hk h20
  obtain ⟨W, hW⟩ : ∃ W, W = w.alloc (.cells (askC id addr 0 0 0 0 kind) 31) := ⟨_, rfl⟩
  have HS : Hid (St empH w none_ empH W [blk w.heap.size (.cells (askC id addr 0 0 0 0 kind) 31)]) := by rw [hW]; exact (St.start (ag_emp w)).alloc _
  have f0 : ∀ w', Below W.heap.size W w' → w'.cell? ⟨w.heap.size, 0, none⟩ = some (.int .u64 id) := fun w' h => (HS.out.grow h).cell 0 rfl rfl
  have f1 : ∀ w', Below W.heap.size W w' → w'.cell? ⟨w.heap.size, 1, none⟩ = some (.string addr) := fun w' h => (HS.out.grow h).cell 0 rfl rfl
  have f6 : ∀ w', Below W.heap.size W w' → w'.cell? ⟨w.heap.size, 6, none⟩ = some (.int .i64 kind) := fun w' h => (HS.out.grow h).cell 0 rfl rfl
  have HW := Lib.hid hW
  clear hW
  simp only [askC]
  go_enter Tryd.func13, Tryd.ntmps13
  go_wp2_with fail
  have eW := HW.out
  simp only [askC] at eW
  rw [← eW]
  clear eW
  go_region_held3 (fun w' => Below W.heap.size W w') (repeat (first | assumption | exact Below.refl _ _ | apply Below.drew | (refine Below.alloc ?_ (by first | exact Nat.le_refl _ | exact Below.size (by assumption) | simp) _))) (first
    | (go_at_call 38; refine (retFrom (W := W) ?_ (rnumber_any _ (by first | exact HID.out | exact wrapU_bd _) _)).mono ?_; (first | assumption | exact (Below.refl _ _).drew); rintro e w1 ⟨rfl, hb1⟩)
    | (go_at_call 39; refine (retFrom (W := W) ?_ (rtext_any _ _)).mono ?_; (first | assumption | exact (Below.refl _ _).drew); rintro e w1 ⟨rfl, hb1⟩))
  clear f0 f1 f6
  obtain ⟨w2, hw2⟩ : ∃ w2, w2 = w1.alloc (.cells #[.bool false, .string (numS id), .slice none 0 0, .bool false, .string (numS (IntKind.u64.wrap kind)), .slice none 0 0, .bool false, .string addr, .slice none 0 0] 84) := ⟨_, rfl⟩
  have HS1 : Hid (St empH w none_ empH w2 [own 84 3 (.slice (some ⟨w1.heap.size, 0, none⟩) 3 3) 3 (textsC [numS id, numS (IntKind.u64.wrap kind), addr]), blk w.heap.size (.cells (askC id addr 0 0 0 0 kind) 31)]) := by
    rw [hw2]
    exact (HS.out.grow hb1).madeRow #[.bool false, .string (numS id), .slice none 0 0, .bool false, .string (numS (IntKind.u64.wrap kind)), .slice none 0 0, .bool false, .string addr, .slice none 0 0] rfl (by decide)
  rw [← hw2]
  clear hw2 hb1 HS
  have c1 : w2.cell? ⟨w.heap.size, 1, none⟩ = some (.string addr) := HS1.out.cell 1 rfl rfl
  have c2 : w2.cell? ⟨w.heap.size, 2, none⟩ = some (.int .u64 0) := HS1.out.cell 1 rfl rfl
  have c3 : w2.cell? ⟨w.heap.size, 3, none⟩ = some (.int .u64 0) := HS1.out.cell 1 rfl rfl
  have c4 : w2.cell? ⟨w.heap.size, 4, none⟩ = some (.int .u64 0) := HS1.out.cell 1 rfl rfl
  have c5 : w2.cell? ⟨w.heap.size, 5, none⟩ = some (.int .u64 0) := HS1.out.cell 1 rfl rfl
  have c6 : w2.cell? ⟨w.heap.size, 6, none⟩ = some (.int .i64 kind) := HS1.out.cell 1 rfl rfl
  obtain rfl := HK.out
  clear HK m1 m2 n1 n2
  obtain ⟨H', hle, hrep, S5⟩ := HS1.out.keepOwn 0 rfl (ds := itsD ([numS id, numS (IntKind.u64.wrap 1), addr].map It.text)) (texts_rep empH [numS id, numS (IntKind.u64.wrap 1), addr])
  have HREP : Hid (∀ A cp, RepV H' (.slice A 3 cp) (.sl 3 3 (itsD ([numS id, numS (IntKind.u64.wrap 1), addr].map It.text))) → RepL H' [.bool true, .string ⟨#[]⟩, .slice A 3 cp] (It.list ([numS id, numS (IntKind.u64.wrap 1), addr].map It.text)).d) := Lib.hid fun A cp h => by unfold It.d; exact .cons (.pl rfl) (.cons (.pl rfl) (.cons h .nil))
  have HREP2 := Lib.hid (HREP.out _ _ hrep)
  have HS5 := Lib.hid S5
  clear S5 hrep HREP
  go_wp2_with fail
  refine (renc_ok (.list ([numS id, numS (IntKind.u64.wrap 1), addr].map It.text)) (put_short (by simp)) _ _ _ _ _ HS5.out.ag HREP2.out (put_len (by simp) (ask_small1 H20.out))).mono ?_
  rintro e w6 ⟨rfl, hb6⟩
  have HB := Lib.hid ((HS5.out.grow hb6).below)
  clear HS5 hb6
  go_wp2_with fail
  go_ret2
  exact ⟨rfl, HB.out⟩
set_option maxRecDepth 100000 in
set_option maxHeartbeats 2000000 in
theorem rputAsk_two (id : Int) (addr : ByteArray) (a b c d kind : Int) (hid : W64 id) (ha : W64 a) (hb : W64 b) (hc : W64 c) (hd : W64 d) (hk : kind = 2) (h20 : addr.size = 20) (w : World) : Calls Tryd.prog 13 #[.agg (askC id addr a b c d kind)] w (RetV (.tuple #[.string (putL [numS id, numS (IntKind.u64.wrap 2), addr, wordS a b c d]), .bool true]) w) := by
  have m1 : (kind == 1) = false := beq_eq_false_iff_ne.2 (by omega)
  have m2 : (kind == 2) = true := beq_iff_eq.2 hk
  have n1 : (kind != 1) = true := by rw [bne, m1]; rfl
  have n2 : (kind != 2) = false := by rw [bne, m2]; rfl
  have e20 : ((addr.size : Int) == 20) = true := by rw [beq_iff_eq]; omega
  have e20' : ((addr.size : Int) != 20) = false := by rw [bne, e20]; rfl
  have HID := Lib.hid hid
  have HK := Lib.hid hk
  have H20 := Lib.hid h20
  have HWB := Lib.hid (rwbytes_any a b c d ha hb hc hd)
  clear hid hk h20 ha hb hc hd
  obtain ⟨W, hW⟩ : ∃ W, W = w.alloc (.cells (askC id addr a b c d kind) 31) := ⟨_, rfl⟩
  have HS : Hid (St empH w none_ empH W [blk w.heap.size (.cells (askC id addr a b c d kind) 31)]) := by rw [hW]; exact (St.start (ag_emp w)).alloc _
  have f0 : ∀ w', Below W.heap.size W w' → w'.cell? ⟨w.heap.size, 0, none⟩ = some (.int .u64 id) := fun w' h => (HS.out.grow h).cell 0 rfl rfl
  have f1 : ∀ w', Below W.heap.size W w' → w'.cell? ⟨w.heap.size, 1, none⟩ = some (.string addr) := fun w' h => (HS.out.grow h).cell 0 rfl rfl
  have f6 : ∀ w', Below W.heap.size W w' → w'.cell? ⟨w.heap.size, 6, none⟩ = some (.int .i64 kind) := fun w' h => (HS.out.grow h).cell 0 rfl rfl
  have HW := Lib.hid hW
  clear hW
  simp only [askC]
  go_enter Tryd.func13, Tryd.ntmps13
  go_wp2_with fail
  have eW := HW.out
  simp only [askC] at eW
  rw [← eW]
  clear eW
  go_region_held3 (fun w' => Below W.heap.size W w') (repeat (first | assumption | exact Below.refl _ _ | apply Below.drew | (refine Below.alloc ?_ (by first | exact Nat.le_refl _ | exact Below.size (by assumption) | simp) _))) (first
    | (go_at_call 38; refine (retFrom (W := W) ?_ (rnumber_any _ (by first | exact HID.out | exact wrapU_bd _) _)).mono ?_; (first | assumption | exact (Below.refl _ _).drew); rintro e w1 ⟨rfl, hb1⟩)
    | (go_at_call 39; refine (retFrom (W := W) ?_ (rtext_any _ _)).mono ?_; (first | assumption | exact (Below.refl _ _).drew); rintro e w1 ⟨rfl, hb1⟩))
  clear f0 f1 f6
  obtain ⟨w2, hw2⟩ : ∃ w2, w2 = w1.alloc (.cells #[.bool false, .string (numS id), .slice none 0 0, .bool false, .string (numS (IntKind.u64.wrap kind)), .slice none 0 0, .bool false, .string addr, .slice none 0 0] 84) := ⟨_, rfl⟩
  have HS1 : Hid (St empH w none_ empH w2 [own 84 3 (.slice (some ⟨w1.heap.size, 0, none⟩) 3 3) 3 (textsC [numS id, numS (IntKind.u64.wrap kind), addr]), blk w.heap.size (.cells (askC id addr a b c d kind) 31)]) := by
    rw [hw2]
    exact (HS.out.grow hb1).madeRow #[.bool false, .string (numS id), .slice none 0 0, .bool false, .string (numS (IntKind.u64.wrap kind)), .slice none 0 0, .bool false, .string addr, .slice none 0 0] rfl (by decide)
  rw [← hw2]
  clear hw2 hb1 HS
  have c1 : w2.cell? ⟨w.heap.size, 1, none⟩ = some (.string addr) := HS1.out.cell 1 rfl rfl
  have c2 : w2.cell? ⟨w.heap.size, 2, none⟩ = some (.int .u64 a) := HS1.out.cell 1 rfl rfl
  have c3 : w2.cell? ⟨w.heap.size, 3, none⟩ = some (.int .u64 b) := HS1.out.cell 1 rfl rfl
  have c4 : w2.cell? ⟨w.heap.size, 4, none⟩ = some (.int .u64 c) := HS1.out.cell 1 rfl rfl
  have c5 : w2.cell? ⟨w.heap.size, 5, none⟩ = some (.int .u64 d) := HS1.out.cell 1 rfl rfl
  have c6 : w2.cell? ⟨w.heap.size, 6, none⟩ = some (.int .i64 kind) := HS1.out.cell 1 rfl rfl
  obtain rfl := HK.out
  clear HK m1 m2 n1 n2
  go_wp2_with fail
  refine (HWB.out _).mono ?_
  rintro e w3 ⟨rfl, hb3⟩
  have HS2 := Lib.hid (HS1.out.grow hb3)
  clear hb3 HS1 c1 c2 c3 c4 c5 c6
  go_wp2_with fail
  refine (rtext_any _ _).mono ?_
  rintro e w4 ⟨rfl, hb4⟩
  have HS3 := Lib.hid ((HS2.out.grow hb4).madeRow (e := 84) (size := 3) (n := 1) #[.bool false, .string (wordS a b c d), .slice none 0 0] rfl (by decide))
  clear hb4 HS2
  obtain ⟨i0, hi, hz0, hz1, hz2⟩ := info_parts infoRItemP
  go_wp2_with (first
    | (at_builtin; refine wpList_append_st 1 84 HS3.out rfl rfl _ _ 82 rfl i0 _ 48 Tryd.underlying82 hi hz0 hz1 hz2 rfl (by decide) rfl ⟨w4.heap.size, 0, none⟩ 1 1 [.bool false, .string (wordS a b c d), .slice none 0 0] rfl rfl (fun j u hj => ?_) (oneItemL _ _ _ _ _) (by unfold maxLen; omega) (by omega) ?_)
    | fail)
  · rw [Addr.add_lit, Nat.zero_add]
    have h1 := HS3.out.ownCell 0 rfl j (by have := (List.getElem?_eq_some_iff.1 hj).1; simpa using this)
    exact h1.trans hj
  intro A4 c4 w5 S4
  obtain ⟨H', hle, hrep, S5⟩ := S4.keepOwn 0 rfl (ds := itsD ([numS id, numS (IntKind.u64.wrap 2), addr, wordS a b c d].map It.text)) (texts_rep empH [numS id, numS (IntKind.u64.wrap 2), addr, wordS a b c d])
  have HREP : Hid (∀ A cp, RepV H' (.slice A 4 cp) (.sl 3 4 (itsD ([numS id, numS (IntKind.u64.wrap 2), addr, wordS a b c d].map It.text))) → RepL H' [.bool true, .string ⟨#[]⟩, .slice A 4 cp] (It.list ([numS id, numS (IntKind.u64.wrap 2), addr, wordS a b c d].map It.text)).d) := Lib.hid fun A cp h => by unfold It.d; exact .cons (.pl rfl) (.cons (.pl rfl) (.cons h .nil))
  have HREP2 := Lib.hid (HREP.out _ _ hrep)
  have HS5 := Lib.hid S5
  clear S4 HS3
  clear S5 hrep HREP
  go_wp2_with fail
  refine (renc_ok (.list ([numS id, numS (IntKind.u64.wrap 2), addr, wordS a b c d].map It.text)) (put_short (by simp)) _ _ _ _ _ HS5.out.ag HREP2.out (put_len (by simp) (ask_small H20.out))).mono ?_
  rintro e w6 ⟨rfl, hb6⟩
  have HB := Lib.hid ((HS5.out.grow hb6).below)
  clear HS5 hb6
  go_wp2_with fail
  go_ret2
  exact ⟨rfl, HB.out⟩
theorem rputAsk_all (id : Int) (addr : ByteArray) (a b c d kind : Int) (hid : W64 id) (ha : W64 a) (hb : W64 b) (hc : W64 c) (hd : W64 d) (w : World) : Calls Tryd.prog 13 #[.agg (askC id addr a b c d kind)] w (RetV (.tuple #[.string (putAskR id addr a b c d kind).1, .bool (putAskR id addr a b c d kind).2]) w) := by
  unfold putAskR
  by_cases h20 : addr.size = 20
  · rw [if_neg (fun h => h h20)]
    by_cases h2 : kind = 2
    · rw [if_pos h2]
      exact rputAsk_two id addr a b c d kind hid ha hb hc hd h2 h20 w
    · rw [if_neg h2]
      by_cases h1 : kind = 1
      · by_cases hz : a = 0 ∧ b = 0 ∧ c = 0 ∧ d = 0
        · rw [if_pos ⟨h1, hz⟩]
          exact rputAsk_one id addr a b c d kind hid h1 h20 hz w
        · rw [if_neg (fun h => hz h.2)]
          exact rputAsk_slot id addr a b c d kind h1 h20 hz w
      · rw [if_neg (fun h => h1 h.1)]
        exact rputAsk_kind id addr a b c d kind h1 h2 w
  · rw [if_pos h20]
    by_cases hk : kind = 1 ∨ kind = 2
    · exact rputAsk_size id addr a b c d kind hk h20 w
    · exact rputAsk_kind id addr a b c d kind (fun h => hk (.inl h)) (fun h => hk (.inr h)) w
end Go.Proofs.YtfphlkkhpccpnaaDoor

namespace Go.Proofs.YtfphlkkhpccpnaaDoor
open Go.RowKit Go.Proofs K
set_option linter.unusedVariables false

def itemsOf : It → List It
  | .text _ => []
  | .list l => l
def itS : It → ByteArray
  | .text s => s
  | .list _ => ⟨#[]⟩
def rNum : It → Int
  | .text s => smallR s
  | .list _ => 0
theorem rNum_bd (i : It) : W64 (rNum i) := by
  cases i with
  | text s => exact smallR_bd s
  | list l => exact (⟨by decide, by decide⟩ : W64 0)
theorem it_str {H : Hs} {x y z : Value} {i : It} (h : RepL H [x, y, z] i.d) : y = .string (itS i) := by
  cases i with
  | text s => obtain ⟨_, _, _, h2, _⟩ := text_cells h; exact h2
  | list l => obtain ⟨_, _, _, h2, _⟩ := list_cells h; exact h2
set_option maxRecDepth 100000 in
theorem rsmall_it {H : Hs} {x y z : Value} {i : It} (h : RepL H [x, y, z] i.d) (w : World) : Calls Tryd.prog 45 #[.agg #[x, y, z]] w (fun e w' => ∃ ok, e = .returned (.tuple #[.int .u64 (rNum i), .bool ok]) ∧ Below w.heap.size w w') := by
  cases i with
  | text s =>
    obtain ⟨A, c, rfl, rfl, rfl⟩ := text_cells h
    by_cases hs : s.size ≤ 140737488355328
    · exact (rsmall_text s A 0 c hs w).mono fun e w' h => ⟨_, h.1, h.2⟩
    · have l8 : ((s.size : Int) > 8) = True := eq_true (by omega)
      have HR : Hid (rNum (.text s) = 0) := Lib.hid (by
        have : smallOk s = false := by unfold smallOk; rw [decide_eq_false (by omega)]; rfl
        show smallR s = 0
        unfold smallR; rw [this]; rfl)
      clear hs
      go_enter Tryd.func45, Tryd.ntmps45
      go_wp2_with fail
      go_ret2
      exact ⟨false, by rw [HR.out]; rfl, (Below.refl _ _).alloc (Nat.le_refl _) _⟩
  | list l =>
    obtain ⟨A, c, rfl, rfl, rfl, _⟩ := list_cells h
    exact (rsmall_list _ A _ c w).mono fun e w' h => ⟨_, h.1, h.2⟩
/-- The slot that a text is: 0, if it is too long. -/
def ofW (s : ByteArray) (i : Nat) : Int := if s.size ≤ 32 then ofL s s.size i else 0
theorem rof_all (s : ByteArray) (w : World) : Calls Tryd.prog 46 #[.string s] w (fun e w' => ∃ ok, e = .returned (.tuple #[.agg #[.int .u64 (ofW s 3), .int .u64 (ofW s 2), .int .u64 (ofW s 1), .int .u64 (ofW s 0)], .bool ok]) ∧ Below w.heap.size w w') := by
  unfold ofW
  by_cases hs : s.size ≤ 32
  · simp only [if_pos hs]
    exact (rof_any s hs w).mono fun e w' h => ⟨_, h.1, h.2⟩
  · simp only [if_neg hs]
    exact (rof_no s (by omega) w).mono fun e w' h => ⟨_, h.1, h.2⟩
def kindR (n : Int) : Int := if n = 1 ∨ n = 2 then n else 0
def slotR (k : List It) (i : Nat) : Int := match k[3]? with | some x => ofW (itS x) i | none => 0
theorem ofL_bd (s : ByteArray) : ∀ (k i : Nat), W64 (ofL s k i)
  | 0, i => ⟨by simp [ofL], by simp [ofL]⟩
  | k + 1, i => by
    unfold ofL
    split
    · have h2 := bits_lo_u64 BinOp.or (ofL s k i) (IntKind.u64.wrap (IntKind.u64.wrap (lowB s k) * 2 ^ (k % 8 * 8)))
      have h3 := bits_hi_u64 BinOp.or (ofL s k i) (IntKind.u64.wrap (IntKind.u64.wrap (lowB s k) * 2 ^ (k % 8 * 8)))
      unfold W64
      omega
    · exact ofL_bd s k i
theorem slotR_bd (k : List It) (j : Nat) : W64 (slotR k j) := by
  unfold slotR
  split
  · unfold ofW
    split
    · exact ofL_bd _ _ _
    · exact ⟨by decide, by decide⟩
  · exact ⟨by decide, by decide⟩
/-- The ask that the document forms of a list's items. -/
def askRef (k : List It) (i0 i1 i2 : It) : Int × ByteArray × Int × Int × Int × Int × Int := (rNum i0, itS i2, slotR k 3, slotR k 2, slotR k 1, slotR k 0, kindR (rNum i1))
inductive RGetD (l : List UInt8) : Option (Array Value) → Prop
  | bad (h : DecR l none) : RGetD l none
  | few {i : It} (h : DecR l (some i)) (h3 : (itemsOf i).length < 3) : RGetD l none
  | other {i i0 i1 i2 : It} (h : DecR l (some i)) (h0 : (itemsOf i)[0]? = some i0) (h1 : (itemsOf i)[1]? = some i1) (h2 : (itemsOf i)[2]? = some i2)
      (hn : putAskR (rNum i0) (itS i2) (slotR (itemsOf i) 3) (slotR (itemsOf i) 2) (slotR (itemsOf i) 1) (slotR (itemsOf i) 0) (kindR (rNum i1)) ≠ (bs l, true)) : RGetD l none
  | good {i i0 i1 i2 : It} (h : DecR l (some i)) (h0 : (itemsOf i)[0]? = some i0) (h1 : (itemsOf i)[1]? = some i1) (h2 : (itemsOf i)[2]? = some i2)
      (hn : putAskR (rNum i0) (itS i2) (slotR (itemsOf i) 3) (slotR (itemsOf i) 2) (slotR (itemsOf i) 1) (slotR (itemsOf i) 0) (kindR (rNum i1)) = (bs l, true)) :
      RGetD l (some (askC (rNum i0) (itS i2) (slotR (itemsOf i) 3) (slotR (itemsOf i) 2) (slotR (itemsOf i) 1) (slotR (itemsOf i) 0) (kindR (rNum i1))))
def RGetQ (l : List UInt8) (w : World) (e : Ending) (w' : World) : Prop := ∃ o, RGetD l o ∧ e = .returned (.tuple #[.agg (o.getD zAsk), .bool o.isSome]) ∧ Below w.heap.size w w'
theorem szRAsk : (Tryd.prog.info? 31).map (·.size) = some 7 := by kernel_rfl
theorem list_of {H : Hs} {p : Bool} {s : ByteArray} {A : Option Addr} {n c : Nat} {i : It} (h : RepL H [.bool p, .string s, .slice A n c] i.d) : n = (itemsOf i).length ∧ RepV H (.slice A n c) (.sl 3 (itemsOf i).length (itsD (itemsOf i))) := by
  have key : ∀ (d1 d2 d3 : D), RepL H [.bool p, .string s, .slice A n c] [d1, d2, d3] → RepV H (.slice A n c) d3 := fun d1 d2 d3 h => by
    obtain ⟨_, _, e1, _, t1⟩ := h.cons_inv
    cases e1
    obtain ⟨_, _, e2, _, t2⟩ := t1.cons_inv
    cases e2
    obtain ⟨_, _, e3, h3, _⟩ := t2.cons_inv
    cases e3
    exact h3
  cases i with
  | text s =>
    unfold It.d at h
    have h3 := key _ _ _ h
    obtain ⟨_, _, _, e, _⟩ := h3.sl_inv
    cases e
    exact ⟨rfl, by unfold itemsOf itsD; exact h3⟩
  | list l =>
    unfold It.d at h
    have h3 := key _ _ _ h
    obtain ⟨_, _, _, e, _⟩ := h3.sl_inv
    cases e
    exact ⟨rfl, h3⟩
theorem Row.cellAt {H : Hs} {w : World} {b o : Nat} {cs : List Value} (h : Row H (some ⟨b, o, none⟩) cs) (hw : Ag H w) {j : Nat} {u : Value} (hu : cs[j]? = some u) : w.cell? ⟨b, o + j, none⟩ = some u := by
  obtain ⟨b', o', e, h⟩ := h.cell hw hu
  cases e
  exact h
set_option maxRecDepth 100000 in
set_option maxHeartbeats 4000000 in
theorem rgetAsk_any (l : List UInt8) (w : World) : Calls Tryd.prog 16 #[.string (bs l)] w (RGetQ l w) := by
  have HS := Lib.hid ((St.start (ag_emp w)).alloc (.cells zAsk 31))
  have HD := Lib.hid (rdecode_any l HS.out.ag)
  go_enter Tryd.func16, Tryd.ntmps16
  go_wp2_with fail
  refine HD.out.mono ?_
  rintro e w1 (⟨i, x, y, z, H1, hR, rfl, hrep, S1⟩ | ⟨n, hR, hn, rfl, S1⟩)
  · obtain ⟨p1, s1, A, n, c, rfl, rfl, rfl⟩ := it_cells hrep
    obtain ⟨hn, hV⟩ := list_of hrep
    obtain ⟨k, hk⟩ : ∃ k, k = itemsOf i := ⟨_, rfl⟩
    rw [← hk] at hn hV
    subst hn
    have HS2 := Lib.hid ((HS.out.more S1).alloc (.cells #[.bool p1, .string s1, .slice A k.length c] 84))
    have HR := Lib.hid hR
    have HK := Lib.hid hk
    by_cases h3 : k.length < 3
    · have hlt : ((k.length : Int) < 3) = True := eq_true (by omega)
      have HF := Lib.hid h3
      clear hR hrep hV S1 HS hk h3
      go_wp2_with (first
        | (refine wpList_store_st (cs := zAsk) 1 HS2.out rfl rfl 31 (.tmp 2) (.tmp 24) rfl rfl rfl szRAsk rfl (oneAsk _ _ _ _ _ _ _) ?_)
        | fail)
      intro w4 S4
      go_wp2_with fail
      exact post_cell2 0 S4 rfl Tryd.results16 rfl _ Tryd.underlying31 rfl szRAsk rfl ⟨none, .few HR.out (by rw [← HK.out]; exact HF.out), rfl, S4.below⟩
    · have hlt : ¬ ((k.length : Int) < 3) := by omega
      have hlt0 : (0 : Int) < (k.length : Int) := by omega
      have hd3 : decide ((k.length : Int) < 3) = false := decide_eq_false (by omega)
      have hlt1 : (1 : Int) < (k.length : Int) := by omega
      have hlt2 : (2 : Int) < (k.length : Int) := by omega
      obtain ⟨A', c', cs, he, hnc, hA, hlen, hrow, hrd⟩ := hV.sl_inv
      cases he
      obtain ⟨x0, y0, z0, hx0, hy0, hz0, hr0⟩ := its_at hrd (show 0 < k.length by omega)
      obtain ⟨x1, y1, z1, hx1, hy1, hz1, hr1⟩ := its_at hrd (show 1 < k.length by omega)
      obtain ⟨x2, y2, z2, hx2, hy2, hz2, hr2⟩ := its_at hrd (show 2 < k.length by omega)
      obtain ⟨i0, hi0⟩ : ∃ i0, i0 = k[0] := ⟨_, rfl⟩
      obtain ⟨i1, hi1⟩ : ∃ i1, i1 = k[1] := ⟨_, rfl⟩
      obtain ⟨i2, hi2⟩ : ∃ i2, i2 = k[2] := ⟨_, rfl⟩
      rw [← hi0] at hr0
      rw [← hi1] at hr1
      rw [← hi2] at hr2
      have hy2' := it_str hr2
      obtain ⟨q0, t0, A0, n0, c0, rfl, rfl, rfl⟩ := it_cells hr0
      obtain ⟨q1, t1, A1, n1, c1, rfl, rfl, rfl⟩ := it_cells hr1
      obtain ⟨b0, o, rfl, _⟩ := hrow.cell HS2.out.ag hx0
      have HI0 : Hid ((itemsOf i)[0]? = some i0) := Lib.hid (by rw [← hk, hi0]; exact List.getElem?_eq_getElem _)
      have HI1 : Hid ((itemsOf i)[1]? = some i1) := Lib.hid (by rw [← hk, hi1]; exact List.getElem?_eq_getElem _)
      have HI2 : Hid ((itemsOf i)[2]? = some i2) := Lib.hid (by rw [← hk, hi2]; exact List.getElem?_eq_getElem _)
      have HC : Hid (∀ wx, Ag H1 wx → wx.cell? ⟨b0, o, none⟩ = some (.bool q0) ∧ wx.cell? ⟨b0, o + 1, none⟩ = some (.string t0) ∧ wx.cell? ⟨b0, o + 2, none⟩ = some (.slice A0 n0 c0) ∧
          wx.cell? ⟨b0, o + 3, none⟩ = some (.bool q1) ∧ wx.cell? ⟨b0, o + 3 + 1, none⟩ = some (.string t1) ∧ wx.cell? ⟨b0, o + 3 + 2, none⟩ = some (.slice A1 n1 c1) ∧ wx.cell? ⟨b0, o + 6 + 1, none⟩ = some (.string (itS i2))) := Lib.hid fun wx hwx =>
        ⟨Row.cellAt hrow hwx hx0, Row.cellAt hrow hwx hy0, Row.cellAt hrow hwx hz0, Row.cellAt hrow hwx hx1, Row.cellAt hrow hwx hy1, Row.cellAt hrow hwx hz1, hy2' ▸ Row.cellAt hrow hwx hy2⟩
      have H3 : Hid (∀ x, k[3]? = some x → ∀ wx, Ag H1 wx → wx.cell? ⟨b0, o + 9 + 1, none⟩ = some (.string (itS x))) := Lib.hid fun x hx wx hwx => by
        obtain ⟨h4, rfl⟩ := List.getElem?_eq_some_iff.1 hx
        obtain ⟨x3, y3, z3, hx3, hy3, hz3, hr3⟩ := its_at hrd h4
        rw [it_str hr3] at hy3
        exact Row.cellAt hrow hwx hy3
      have HSM0 := Lib.hid (rsmall_it hr0)
      have HSM1 := Lib.hid (rsmall_it hr1)
      have HS3 := Lib.hid (HS2.out.alloc' (.cells #[.int .u64 0, .string (itS i2), .int .u64 0, .int .u64 0, .int .u64 0, .int .u64 0, .int .i64 0] 31) (w1.heap.size + 1) (by simp))
      obtain ⟨_, _, _, _, _, _, e26⟩ := HC.out _ HS2.out.ag
      obtain ⟨e30, e31, e32, _, _, _, _⟩ := HC.out _ HS3.out.ag
      clear hR hrep hV S1 HS hk h3 hrow hrd hx0 hy0 hz0 hx1 hy1 hz1 hx2 hy2 hz2 hr0 hr1 hr2 hi0 hi1 hi2 hy2' hlen hA hnc
      go_wp2_with fail
      refine (HSM0.out _).mono ?_
      rintro e w2 ⟨ok0, rfl, hb2⟩
      have S4 := HS3.out.grow hb2
      have d0 : w2.cell? ⟨w1.heap.size + 1, 0, none⟩ = some (.int .u64 0) := S4.cell 0 rfl rfl
      have g0 : w2.frozen? ⟨w1.heap.size + 1, 0, none⟩ = false := S4.frozen 0 rfl 0
      have HS5 : Hid (St empH w none_ H1 (w2.setCell ⟨w1.heap.size + 1, 0, none⟩ (.int .u64 (rNum i0))) [blk (w1.heap.size + 1) (.cells (askC (rNum i0) (itS i2) 0 0 0 0 0) 31), blk w1.heap.size (.cells #[.bool p1, .string s1, .slice (some ⟨b0, o, none⟩) k.length c] 84), blk w.heap.size (.cells zAsk 31)]) := S4.setCell (j := 0) 0 rfl (.int .u64 (rNum i0))
      have h52 : (w2.setCell ⟨w1.heap.size + 1, 0, none⟩ (.int .u64 (rNum i0))).cell? ⟨w1.heap.size, 2, none⟩ = some (.slice (some ⟨b0, o, none⟩) k.length c) := HS5.out.cell 1 rfl rfl
      obtain ⟨_, _, _, e53, e54, e55, _⟩ := HC.out _ HS5.out.ag
      clear S4 HS3 HS2 hb2 e26 e30 e31 e32
      go_wp2_with fail
      refine (HSM1.out _).mono ?_
      rintro e w3 ⟨ok1, rfl, hb3⟩
      have HS6 : Hid (St empH w none_ H1 w3 [blk (w1.heap.size + 1) (.cells (askC (rNum i0) (itS i2) 0 0 0 0 0) 31), blk w1.heap.size (.cells #[.bool p1, .string s1, .slice (some ⟨b0, o, none⟩) k.length c] 84), blk w.heap.size (.cells zAsk 31)]) := HS5.out.grow hb3
      clear HS5 hb3 d0 g0 h52 e53 e54 e55
      obtain ⟨WW, HWW⟩ : ∃ WW, Hid (WW = if rNum i1 = 1 ∨ rNum i1 = 2 then w3.setCell ⟨w1.heap.size + 1, 6, none⟩ (.int .i64 (rNum i1)) else w3) := ⟨_, rfl⟩
      have HS7 : Hid (St empH w none_ H1 WW [blk (w1.heap.size + 1) (.cells (askC (rNum i0) (itS i2) 0 0 0 0 (kindR (rNum i1))) 31), blk w1.heap.size (.cells #[.bool p1, .string s1, .slice (some ⟨b0, o, none⟩) k.length c] 84), blk w.heap.size (.cells zAsk 31)]) := Lib.hid (by
        have hw := HWW.out
        unfold kindR
        by_cases h12 : rNum i1 = 1 ∨ rNum i1 = 2
        · rw [if_pos h12] at hw ⊢
          rw [hw]
          exact HS6.out.setCell (j := 6) 0 rfl (.int .i64 (rNum i1))
        · rw [if_neg h12] at hw ⊢
          rw [hw]
          exact HS6.out)
      have hbdN := rNum_bd i1
      have d6 : w3.cell? ⟨w1.heap.size + 1, 6, none⟩ = some (.int .i64 0) := HS6.out.cell 0 rfl rfl
      have g6 : w3.frozen? ⟨w1.heap.size + 1, 6, none⟩ = false := HS6.out.frozen 0 rfl 6
      have h72 : WW.cell? ⟨w1.heap.size, 2, none⟩ = some (.slice (some ⟨b0, o, none⟩) k.length c) := HS7.out.cell 1 rfl rfl
      have HPA := Lib.hid (rputAsk_all (rNum i0) (itS i2) (slotR k 3) (slotR k 2) (slotR k 1) (slotR k 0) (kindR (rNum i1)) (rNum_bd i0) (slotR_bd k 3) (slotR_bd k 2) (slotR_bd k 1) (slotR_bd k 0))
      obtain ⟨t, ok, ht⟩ : ∃ t ok, putAskR (rNum i0) (itS i2) (slotR k 3) (slotR k 2) (slotR k 1) (slotR k 0) (kindR (rNum i1)) = (t, ok) := ⟨_, _, rfl⟩
      rw [ht] at HPA
      have HNO : Hid ((t, ok) ≠ (bs l, true) → RGetD l none) := Lib.hid fun h => .other HR.out HI0.out HI1.out HI2.out (by rw [← HK.out, ht]; exact h)
      have HYES : Hid ((t, ok) = (bs l, true) → RGetD l (some (askC (rNum i0) (itS i2) (slotR k 3) (slotR k 2) (slotR k 1) (slotR k 0) (kindR (rNum i1))))) := Lib.hid fun h => by
        have := RGetD.good HR.out HI0.out HI1.out HI2.out (by rw [← HK.out, ht]; exact h)
        rw [← HK.out] at this
        exact this
      clear ht
      by_cases hk1 : rNum i1 = 1
      · have hWW : w3.setCell ⟨w1.heap.size + 1, 6, none⟩ (.int .i64 (rNum i1)) = WW := by rw [HWW.out, if_pos (.inl hk1)]
        have m1 : (rNum i1 == 1) = true := beq_iff_eq.2 hk1
        have hw64 : wrap64 (rNum i1) = rNum i1 := by unfold wrap64; omega
        clear hk1
        by_cases h4 : 3 < k.length
        · have hlt3 : (3 : Int) < (k.length : Int) := by omega
          have e10 := H3.out k[3] (List.getElem?_eq_getElem h4) _ HS7.out.ag
          have hsl : ∀ j, slotR k j = ofW (itS k[3]) j := fun j => by unfold slotR; rw [List.getElem?_eq_getElem h4]
          obtain ⟨x3, hx3⟩ : ∃ x3, x3 = itS k[3] := ⟨_, rfl⟩
          rw [← hx3] at e10 hsl
          have hs3 := hsl 3
          have hs2 := hsl 2
          have hs1 := hsl 1
          have hs0 := hsl 0
          have HHS := Lib.hid (And.intro hs3 (And.intro hs2 (And.intro hs1 hs0)))
          clear h4 hsl hx3 hs3 hs2 hs1 hs0
          go_wp2_with fail
          refine (rof_all _ _).mono ?_
          rintro e w4 ⟨ok3, rfl, hb4⟩
          have HS8 := Lib.hid (HS7.out.grow hb4)
          clear hb4 HS7 h72 e10 d6 g6
          go_wp2_with (first
            | (refine wpList_mid_st (cs := #[.int .u64 (ofW x3 3), .int .u64 (ofW x3 2), .int .u64 (ofW x3 1), .int .u64 (ofW x3 0)]) (old := askC (rNum i0) (itS i2) 0 0 0 0 (kindR (rNum i1))) 0 HS8.out rfl rfl 24 (.tmp 70) (.tmp 68) rfl 2 rfl rfl szWord (by show (2 + 4 : Nat) ≤ 7; omega) (oneW _ _ _ _) ?_)
            | fail)
          intro w5 S5
          obtain ⟨hs3, hs2, hs1, hs0⟩ := HHS.out
          have HS9 : Hid (St empH w none_ H1 w5 [blk (w1.heap.size + 1) (.cells (askC (rNum i0) (itS i2) (slotR k 3) (slotR k 2) (slotR k 1) (slotR k 0) (kindR (rNum i1))) 31), blk w1.heap.size (.cells #[.bool p1, .string s1, .slice (some ⟨b0, o, none⟩) k.length c] 84), blk w.heap.size (.cells zAsk 31)]) := Lib.hid (by
            rw [hs3, hs2, hs1, hs0]
            exact S5)
          clear HS8 S5 hs3 hs2 hs1 hs0
          go_wp2_with (first
            | (refine wpList_load_st (cs := askC (rNum i0) (itS i2) (slotR k 3) (slotR k 2) (slotR k 1) (slotR k 0) (kindR (rNum i1))) 0 HS9.out rfl rfl 31 (.tmp 6) rfl rfl _ Tryd.underlying31 rfl szRAsk ?_)
            | fail)
          refine (HPA.out _).mono ?_
          rintro e w6 ⟨rfl, hb6⟩
          have HS10 := Lib.hid (HS9.out.grow hb6)
          clear HS9 hb6
          cases ok with
          | false =>
            go_wp2_with (first
              | (refine wpList_store_st (cs := zAsk) 2 HS10.out rfl rfl 31 (.tmp 2) (.tmp 83) rfl rfl rfl szRAsk rfl (oneAsk _ _ _ _ _ _ _) ?_)
              | fail)
            intro w7 S7
            go_wp2_with fail
            exact post_cell2 0 S7 rfl Tryd.results16 rfl _ Tryd.underlying31 rfl szRAsk rfl ⟨none, HNO.out (by simp), rfl, S7.below⟩
          | true =>
            by_cases he : t = bs l
            · have e1 := eq_list he
              have HE := Lib.hid he
              clear he
              go_wp2_with (first
                | (refine wpList_load_st (cs := askC (rNum i0) (itS i2) (slotR k 3) (slotR k 2) (slotR k 1) (slotR k 0) (kindR (rNum i1))) 0 HS10.out rfl rfl 31 (.tmp 6) rfl rfl _ Tryd.underlying31 rfl szRAsk ?_)
                | (refine wpList_store_st (cs := askC (rNum i0) (itS i2) (slotR k 3) (slotR k 2) (slotR k 1) (slotR k 0) (kindR (rNum i1))) 2 HS10.out rfl rfl 31 (.tmp 2) (.tmp 84) rfl rfl rfl szRAsk rfl (oneAsk _ _ _ _ _ _ _) ?_)
                | fail)
              intro w7 S7
              go_wp2_with fail
              exact post_cell2 0 S7 rfl Tryd.results16 rfl _ Tryd.underlying31 rfl szRAsk rfl ⟨_, HYES.out (by rw [HE.out]), rfl, S7.below⟩
            · have e1 := neq_list he
              have HE := Lib.hid he
              clear he
              go_wp2_with (first
                | (refine wpList_store_st (cs := zAsk) 2 HS10.out rfl rfl 31 (.tmp 2) (.tmp 83) rfl rfl rfl szRAsk rfl (oneAsk _ _ _ _ _ _ _) ?_)
                | fail)
              intro w7 S7
              go_wp2_with fail
              exact post_cell2 0 S7 rfl Tryd.results16 rfl _ Tryd.underlying31 rfl szRAsk rfl ⟨none, HNO.out (fun h => HE.out (Prod.mk.inj h).1), rfl, S7.below⟩
        · have hlt3 : ¬ (3 : Int) < (k.length : Int) := by omega
          have hsl : ∀ j, slotR k j = 0 := fun j => by unfold slotR; rw [List.getElem?_eq_none (by omega)]
          have hs3 := hsl 3
          have hs2 := hsl 2
          have hs1 := hsl 1
          have hs0 := hsl 0
          clear h4 hsl
          have HS9 : Hid (St empH w none_ H1 WW [blk (w1.heap.size + 1) (.cells (askC (rNum i0) (itS i2) (slotR k 3) (slotR k 2) (slotR k 1) (slotR k 0) (kindR (rNum i1))) 31), blk w1.heap.size (.cells #[.bool p1, .string s1, .slice (some ⟨b0, o, none⟩) k.length c] 84), blk w.heap.size (.cells zAsk 31)]) := Lib.hid (by
            rw [hs3, hs2, hs1, hs0]
            exact HS7.out)
          clear hs3 hs2 hs1 hs0
          go_wp2_with (first
            | (refine wpList_load_st (cs := askC (rNum i0) (itS i2) (slotR k 3) (slotR k 2) (slotR k 1) (slotR k 0) (kindR (rNum i1))) 0 HS9.out rfl rfl 31 (.tmp 6) rfl rfl _ Tryd.underlying31 rfl szRAsk ?_)
            | fail)
          refine (HPA.out _).mono ?_
          rintro e w6 ⟨rfl, hb6⟩
          have HS10 := Lib.hid (HS9.out.grow hb6)
          clear HS9 hb6
          cases ok with
          | false =>
            go_wp2_with (first
              | (refine wpList_store_st (cs := zAsk) 2 HS10.out rfl rfl 31 (.tmp 2) (.tmp 83) rfl rfl rfl szRAsk rfl (oneAsk _ _ _ _ _ _ _) ?_)
              | fail)
            intro w7 S7
            go_wp2_with fail
            exact post_cell2 0 S7 rfl Tryd.results16 rfl _ Tryd.underlying31 rfl szRAsk rfl ⟨none, HNO.out (by simp), rfl, S7.below⟩
          | true =>
            by_cases he : t = bs l
            · have e1 := eq_list he
              have HE := Lib.hid he
              clear he
              go_wp2_with (first
                | (refine wpList_load_st (cs := askC (rNum i0) (itS i2) (slotR k 3) (slotR k 2) (slotR k 1) (slotR k 0) (kindR (rNum i1))) 0 HS10.out rfl rfl 31 (.tmp 6) rfl rfl _ Tryd.underlying31 rfl szRAsk ?_)
                | (refine wpList_store_st (cs := askC (rNum i0) (itS i2) (slotR k 3) (slotR k 2) (slotR k 1) (slotR k 0) (kindR (rNum i1))) 2 HS10.out rfl rfl 31 (.tmp 2) (.tmp 84) rfl rfl rfl szRAsk rfl (oneAsk _ _ _ _ _ _ _) ?_)
                | fail)
              intro w7 S7
              go_wp2_with fail
              exact post_cell2 0 S7 rfl Tryd.results16 rfl _ Tryd.underlying31 rfl szRAsk rfl ⟨_, HYES.out (by rw [HE.out]), rfl, S7.below⟩
            · have e1 := neq_list he
              have HE := Lib.hid he
              clear he
              go_wp2_with (first
                | (refine wpList_store_st (cs := zAsk) 2 HS10.out rfl rfl 31 (.tmp 2) (.tmp 83) rfl rfl rfl szRAsk rfl (oneAsk _ _ _ _ _ _ _) ?_)
                | fail)
              intro w7 S7
              go_wp2_with fail
              exact post_cell2 0 S7 rfl Tryd.results16 rfl _ Tryd.underlying31 rfl szRAsk rfl ⟨none, HNO.out (fun h => HE.out (Prod.mk.inj h).1), rfl, S7.below⟩
      · by_cases hk2 : rNum i1 = 2
        · have hWW : w3.setCell ⟨w1.heap.size + 1, 6, none⟩ (.int .i64 (rNum i1)) = WW := by rw [HWW.out, if_pos (.inr hk2)]
          have m1 : (rNum i1 == 1) = false := beq_eq_false_iff_ne.2 hk1
          have m2 : (rNum i1 == 2) = true := beq_iff_eq.2 hk2
          have hw64 : wrap64 (rNum i1) = rNum i1 := by unfold wrap64; omega
          clear hk1 hk2
          by_cases h4 : 3 < k.length
          · have hlt3 : (3 : Int) < (k.length : Int) := by omega
            have e10 := H3.out k[3] (List.getElem?_eq_getElem h4) _ HS7.out.ag
            have hsl : ∀ j, slotR k j = ofW (itS k[3]) j := fun j => by unfold slotR; rw [List.getElem?_eq_getElem h4]
            obtain ⟨x3, hx3⟩ : ∃ x3, x3 = itS k[3] := ⟨_, rfl⟩
            rw [← hx3] at e10 hsl
            have hs3 := hsl 3
            have hs2 := hsl 2
            have hs1 := hsl 1
            have hs0 := hsl 0
            have HHS := Lib.hid (And.intro hs3 (And.intro hs2 (And.intro hs1 hs0)))
            clear h4 hsl hx3 hs3 hs2 hs1 hs0
            go_wp2_with fail
            refine (rof_all _ _).mono ?_
            rintro e w4 ⟨ok3, rfl, hb4⟩
            have HS8 := Lib.hid (HS7.out.grow hb4)
            clear hb4 HS7 h72 e10 d6 g6
            go_wp2_with (first
              | (refine wpList_mid_st (cs := #[.int .u64 (ofW x3 3), .int .u64 (ofW x3 2), .int .u64 (ofW x3 1), .int .u64 (ofW x3 0)]) (old := askC (rNum i0) (itS i2) 0 0 0 0 (kindR (rNum i1))) 0 HS8.out rfl rfl 24 (.tmp 70) (.tmp 68) rfl 2 rfl rfl szWord (by show (2 + 4 : Nat) ≤ 7; omega) (oneW _ _ _ _) ?_)
              | fail)
            intro w5 S5
            obtain ⟨hs3, hs2, hs1, hs0⟩ := HHS.out
            have HS9 : Hid (St empH w none_ H1 w5 [blk (w1.heap.size + 1) (.cells (askC (rNum i0) (itS i2) (slotR k 3) (slotR k 2) (slotR k 1) (slotR k 0) (kindR (rNum i1))) 31), blk w1.heap.size (.cells #[.bool p1, .string s1, .slice (some ⟨b0, o, none⟩) k.length c] 84), blk w.heap.size (.cells zAsk 31)]) := Lib.hid (by
              rw [hs3, hs2, hs1, hs0]
              exact S5)
            clear HS8 S5 hs3 hs2 hs1 hs0
            go_wp2_with (first
              | (refine wpList_load_st (cs := askC (rNum i0) (itS i2) (slotR k 3) (slotR k 2) (slotR k 1) (slotR k 0) (kindR (rNum i1))) 0 HS9.out rfl rfl 31 (.tmp 6) rfl rfl _ Tryd.underlying31 rfl szRAsk ?_)
              | fail)
            refine (HPA.out _).mono ?_
            rintro e w6 ⟨rfl, hb6⟩
            have HS10 := Lib.hid (HS9.out.grow hb6)
            clear HS9 hb6
            cases ok with
            | false =>
              go_wp2_with (first
                | (refine wpList_store_st (cs := zAsk) 2 HS10.out rfl rfl 31 (.tmp 2) (.tmp 83) rfl rfl rfl szRAsk rfl (oneAsk _ _ _ _ _ _ _) ?_)
                | fail)
              intro w7 S7
              go_wp2_with fail
              exact post_cell2 0 S7 rfl Tryd.results16 rfl _ Tryd.underlying31 rfl szRAsk rfl ⟨none, HNO.out (by simp), rfl, S7.below⟩
            | true =>
              by_cases he : t = bs l
              · have e1 := eq_list he
                have HE := Lib.hid he
                clear he
                go_wp2_with (first
                  | (refine wpList_load_st (cs := askC (rNum i0) (itS i2) (slotR k 3) (slotR k 2) (slotR k 1) (slotR k 0) (kindR (rNum i1))) 0 HS10.out rfl rfl 31 (.tmp 6) rfl rfl _ Tryd.underlying31 rfl szRAsk ?_)
                  | (refine wpList_store_st (cs := askC (rNum i0) (itS i2) (slotR k 3) (slotR k 2) (slotR k 1) (slotR k 0) (kindR (rNum i1))) 2 HS10.out rfl rfl 31 (.tmp 2) (.tmp 84) rfl rfl rfl szRAsk rfl (oneAsk _ _ _ _ _ _ _) ?_)
                  | fail)
                intro w7 S7
                go_wp2_with fail
                exact post_cell2 0 S7 rfl Tryd.results16 rfl _ Tryd.underlying31 rfl szRAsk rfl ⟨_, HYES.out (by rw [HE.out]), rfl, S7.below⟩
              · have e1 := neq_list he
                have HE := Lib.hid he
                clear he
                go_wp2_with (first
                  | (refine wpList_store_st (cs := zAsk) 2 HS10.out rfl rfl 31 (.tmp 2) (.tmp 83) rfl rfl rfl szRAsk rfl (oneAsk _ _ _ _ _ _ _) ?_)
                  | fail)
                intro w7 S7
                go_wp2_with fail
                exact post_cell2 0 S7 rfl Tryd.results16 rfl _ Tryd.underlying31 rfl szRAsk rfl ⟨none, HNO.out (fun h => HE.out (Prod.mk.inj h).1), rfl, S7.below⟩
          · have hlt3 : ¬ (3 : Int) < (k.length : Int) := by omega
            have hsl : ∀ j, slotR k j = 0 := fun j => by unfold slotR; rw [List.getElem?_eq_none (by omega)]
            have hs3 := hsl 3
            have hs2 := hsl 2
            have hs1 := hsl 1
            have hs0 := hsl 0
            clear h4 hsl
            have HS9 : Hid (St empH w none_ H1 WW [blk (w1.heap.size + 1) (.cells (askC (rNum i0) (itS i2) (slotR k 3) (slotR k 2) (slotR k 1) (slotR k 0) (kindR (rNum i1))) 31), blk w1.heap.size (.cells #[.bool p1, .string s1, .slice (some ⟨b0, o, none⟩) k.length c] 84), blk w.heap.size (.cells zAsk 31)]) := Lib.hid (by
              rw [hs3, hs2, hs1, hs0]
              exact HS7.out)
            clear hs3 hs2 hs1 hs0
            go_wp2_with (first
              | (refine wpList_load_st (cs := askC (rNum i0) (itS i2) (slotR k 3) (slotR k 2) (slotR k 1) (slotR k 0) (kindR (rNum i1))) 0 HS9.out rfl rfl 31 (.tmp 6) rfl rfl _ Tryd.underlying31 rfl szRAsk ?_)
              | fail)
            refine (HPA.out _).mono ?_
            rintro e w6 ⟨rfl, hb6⟩
            have HS10 := Lib.hid (HS9.out.grow hb6)
            clear HS9 hb6
            cases ok with
            | false =>
              go_wp2_with (first
                | (refine wpList_store_st (cs := zAsk) 2 HS10.out rfl rfl 31 (.tmp 2) (.tmp 83) rfl rfl rfl szRAsk rfl (oneAsk _ _ _ _ _ _ _) ?_)
                | fail)
              intro w7 S7
              go_wp2_with fail
              exact post_cell2 0 S7 rfl Tryd.results16 rfl _ Tryd.underlying31 rfl szRAsk rfl ⟨none, HNO.out (by simp), rfl, S7.below⟩
            | true =>
              by_cases he : t = bs l
              · have e1 := eq_list he
                have HE := Lib.hid he
                clear he
                go_wp2_with (first
                  | (refine wpList_load_st (cs := askC (rNum i0) (itS i2) (slotR k 3) (slotR k 2) (slotR k 1) (slotR k 0) (kindR (rNum i1))) 0 HS10.out rfl rfl 31 (.tmp 6) rfl rfl _ Tryd.underlying31 rfl szRAsk ?_)
                  | (refine wpList_store_st (cs := askC (rNum i0) (itS i2) (slotR k 3) (slotR k 2) (slotR k 1) (slotR k 0) (kindR (rNum i1))) 2 HS10.out rfl rfl 31 (.tmp 2) (.tmp 84) rfl rfl rfl szRAsk rfl (oneAsk _ _ _ _ _ _ _) ?_)
                  | fail)
                intro w7 S7
                go_wp2_with fail
                exact post_cell2 0 S7 rfl Tryd.results16 rfl _ Tryd.underlying31 rfl szRAsk rfl ⟨_, HYES.out (by rw [HE.out]), rfl, S7.below⟩
              · have e1 := neq_list he
                have HE := Lib.hid he
                clear he
                go_wp2_with (first
                  | (refine wpList_store_st (cs := zAsk) 2 HS10.out rfl rfl 31 (.tmp 2) (.tmp 83) rfl rfl rfl szRAsk rfl (oneAsk _ _ _ _ _ _ _) ?_)
                  | fail)
                intro w7 S7
                go_wp2_with fail
                exact post_cell2 0 S7 rfl Tryd.results16 rfl _ Tryd.underlying31 rfl szRAsk rfl ⟨none, HNO.out (fun h => HE.out (Prod.mk.inj h).1), rfl, S7.below⟩
        · have hWW : WW = w3 := by rw [HWW.out, if_neg (by omega)]
          have m1 : (rNum i1 == 1) = false := beq_eq_false_iff_ne.2 hk1
          have m2 : (rNum i1 == 2) = false := beq_eq_false_iff_ne.2 hk2
          clear hk1 hk2 HWW
          subst hWW
          by_cases h4 : 3 < k.length
          · have hlt3 : (3 : Int) < (k.length : Int) := by omega
            have e10 := H3.out k[3] (List.getElem?_eq_getElem h4) _ HS7.out.ag
            have hsl : ∀ j, slotR k j = ofW (itS k[3]) j := fun j => by unfold slotR; rw [List.getElem?_eq_getElem h4]
            obtain ⟨x3, hx3⟩ : ∃ x3, x3 = itS k[3] := ⟨_, rfl⟩
            rw [← hx3] at e10 hsl
            have hs3 := hsl 3
            have hs2 := hsl 2
            have hs1 := hsl 1
            have hs0 := hsl 0
            have HHS := Lib.hid (And.intro hs3 (And.intro hs2 (And.intro hs1 hs0)))
            clear h4 hsl hx3 hs3 hs2 hs1 hs0
            go_wp2_with fail
            refine (rof_all _ _).mono ?_
            rintro e w4 ⟨ok3, rfl, hb4⟩
            have HS8 := Lib.hid (HS7.out.grow hb4)
            clear hb4 HS7 h72 e10 d6 g6
            go_wp2_with (first
              | (refine wpList_mid_st (cs := #[.int .u64 (ofW x3 3), .int .u64 (ofW x3 2), .int .u64 (ofW x3 1), .int .u64 (ofW x3 0)]) (old := askC (rNum i0) (itS i2) 0 0 0 0 (kindR (rNum i1))) 0 HS8.out rfl rfl 24 (.tmp 70) (.tmp 68) rfl 2 rfl rfl szWord (by show (2 + 4 : Nat) ≤ 7; omega) (oneW _ _ _ _) ?_)
              | fail)
            intro w5 S5
            obtain ⟨hs3, hs2, hs1, hs0⟩ := HHS.out
            have HS9 : Hid (St empH w none_ H1 w5 [blk (w1.heap.size + 1) (.cells (askC (rNum i0) (itS i2) (slotR k 3) (slotR k 2) (slotR k 1) (slotR k 0) (kindR (rNum i1))) 31), blk w1.heap.size (.cells #[.bool p1, .string s1, .slice (some ⟨b0, o, none⟩) k.length c] 84), blk w.heap.size (.cells zAsk 31)]) := Lib.hid (by
              rw [hs3, hs2, hs1, hs0]
              exact S5)
            clear HS8 S5 hs3 hs2 hs1 hs0
            go_wp2_with (first
              | (refine wpList_load_st (cs := askC (rNum i0) (itS i2) (slotR k 3) (slotR k 2) (slotR k 1) (slotR k 0) (kindR (rNum i1))) 0 HS9.out rfl rfl 31 (.tmp 6) rfl rfl _ Tryd.underlying31 rfl szRAsk ?_)
              | fail)
            refine (HPA.out _).mono ?_
            rintro e w6 ⟨rfl, hb6⟩
            have HS10 := Lib.hid (HS9.out.grow hb6)
            clear HS9 hb6
            cases ok with
            | false =>
              go_wp2_with (first
                | (refine wpList_store_st (cs := zAsk) 2 HS10.out rfl rfl 31 (.tmp 2) (.tmp 83) rfl rfl rfl szRAsk rfl (oneAsk _ _ _ _ _ _ _) ?_)
                | fail)
              intro w7 S7
              go_wp2_with fail
              exact post_cell2 0 S7 rfl Tryd.results16 rfl _ Tryd.underlying31 rfl szRAsk rfl ⟨none, HNO.out (by simp), rfl, S7.below⟩
            | true =>
              by_cases he : t = bs l
              · have e1 := eq_list he
                have HE := Lib.hid he
                clear he
                go_wp2_with (first
                  | (refine wpList_load_st (cs := askC (rNum i0) (itS i2) (slotR k 3) (slotR k 2) (slotR k 1) (slotR k 0) (kindR (rNum i1))) 0 HS10.out rfl rfl 31 (.tmp 6) rfl rfl _ Tryd.underlying31 rfl szRAsk ?_)
                  | (refine wpList_store_st (cs := askC (rNum i0) (itS i2) (slotR k 3) (slotR k 2) (slotR k 1) (slotR k 0) (kindR (rNum i1))) 2 HS10.out rfl rfl 31 (.tmp 2) (.tmp 84) rfl rfl rfl szRAsk rfl (oneAsk _ _ _ _ _ _ _) ?_)
                  | fail)
                intro w7 S7
                go_wp2_with fail
                exact post_cell2 0 S7 rfl Tryd.results16 rfl _ Tryd.underlying31 rfl szRAsk rfl ⟨_, HYES.out (by rw [HE.out]), rfl, S7.below⟩
              · have e1 := neq_list he
                have HE := Lib.hid he
                clear he
                go_wp2_with (first
                  | (refine wpList_store_st (cs := zAsk) 2 HS10.out rfl rfl 31 (.tmp 2) (.tmp 83) rfl rfl rfl szRAsk rfl (oneAsk _ _ _ _ _ _ _) ?_)
                  | fail)
                intro w7 S7
                go_wp2_with fail
                exact post_cell2 0 S7 rfl Tryd.results16 rfl _ Tryd.underlying31 rfl szRAsk rfl ⟨none, HNO.out (fun h => HE.out (Prod.mk.inj h).1), rfl, S7.below⟩
          · have hlt3 : ¬ (3 : Int) < (k.length : Int) := by omega
            have hsl : ∀ j, slotR k j = 0 := fun j => by unfold slotR; rw [List.getElem?_eq_none (by omega)]
            have hs3 := hsl 3
            have hs2 := hsl 2
            have hs1 := hsl 1
            have hs0 := hsl 0
            clear h4 hsl
            have HS9 : Hid (St empH w none_ H1 WW [blk (w1.heap.size + 1) (.cells (askC (rNum i0) (itS i2) (slotR k 3) (slotR k 2) (slotR k 1) (slotR k 0) (kindR (rNum i1))) 31), blk w1.heap.size (.cells #[.bool p1, .string s1, .slice (some ⟨b0, o, none⟩) k.length c] 84), blk w.heap.size (.cells zAsk 31)]) := Lib.hid (by
              rw [hs3, hs2, hs1, hs0]
              exact HS7.out)
            clear hs3 hs2 hs1 hs0
            go_wp2_with (first
              | (refine wpList_load_st (cs := askC (rNum i0) (itS i2) (slotR k 3) (slotR k 2) (slotR k 1) (slotR k 0) (kindR (rNum i1))) 0 HS9.out rfl rfl 31 (.tmp 6) rfl rfl _ Tryd.underlying31 rfl szRAsk ?_)
              | fail)
            refine (HPA.out _).mono ?_
            rintro e w6 ⟨rfl, hb6⟩
            have HS10 := Lib.hid (HS9.out.grow hb6)
            clear HS9 hb6
            cases ok with
            | false =>
              go_wp2_with (first
                | (refine wpList_store_st (cs := zAsk) 2 HS10.out rfl rfl 31 (.tmp 2) (.tmp 83) rfl rfl rfl szRAsk rfl (oneAsk _ _ _ _ _ _ _) ?_)
                | fail)
              intro w7 S7
              go_wp2_with fail
              exact post_cell2 0 S7 rfl Tryd.results16 rfl _ Tryd.underlying31 rfl szRAsk rfl ⟨none, HNO.out (by simp), rfl, S7.below⟩
            | true =>
              by_cases he : t = bs l
              · have e1 := eq_list he
                have HE := Lib.hid he
                clear he
                go_wp2_with (first
                  | (refine wpList_load_st (cs := askC (rNum i0) (itS i2) (slotR k 3) (slotR k 2) (slotR k 1) (slotR k 0) (kindR (rNum i1))) 0 HS10.out rfl rfl 31 (.tmp 6) rfl rfl _ Tryd.underlying31 rfl szRAsk ?_)
                  | (refine wpList_store_st (cs := askC (rNum i0) (itS i2) (slotR k 3) (slotR k 2) (slotR k 1) (slotR k 0) (kindR (rNum i1))) 2 HS10.out rfl rfl 31 (.tmp 2) (.tmp 84) rfl rfl rfl szRAsk rfl (oneAsk _ _ _ _ _ _ _) ?_)
                  | fail)
                intro w7 S7
                go_wp2_with fail
                exact post_cell2 0 S7 rfl Tryd.results16 rfl _ Tryd.underlying31 rfl szRAsk rfl ⟨_, HYES.out (by rw [HE.out]), rfl, S7.below⟩
              · have e1 := neq_list he
                have HE := Lib.hid he
                clear he
                go_wp2_with (first
                  | (refine wpList_store_st (cs := zAsk) 2 HS10.out rfl rfl 31 (.tmp 2) (.tmp 83) rfl rfl rfl szRAsk rfl (oneAsk _ _ _ _ _ _ _) ?_)
                  | fail)
                intro w7 S7
                go_wp2_with fail
                exact post_cell2 0 S7 rfl Tryd.results16 rfl _ Tryd.underlying31 rfl szRAsk rfl ⟨none, HNO.out (fun h => HE.out (Prod.mk.inj h).1), rfl, S7.below⟩
  · have HS2 := Lib.hid ((HS.out.more S1).alloc (.cells #[.bool false, .string ⟨#[]⟩, .slice none 0 0] 84))
    have hn2 : (n != 0) = true := by rw [bne, hn]; rfl
    have HR := Lib.hid hR
    clear hR S1 HS hn
    simp only [zItem]
    go_wp2_with (first
      | (refine wpList_store_st (cs := zAsk) 1 HS2.out rfl rfl 31 (.tmp 2) (.tmp 24) rfl rfl rfl szRAsk rfl (oneAsk _ _ _ _ _ _ _) ?_)
      | fail)
    intro w4 S4
    go_wp2_with fail
    exact post_cell2 0 S4 rfl Tryd.results16 rfl _ Tryd.underlying31 rfl szRAsk rfl ⟨none, .bad HR.out, rfl, S4.below⟩
end Go.Proofs.YtfphlkkhpccpnaaDoor

namespace Go.Proofs.YtfphlkkhpccpnaaDoor
open Go.RowKit Go.Proofs K
set_option linter.unusedVariables false

set_option maxRecDepth 100000 in
set_option maxHeartbeats 4000000 in
theorem rputReply_long (kind id nonce a b c d : Int) (code : ByteArray) (e f g h : Int) (hid : W64 id) (hl : 24576 < code.size) (w : World) :
    Calls Tryd.prog 18 #[.int .i64 kind, .agg (replyC id nonce a b c d code e f g h)] w (RetV (.tuple #[.string ⟨#[]⟩, .bool false]) w) := by
  have HID := Lib.hid (rnumber_any id hid)
  clear hid
  have hl' : (24576 : Int) < (code.size : Int) := by omega
  clear hl
  have HW : Hid (St empH w none_ empH (w.alloc (.cells (replyC id nonce a b c d code e f g h) 45)) [blk w.heap.size (.cells (replyC id nonce a b c d code e f g h) 45)]) := (St.start (ag_emp w)).alloc _
  have k0 : (w.alloc (.cells (replyC id nonce a b c d code e f g h) 45)).cell? ⟨w.heap.size, 0, none⟩ = some (.int .u64 id) := HW.out.cell 0 rfl rfl
  go_enter Tryd.func18, Tryd.ntmps18
  go_wp2_with fail
  refine (HID.out _).mono ?_
  rintro e0 w1 ⟨rfl, hb1⟩
  have HS1 : Hid (St empH w none_ empH w1 [blk w.heap.size (.cells (replyC id nonce a b c d code e f g h) 45)]) := HW.out.grow hb1
  have HS2 : Hid (St empH w none_ empH (w1.alloc (.cells #[.bool false, .string (numS id), .slice none 0 0] 84)) [own 84 3 (.slice (some ⟨w1.heap.size, 0, none⟩) 1 1) 1 (textsC [numS id]), blk w.heap.size (.cells (replyC id nonce a b c d code e f g h) 45)]) := HS1.out.madeRow #[.bool false, .string (numS id), .slice none 0 0] rfl (by decide)
  have hwl : w.heap.size < w1.heap.size := HS1.out.blk_lt 0 rfl
  have k6 : w1.cell? ⟨w.heap.size, 6, none⟩ = some (.string code) := HS1.out.cell 0 rfl rfl
  clear hb1 HW k0
  go_wp2_with fail
  go_ret2
  exact ⟨rfl, HS2.out.below⟩
set_option maxRecDepth 100000 in
set_option maxHeartbeats 4000000 in
theorem rputReply_kind (kind id nonce a b c d : Int) (code : ByteArray) (e f g h : Int) (hid : W64 id) (hl : code.size ≤ 24576) (h1 : kind ≠ 1) (h2 : kind ≠ 2) (w : World) :
    Calls Tryd.prog 18 #[.int .i64 kind, .agg (replyC id nonce a b c d code e f g h)] w (RetV (.tuple #[.string ⟨#[]⟩, .bool false]) w) := by
  have HID := Lib.hid (rnumber_any id hid)
  clear hid
  have hl' : ¬ (24576 : Int) < (code.size : Int) := by omega
  have e1 : (kind == 1) = false := beq_eq_false_iff_ne.2 h1
  have e2 : (kind == 2) = false := beq_eq_false_iff_ne.2 h2
  clear hl h1 h2
  have HW : Hid (St empH w none_ empH (w.alloc (.cells (replyC id nonce a b c d code e f g h) 45)) [blk w.heap.size (.cells (replyC id nonce a b c d code e f g h) 45)]) := (St.start (ag_emp w)).alloc _
  have k0 : (w.alloc (.cells (replyC id nonce a b c d code e f g h) 45)).cell? ⟨w.heap.size, 0, none⟩ = some (.int .u64 id) := HW.out.cell 0 rfl rfl
  go_enter Tryd.func18, Tryd.ntmps18
  go_wp2_with fail
  refine (HID.out _).mono ?_
  rintro e0 w1 ⟨rfl, hb1⟩
  have HS1 : Hid (St empH w none_ empH w1 [blk w.heap.size (.cells (replyC id nonce a b c d code e f g h) 45)]) := HW.out.grow hb1
  have HS2 : Hid (St empH w none_ empH (w1.alloc (.cells #[.bool false, .string (numS id), .slice none 0 0] 84)) [own 84 3 (.slice (some ⟨w1.heap.size, 0, none⟩) 1 1) 1 (textsC [numS id]), blk w.heap.size (.cells (replyC id nonce a b c d code e f g h) 45)]) := HS1.out.madeRow #[.bool false, .string (numS id), .slice none 0 0] rfl (by decide)
  have hwl : w.heap.size < w1.heap.size := HS1.out.blk_lt 0 rfl
  have k6 : w1.cell? ⟨w.heap.size, 6, none⟩ = some (.string code) := HS1.out.cell 0 rfl rfl
  clear hb1 HW k0
  go_wp2_with fail
  go_ret2
  exact ⟨rfl, HS2.out.below⟩
set_option maxRecDepth 100000 in
set_option maxHeartbeats 4000000 in
theorem rputReply_value (kind id nonce a b c d : Int) (code : ByteArray) (e f g h : Int) (hid : W64 id) (hl : code.size ≤ 24576) (h1 : kind = 1) (hz : ¬ (e = 0 ∧ f = 0 ∧ g = 0 ∧ h = 0)) (w : World) :
    Calls Tryd.prog 18 #[.int .i64 kind, .agg (replyC id nonce a b c d code e f g h)] w (RetV (.tuple #[.string ⟨#[]⟩, .bool false]) w) := by
  have HID := Lib.hid (rnumber_any id hid)
  clear hid
  have hl' : ¬ (24576 : Int) < (code.size : Int) := by omega
  have e1 : (kind == 1) = true := beq_iff_eq.2 h1
  have e2 : (kind == 2) = false := by rw [h1]; rfl
  have HZ := Lib.hid hz
  clear hl h1 hz
  have HW : Hid (St empH w none_ empH (w.alloc (.cells (replyC id nonce a b c d code e f g h) 45)) [blk w.heap.size (.cells (replyC id nonce a b c d code e f g h) 45)]) := (St.start (ag_emp w)).alloc _
  have k0 : (w.alloc (.cells (replyC id nonce a b c d code e f g h) 45)).cell? ⟨w.heap.size, 0, none⟩ = some (.int .u64 id) := HW.out.cell 0 rfl rfl
  go_enter Tryd.func18, Tryd.ntmps18
  go_wp2_with fail
  refine (HID.out _).mono ?_
  rintro e0 w1 ⟨rfl, hb1⟩
  have HS1 : Hid (St empH w none_ empH w1 [blk w.heap.size (.cells (replyC id nonce a b c d code e f g h) 45)]) := HW.out.grow hb1
  have HS2 : Hid (St empH w none_ empH (w1.alloc (.cells #[.bool false, .string (numS id), .slice none 0 0] 84)) [own 84 3 (.slice (some ⟨w1.heap.size, 0, none⟩) 1 1) 1 (textsC [numS id]), blk w.heap.size (.cells (replyC id nonce a b c d code e f g h) 45)]) := HS1.out.madeRow #[.bool false, .string (numS id), .slice none 0 0] rfl (by decide)
  have hwl : w.heap.size < w1.heap.size := HS1.out.blk_lt 0 rfl
  have k6 : w1.cell? ⟨w.heap.size, 6, none⟩ = some (.string code) := HS1.out.cell 0 rfl rfl
  have k7 : w1.cell? ⟨w.heap.size, 7, none⟩ = some (.int .u64 e) := HS1.out.cell 0 rfl rfl
  have k8 : w1.cell? ⟨w.heap.size, 8, none⟩ = some (.int .u64 f) := HS1.out.cell 0 rfl rfl
  have k9 : w1.cell? ⟨w.heap.size, 9, none⟩ = some (.int .u64 g) := HS1.out.cell 0 rfl rfl
  have k10 : w1.cell? ⟨w.heap.size, 10, none⟩ = some (.int .u64 h) := HS1.out.cell 0 rfl rfl
  clear hb1 HW k0
  go_wp2_with fail
  all_goals first | (refine (HZ.out ⟨?_, ?_, ?_, ?_⟩).elim <;> assumption) | (go_ret2; exact ⟨rfl, HS2.out.below⟩)
set_option maxRecDepth 100000 in
set_option maxHeartbeats 4000000 in
theorem rputReply_account (kind id nonce a b c d : Int) (code : ByteArray) (e f g h : Int) (hid : W64 id) (hl : code.size ≤ 24576) (h1 : kind = 2) (hz : ¬ (nonce = 0 ∧ (a = 0 ∧ b = 0 ∧ c = 0 ∧ d = 0) ∧ code.toList = [])) (w : World) :
    Calls Tryd.prog 18 #[.int .i64 kind, .agg (replyC id nonce a b c d code e f g h)] w (RetV (.tuple #[.string ⟨#[]⟩, .bool false]) w) := by
  have HID := Lib.hid (rnumber_any id hid)
  clear hid
  have hl' : ¬ (24576 : Int) < (code.size : Int) := by omega
  have e1 : (kind == 1) = false := by rw [h1]; rfl
  have e2 : (kind == 2) = true := beq_iff_eq.2 h1
  have HZ := Lib.hid hz
  clear hl h1 hz
  have HW : Hid (St empH w none_ empH (w.alloc (.cells (replyC id nonce a b c d code e f g h) 45)) [blk w.heap.size (.cells (replyC id nonce a b c d code e f g h) 45)]) := (St.start (ag_emp w)).alloc _
  have k0 : (w.alloc (.cells (replyC id nonce a b c d code e f g h) 45)).cell? ⟨w.heap.size, 0, none⟩ = some (.int .u64 id) := HW.out.cell 0 rfl rfl
  go_enter Tryd.func18, Tryd.ntmps18
  go_wp2_with fail
  refine (HID.out _).mono ?_
  rintro e0 w1 ⟨rfl, hb1⟩
  have HS1 : Hid (St empH w none_ empH w1 [blk w.heap.size (.cells (replyC id nonce a b c d code e f g h) 45)]) := HW.out.grow hb1
  have HS2 : Hid (St empH w none_ empH (w1.alloc (.cells #[.bool false, .string (numS id), .slice none 0 0] 84)) [own 84 3 (.slice (some ⟨w1.heap.size, 0, none⟩) 1 1) 1 (textsC [numS id]), blk w.heap.size (.cells (replyC id nonce a b c d code e f g h) 45)]) := HS1.out.madeRow #[.bool false, .string (numS id), .slice none 0 0] rfl (by decide)
  have hwl : w.heap.size < w1.heap.size := HS1.out.blk_lt 0 rfl
  have k1 : w1.cell? ⟨w.heap.size, 1, none⟩ = some (.int .u64 nonce) := HS1.out.cell 0 rfl rfl
  have k2 : w1.cell? ⟨w.heap.size, 2, none⟩ = some (.int .u64 a) := HS1.out.cell 0 rfl rfl
  have k3 : w1.cell? ⟨w.heap.size, 3, none⟩ = some (.int .u64 b) := HS1.out.cell 0 rfl rfl
  have k4 : w1.cell? ⟨w.heap.size, 4, none⟩ = some (.int .u64 c) := HS1.out.cell 0 rfl rfl
  have k5 : w1.cell? ⟨w.heap.size, 5, none⟩ = some (.int .u64 d) := HS1.out.cell 0 rfl rfl
  have k6 : w1.cell? ⟨w.heap.size, 6, none⟩ = some (.string code) := HS1.out.cell 0 rfl rfl
  clear hb1 HW k0
  go_wp2_with fail
  all_goals first | (refine (HZ.out ⟨?_, ⟨?_, ?_, ?_, ?_⟩, ?_⟩).elim <;> first | assumption | (simp_all; done)) | (go_ret2; exact ⟨rfl, HS2.out.below⟩)
set_option maxRecDepth 100000 in
set_option maxHeartbeats 4000000 in
theorem rputReply_two (kind id e f g h : Int) (hid : W64 id) (he : W64 e) (hf : W64 f) (hg : W64 g) (hh : W64 h) (h1 : kind = 2) (w : World) (r : ByteArray) (hr : r = replyB [numS id, wordS e f g h]) :
    Calls Tryd.prog 18 #[.int .i64 kind, .agg (replyC id 0 0 0 0 0 ⟨#[]⟩ e f g h)] w (RetV (.tuple #[.string r, .bool true]) w) := by
  have HPOST := Lib.hid (show Ending.returned (.tuple #[.string (sumS (putL [numS id, wordS e f g h]) ++ putL [numS id, wordS e f g h]), .bool true]) = Ending.returned (.tuple #[.string r, .bool true]) by rw [hr]; rfl)
  have HID := Lib.hid (rnumber_any id hid)
  have HWB := Lib.hid (rwbytes_any e f g h he hf hg hh)
  have e1 : (kind == 1) = false := by rw [h1]; rfl
  have e2 : (kind == 2) = true := beq_iff_eq.2 h1
  clear h1 hr hid he hf hg hh
  have HW : Hid (St empH w none_ empH (w.alloc (.cells (replyC id 0 0 0 0 0 ⟨#[]⟩ e f g h) 45)) [blk w.heap.size (.cells (replyC id 0 0 0 0 0 ⟨#[]⟩ e f g h) 45)]) := (St.start (ag_emp w)).alloc _
  have k0 : (w.alloc (.cells (replyC id 0 0 0 0 0 ⟨#[]⟩ e f g h) 45)).cell? ⟨w.heap.size, 0, none⟩ = some (.int .u64 id) := HW.out.cell 0 rfl rfl
  go_enter Tryd.func18, Tryd.ntmps18
  go_wp2_with fail
  refine (HID.out _).mono ?_
  rintro e0 w1 ⟨rfl, hb1⟩
  have HS1 : Hid (St empH w none_ empH w1 [blk w.heap.size (.cells (replyC id 0 0 0 0 0 ⟨#[]⟩ e f g h) 45)]) := HW.out.grow hb1
  have HS2 : Hid (St empH w none_ empH (w1.alloc (.cells #[.bool false, .string (numS id), .slice none 0 0] 84)) [own 84 3 (.slice (some ⟨w1.heap.size, 0, none⟩) 1 1) 1 (textsC [numS id]), blk w.heap.size (.cells (replyC id 0 0 0 0 0 ⟨#[]⟩ e f g h) 45)]) := HS1.out.madeRow #[.bool false, .string (numS id), .slice none 0 0] rfl (by decide)
  have hwl : w.heap.size < w1.heap.size := HS1.out.blk_lt 0 rfl
  have k1 : w1.cell? ⟨w.heap.size, 1, none⟩ = some (.int .u64 0) := HS1.out.cell 0 rfl rfl
  have k2 : w1.cell? ⟨w.heap.size, 2, none⟩ = some (.int .u64 0) := HS1.out.cell 0 rfl rfl
  have k3 : w1.cell? ⟨w.heap.size, 3, none⟩ = some (.int .u64 0) := HS1.out.cell 0 rfl rfl
  have k4 : w1.cell? ⟨w.heap.size, 4, none⟩ = some (.int .u64 0) := HS1.out.cell 0 rfl rfl
  have k5 : w1.cell? ⟨w.heap.size, 5, none⟩ = some (.int .u64 0) := HS1.out.cell 0 rfl rfl
  have k6 : w1.cell? ⟨w.heap.size, 6, none⟩ = some (.string ⟨#[]⟩) := HS1.out.cell 0 rfl rfl
  have k7 : w1.cell? ⟨w.heap.size, 7, none⟩ = some (.int .u64 e) := HS1.out.cell 0 rfl rfl
  have k8 : w1.cell? ⟨w.heap.size, 8, none⟩ = some (.int .u64 f) := HS1.out.cell 0 rfl rfl
  have k9 : w1.cell? ⟨w.heap.size, 9, none⟩ = some (.int .u64 g) := HS1.out.cell 0 rfl rfl
  have k10 : w1.cell? ⟨w.heap.size, 10, none⟩ = some (.int .u64 h) := HS1.out.cell 0 rfl rfl
  clear hb1 HW k0
  go_wp2_with fail
  refine (HWB.out _).mono ?_
  rintro e3 w3 ⟨rfl, hb3⟩
  have HS2a := Lib.hid (HS2.out.grow hb3)
  clear hb3 HS1 HS2 k1 k2 k3 k4 k5 k6 k7 k8 k9 k10
  go_wp2_with fail
  refine (rtext_any _ _).mono ?_
  rintro e4 w4 ⟨rfl, hb4⟩
  have HS3 := Lib.hid ((HS2a.out.grow hb4).madeRow (e := 84) (size := 3) (n := 1) #[.bool false, .string (wordS e f g h), .slice none 0 0] rfl (by decide))
  clear hb4 HS2a
  obtain ⟨i0, hi, hz0, hz1, hz2⟩ := info_parts infoRItemP
  go_wp2_with (first
    | (at_builtin; refine wpList_append_st 1 84 HS3.out rfl rfl _ _ 82 rfl i0 _ 48 Tryd.underlying82 hi hz0 hz1 hz2 rfl (by decide) rfl ⟨w4.heap.size, 0, none⟩ 1 1 [.bool false, .string (wordS e f g h), .slice none 0 0] rfl rfl (fun j u hj => ?_) (oneItemL _ _ _ _ _) (by unfold maxLen; omega) (by omega) ?_)
    | fail)
  · rw [Addr.add_lit, Nat.zero_add]
    have h1 := HS3.out.ownCell 0 rfl j (by have := (List.getElem?_eq_some_iff.1 hj).1; simpa using this)
    exact h1.trans hj
  intro A4 c4 w5 S4
  clear HS3
  obtain ⟨H', hle, hrep, S5⟩ := S4.keepOwn 0 rfl (ds := itsD ([numS id, wordS e f g h].map It.text)) (texts_rep empH [numS id, wordS e f g h])
  have HREP : Hid (∀ A cp, RepV H' (.slice A 2 cp) (.sl 3 2 (itsD ([numS id, wordS e f g h].map It.text))) → RepL H' [.bool true, .string ⟨#[]⟩, .slice A 2 cp] (It.list ([numS id, wordS e f g h].map It.text)).d) := Lib.hid fun A cp h => by unfold It.d; exact .cons (.pl rfl) (.cons (.pl rfl) (.cons h .nil))
  have HREP2 := Lib.hid (HREP.out _ _ hrep)
  have HS5 := Lib.hid S5
  clear S5 hrep HREP
  go_wp2_with fail
  refine (renc_ok (.list ([numS id, wordS e f g h].map It.text)) (put_short (by simp)) _ _ _ _ _ HS5.out.ag HREP2.out (put_len (by simp) two_small)).mono ?_
  rintro e6 w6 ⟨rfl, hb6⟩
  have HS7 := Lib.hid (HS5.out.grow hb6)
  obtain ⟨body, hbody⟩ : ∃ body, body = putL [numS id, wordS e f g h] := ⟨_, rfl⟩
  have hb : (It.list ([numS id, wordS e f g h].map It.text)).bytes = body := by rw [hbody]; rfl
  rw [hb]
  rw [← hbody] at HPOST
  have hbs : body.size ≤ 2000000 := by rw [hbody]; exact putL_size (by simp) two_small
  have HSUM := Lib.hid (rsum_any body (Nat.le_trans hbs (by decide)))
  have h01 := crc_bd body
  clear HREP2 HS5 hb6 hbody hb
  go_wp2_with fail
  refine (HSUM.out _).mono ?_
  rintro e7 w7 ⟨rfl, rfl⟩
  have HSB : Hid (strOfNums (sumL (crcI 0 body)) = sumS body) := rfl
  obtain ⟨n, hn⟩ : ∃ n, n = crcI 0 body := ⟨_, rfl⟩
  rw [← hn] at HSB h01 ⊢
  have hn0 := h01.1
  have hn1 := h01.2
  have hconv := run_convert_bytes_arg (w7.alloc (.cells #[.int .u8 (n / 16777216), .int .u8 (n / 65536 % 256), .int .u8 (n / 256 % 256), .int .u8 (n % 256)] 5)) 33 5 Tryd.underlying33 Tryd.underlying5 w7.heap.size 0 4 4 (sumL n) rfl (fun i hi => by
    rw [cell_of_row _ _ _ _ _ _ (heap_alloc_new w7 _)]
    rcases (by omega : i = 0 ∨ i = 1 ∨ i = 2 ∨ i = 3) with e | e | e | e <;> rw [e] <;> rfl) 9 Tryd.underlying9
  have hcat : (strOfNums (sumL n)).size + body.size ≤ 9223372036854775807 := by
    have h4 : (strOfNums (sumL n)).size = 4 := rfl
    omega
  have HB := Lib.hid ((HS7.out.alloc (.cells #[.int .u8 (n / 16777216), .int .u8 (n / 65536 % 256), .int .u8 (n / 256 % 256), .int .u8 (n % 256)] 5)).below)
  clear HS7 hn h01 hbs
  go_wp2_with fail
  go_ret2
  exact ⟨by rw [← HPOST.out, ← HSB.out]; rfl, HB.out⟩
end Go.Proofs.YtfphlkkhpccpnaaDoor

namespace Go.Proofs.YtfphlkkhpccpnaaDoor
open Go.RowKit Go.Proofs K
set_option linter.unusedVariables false

set_option maxRecDepth 100000 in
set_option maxHeartbeats 4000000 in
theorem rputReply_one (kind id nonce a b c d : Int) (code : ByteArray) (hid : W64 id) (hno : W64 nonce) (ha : W64 a) (hb : W64 b) (hc : W64 c) (hd : W64 d) (hl : code.size ≤ 24576) (h1 : kind = 1) (w : World) (r : ByteArray) (hr : r = replyB [numS id, numS nonce, wordS a b c d, code]) :
    Calls Tryd.prog 18 #[.int .i64 kind, .agg (replyC id nonce a b c d code 0 0 0 0)] w (RetV (.tuple #[.string r, .bool true]) w) := by
  have HPOST := Lib.hid (show Ending.returned (.tuple #[.string (sumS (putL [numS id, numS nonce, wordS a b c d, code]) ++ putL [numS id, numS nonce, wordS a b c d, code]), .bool true]) = Ending.returned (.tuple #[.string r, .bool true]) by rw [hr]; rfl)
  have HLC := Lib.hid hl
  have HID := Lib.hid (rnumber_any id hid)
  have HNO := Lib.hid (rnumber_any nonce hno)
  have HWB := Lib.hid (rwbytes_any a b c d ha hb hc hd)
  have hl' : ¬ (24576 : Int) < (code.size : Int) := by omega
  have e1 : (kind == 1) = true := beq_iff_eq.2 h1
  clear hl h1 hr hid hno ha hb hc hd
  have HW : Hid (St empH w none_ empH (w.alloc (.cells (replyC id nonce a b c d code 0 0 0 0) 45)) [blk w.heap.size (.cells (replyC id nonce a b c d code 0 0 0 0) 45)]) := (St.start (ag_emp w)).alloc _
  have k0 : (w.alloc (.cells (replyC id nonce a b c d code 0 0 0 0) 45)).cell? ⟨w.heap.size, 0, none⟩ = some (.int .u64 id) := HW.out.cell 0 rfl rfl
  go_enter Tryd.func18, Tryd.ntmps18
  go_wp2_with fail
  refine (HID.out _).mono ?_
  rintro e0 w1 ⟨rfl, hb1⟩
  have HS1 : Hid (St empH w none_ empH w1 [blk w.heap.size (.cells (replyC id nonce a b c d code 0 0 0 0) 45)]) := HW.out.grow hb1
  have HS2 : Hid (St empH w none_ empH (w1.alloc (.cells #[.bool false, .string (numS id), .slice none 0 0] 84)) [own 84 3 (.slice (some ⟨w1.heap.size, 0, none⟩) 1 1) 1 (textsC [numS id]), blk w.heap.size (.cells (replyC id nonce a b c d code 0 0 0 0) 45)]) := HS1.out.madeRow #[.bool false, .string (numS id), .slice none 0 0] rfl (by decide)
  have hwl : w.heap.size < w1.heap.size := HS1.out.blk_lt 0 rfl
  have k6 : w1.cell? ⟨w.heap.size, 6, none⟩ = some (.string code) := HS1.out.cell 0 rfl rfl
  have k7 : w1.cell? ⟨w.heap.size, 7, none⟩ = some (.int .u64 0) := HS1.out.cell 0 rfl rfl
  have k8 : w1.cell? ⟨w.heap.size, 8, none⟩ = some (.int .u64 0) := HS1.out.cell 0 rfl rfl
  have k9 : w1.cell? ⟨w.heap.size, 9, none⟩ = some (.int .u64 0) := HS1.out.cell 0 rfl rfl
  have k10 : w1.cell? ⟨w.heap.size, 10, none⟩ = some (.int .u64 0) := HS1.out.cell 0 rfl rfl
  clear hb1 HW k0
  go_wp2_with fail
  obtain ⟨W, hW⟩ : ∃ W, W = w1.alloc (.cells #[.bool false, .string (numS id), .slice none 0 0] 84) := ⟨_, rfl⟩
  rw [← hW] at HS2 ⊢
  have f1 : ∀ w', Below W.heap.size W w' → w'.cell? ⟨w.heap.size, 1, none⟩ = some (.int .u64 nonce) := fun w' h => (HS2.out.grow h).cell 1 rfl rfl
  have f2 : ∀ w', Below W.heap.size W w' → w'.cell? ⟨w.heap.size, 2, none⟩ = some (.int .u64 a) := fun w' h => (HS2.out.grow h).cell 1 rfl rfl
  have f3 : ∀ w', Below W.heap.size W w' → w'.cell? ⟨w.heap.size, 3, none⟩ = some (.int .u64 b) := fun w' h => (HS2.out.grow h).cell 1 rfl rfl
  have f4 : ∀ w', Below W.heap.size W w' → w'.cell? ⟨w.heap.size, 4, none⟩ = some (.int .u64 c) := fun w' h => (HS2.out.grow h).cell 1 rfl rfl
  have f5 : ∀ w', Below W.heap.size W w' → w'.cell? ⟨w.heap.size, 5, none⟩ = some (.int .u64 d) := fun w' h => (HS2.out.grow h).cell 1 rfl rfl
  have f6 : ∀ w', Below W.heap.size W w' → w'.cell? ⟨w.heap.size, 6, none⟩ = some (.string code) := fun w' h => (HS2.out.grow h).cell 1 rfl rfl
  have hb0 : Below W.heap.size W W.drew := (Below.refl _ _).drew
  obtain ⟨i0, hi, hz0, hz1, hz2⟩ := info_parts infoRItemP
  clear hW k6 k7 k8 k9 k10 HS1 hwl
  go_region_law (first
    | (go_simp; go_at_call 38; refine (retFrom (W := W) ?_ (HNO.out _)).mono ?_; (first | assumption | exact (Below.refl _ _).drew); rintro e2 w2 ⟨rfl, hb2⟩)
    | (go_simp; go_at_call 40; refine (retFrom (W := W) ?_ (HWB.out _)).mono ?_; (first | assumption | exact (Below.refl _ _).drew); rintro e3 w3 ⟨rfl, hb3⟩)
    | (go_simp; go_at_call 39; refine (retFrom (W := W) ?_ (rtext_any _ _)).mono ?_; (first | assumption | exact (Below.refl _ _).drew); rintro e4 w4 ⟨rfl, hb4⟩; have HS3 : Hid (St empH w none_ empH (w4.alloc (.cells #[.bool false, .string (numS nonce), .slice none 0 0, .bool false, .string (wordS a b c d), .slice none 0 0, .bool false, .string code, .slice none 0 0] 84)) [own 84 3 (.slice (some ⟨w4.heap.size, 0, none⟩) 3 3) 3 (textsC [numS nonce, wordS a b c d, code]), own 84 3 (.slice (some ⟨w1.heap.size, 0, none⟩) 1 1) 1 (textsC [numS id]), blk w.heap.size (.cells (replyC id nonce a b c d code 0 0 0 0) 45)]) := (HS2.out.grow hb4).madeRow #[.bool false, .string (numS nonce), .slice none 0 0, .bool false, .string (wordS a b c d), .slice none 0 0, .bool false, .string code, .slice none 0 0] rfl (by decide))
    | (refine step_append_st 1 84 HS3.out rfl rfl (.tmp 28) (.tmp 42) 82 rfl i0 _ 48 Tryd.underlying82 hi hz0 hz1 hz2 rfl (by decide) rfl ⟨w4.heap.size, 0, none⟩ 3 3 (textsC [numS nonce, wordS a b c d, code]) rfl rfl (fun j u hj => ?_) ?_ ?_ ?_ ?_; (rw [Addr.add_lit, Nat.zero_add]; exact (HS3.out.ownCell 0 rfl j (by have := (List.getElem?_eq_some_iff.1 hj).1; simpa [textsC, textC] using this)).trans hj); (simp [textsC, textC, Value.oneCell']); (unfold maxLen; omega); omega; intro A4 c4 w5 S4))
  all_goals
    obtain ⟨H', hle, hrep, S5⟩ := S4.keepOwn 0 rfl (ds := itsD ([numS id, numS nonce, wordS a b c d, code].map It.text)) (texts_rep empH [numS id, numS nonce, wordS a b c d, code])
    have HREP : Hid (∀ A cp, RepV H' (.slice A 4 cp) (.sl 3 4 (itsD ([numS id, numS nonce, wordS a b c d, code].map It.text))) → RepL H' [.bool true, .string ⟨#[]⟩, .slice A 4 cp] (It.list ([numS id, numS nonce, wordS a b c d, code].map It.text)).d) := Lib.hid fun A cp h => by unfold It.d; exact .cons (.pl rfl) (.cons (.pl rfl) (.cons h .nil))
    have HREP2 := Lib.hid (HREP.out _ _ hrep)
    have HS5 := Lib.hid S5
    clear S5 hrep HREP
    go_wp2_with fail
    refine (renc_ok (.list ([numS id, numS nonce, wordS a b c d, code].map It.text)) (put_short (by simp)) _ _ _ _ _ HS5.out.ag HREP2.out (put_len (by simp) (four_small HLC.out))).mono ?_
    rintro e6 w6 ⟨rfl, hb6⟩
    have HS7 := Lib.hid (HS5.out.grow hb6)
    obtain ⟨body, hbody⟩ : ∃ body, body = putL [numS id, numS nonce, wordS a b c d, code] := ⟨_, rfl⟩
    have hb : (It.list ([numS id, numS nonce, wordS a b c d, code].map It.text)).bytes = body := by rw [hbody]; rfl
    rw [hb]
    rw [← hbody] at HPOST
    have hbs : body.size ≤ 2000000 := by rw [hbody]; exact putL_size (by simp) (four_small HLC.out)
    have HSUM := Lib.hid (rsum_any body (Nat.le_trans hbs (by decide)))
    have h01 := crc_bd body
    clear HREP2 HS5 hb6 hbody hb
    go_wp2_with fail
    refine (HSUM.out _).mono ?_
    rintro e7 w7 ⟨rfl, rfl⟩
    have HSB : Hid (strOfNums (sumL (crcI 0 body)) = sumS body) := rfl
    obtain ⟨n, hn⟩ : ∃ n, n = crcI 0 body := ⟨_, rfl⟩
    rw [← hn] at HSB h01 ⊢
    have hn0 := h01.1
    have hn1 := h01.2
    have hconv := run_convert_bytes_arg (w7.alloc (.cells #[.int .u8 (n / 16777216), .int .u8 (n / 65536 % 256), .int .u8 (n / 256 % 256), .int .u8 (n % 256)] 5)) 33 5 Tryd.underlying33 Tryd.underlying5 w7.heap.size 0 4 4 (sumL n) rfl (fun i hi => by
      rw [cell_of_row _ _ _ _ _ _ (heap_alloc_new w7 _)]
      rcases (by omega : i = 0 ∨ i = 1 ∨ i = 2 ∨ i = 3) with e | e | e | e <;> rw [e] <;> rfl) 9 Tryd.underlying9
    have hcat : (strOfNums (sumL n)).size + body.size ≤ 9223372036854775807 := by
      have h4 : (strOfNums (sumL n)).size = 4 := rfl
      omega
    have HB := Lib.hid ((HS7.out.alloc (.cells #[.int .u8 (n / 16777216), .int .u8 (n / 65536 % 256), .int .u8 (n / 256 % 256), .int .u8 (n % 256)] 5)).below)
    clear HS7 hn h01 hbs
    go_wp2_with fail
    go_ret2
    exact ⟨by rw [← HPOST.out, ← HSB.out]; rfl, HB.out⟩
theorem rputReply_all (kind id nonce a b c d : Int) (code : ByteArray) (e f g h : Int) (hid : W64 id) (hno : W64 nonce) (ha : W64 a) (hb : W64 b) (hc : W64 c) (hd : W64 d) (he : W64 e) (hf : W64 f) (hg : W64 g) (hh : W64 h) (w : World) :
    Calls Tryd.prog 18 #[.int .i64 kind, .agg (replyC id nonce a b c d code e f g h)] w (RetV (.tuple #[.string (putReplyR kind id nonce a b c d code e f g h).1, .bool (putReplyR kind id nonce a b c d code e f g h).2]) w) := by
  unfold putReplyR
  by_cases hl : 24576 < code.size
  · rw [if_pos hl]
    exact rputReply_long kind id nonce a b c d code e f g h hid hl w
  · rw [if_neg hl]
    have hl' : code.size ≤ 24576 := by omega
    by_cases h1 : kind = 1
    · rw [if_pos h1]
      by_cases hz : e = 0 ∧ f = 0 ∧ g = 0 ∧ h = 0
      · rw [if_pos hz]
        obtain ⟨rfl, rfl, rfl, rfl⟩ := hz
        exact rputReply_one kind id nonce a b c d code hid hno ha hb hc hd hl' h1 w _ rfl
      · rw [if_neg hz]
        exact rputReply_value kind id nonce a b c d code e f g h hid hl' h1 hz w
    · rw [if_neg h1]
      by_cases h2 : kind = 2
      · rw [if_pos h2]
        by_cases hz : nonce = 0 ∧ (a = 0 ∧ b = 0 ∧ c = 0 ∧ d = 0) ∧ code.toList = []
        · rw [if_pos hz]
          obtain ⟨rfl, ⟨rfl, rfl, rfl, rfl⟩, hz⟩ := hz
          have hz' : code = ⟨#[]⟩ := by
            rw [ByteArray.toList_eq] at hz
            exact ByteArray.ext (Array.toList_inj.1 hz)
          subst hz'
          exact rputReply_two kind id e f g h hid he hf hg hh h2 w _ rfl
        · rw [if_neg hz]
          exact rputReply_account kind id nonce a b c d code e f g h hid hl' h2 hz w
      · rw [if_neg h2]
        exact rputReply_kind kind id nonce a b c d code e f g h hid hl' h1 h2 w
end Go.Proofs.YtfphlkkhpccpnaaDoor

namespace Go.Proofs.YtfphlkkhpccpnaaDoor
open Go.RowKit Go.Proofs K
set_option linter.unusedVariables false

/-- The reply that the document forms of a list's items. -/
def rItS (k : List It) (j : Nat) : ByteArray := match k[j]? with | some x => itS x | none => ⟨#[]⟩
def rItN (k : List It) (j : Nat) : Int := match k[j]? with | some x => rNum x | none => 0
def rVal (kind : Int) (k : List It) (j : Nat) : Int := if kind = 2 then ofW (rItS k 1) j else 0
def rBig (kind : Int) (k : List It) : Bool := decide (kind = 1) && decide (3 < k.length)
def rNon (kind : Int) (k : List It) : Int := if rBig kind k = true then rItN k 1 else 0
def rBal (kind : Int) (k : List It) (j : Nat) : Int := if rBig kind k = true then ofW (rItS k 2) j else 0
def rCod (kind : Int) (k : List It) : ByteArray := if rBig kind k = true then rItS k 3 else ⟨#[]⟩
def rPut (kind : Int) (k : List It) : ByteArray × Bool := putReplyR kind (rItN k 0) (rNon kind k) (rBal kind k 3) (rBal kind k 2) (rBal kind k 1) (rBal kind k 0) (rCod kind k) (rVal kind k 3) (rVal kind k 2) (rVal kind k 1) (rVal kind k 0)
def rRep (kind : Int) (k : List It) : Array Value := replyC (rItN k 0) (rNon kind k) (rBal kind k 3) (rBal kind k 2) (rBal kind k 1) (rBal kind k 0) (rCod kind k) (rVal kind k 3) (rVal kind k 2) (rVal kind k 1) (rVal kind k 0)
theorem w64_zero : W64 0 := ⟨by decide, by decide⟩
theorem rItN_bd (k : List It) (j : Nat) : W64 (rItN k j) := by
  unfold rItN
  split
  · exact rNum_bd _
  · exact w64_zero
theorem ofW_bd (s : ByteArray) (j : Nat) : W64 (ofW s j) := by
  unfold ofW
  split
  · exact ofL_bd _ _ _
  · exact w64_zero
theorem rNon_bd (kind : Int) (k : List It) : W64 (rNon kind k) := by
  unfold rNon
  split
  · exact rItN_bd _ _
  · exact w64_zero
theorem rBal_bd (kind : Int) (k : List It) (j : Nat) : W64 (rBal kind k j) := by
  unfold rBal
  split
  · exact ofW_bd _ _
  · exact w64_zero
theorem rVal_bd (kind : Int) (k : List It) (j : Nat) : W64 (rVal kind k j) := by
  unfold rVal
  split
  · exact ofW_bd _ _
  · exact w64_zero
inductive RGetRD (kind : Int) (l : List UInt8) : Option (Array Value) → Prop
  | short (h : l.length < 4) : RGetRD kind l none
  | bad (h : DecR (l.drop 4) none) : RGetRD kind l none
  | few {i : It} (h : DecR (l.drop 4) (some i)) (h2 : (itemsOf i).length < 2) : RGetRD kind l none
  | other {i : It} (h : DecR (l.drop 4) (some i)) (h2 : 2 ≤ (itemsOf i).length) (hn : rPut kind (itemsOf i) ≠ (bs l, true)) : RGetRD kind l none
  | good {i : It} (h : DecR (l.drop 4) (some i)) (h2 : 2 ≤ (itemsOf i).length) (hn : rPut kind (itemsOf i) = (bs l, true)) : RGetRD kind l (some (rRep kind (itemsOf i)))
def RGetRQ (kind : Int) (l : List UInt8) (w : World) (e : Ending) (w' : World) : Prop := ∃ o, RGetRD kind l o ∧ e = .returned (.tuple #[.agg (o.getD zReply), .bool o.isSome]) ∧ Below w.heap.size w w'
end Go.Proofs.YtfphlkkhpccpnaaDoor

namespace Go.Proofs.YtfphlkkhpccpnaaDoor
open Go.RowKit Go.Proofs K
set_option linter.unusedVariables false

theorem askR_bd {l r : List It} {id : Int} {addr : ByteArray} {a b c d k : Int} (h : askR l = some (askC id addr a b c d k, r)) : W64 id ∧ W64 a ∧ W64 b ∧ W64 c ∧ W64 d := by
  unfold askR at h
  obtain ⟨x, h1, h⟩ := Option.bind_eq_some_iff.1 h
  obtain ⟨y, h2, h⟩ := Option.bind_eq_some_iff.1 h
  obtain ⟨z, h3, h⟩ := Option.bind_eq_some_iff.1 h
  have hx : W64 x.1 := by
    unfold numR at h1
    split at h1
    · split at h1
      · cases h1
        exact smallR_bd _
      · cases h1
    · cases h1
  have z0 : W64 0 := ⟨by decide, by decide⟩
  split at h
  · simp only [Option.some.injEq, Prod.mk.injEq] at h
    obtain ⟨rfl, _, rfl, rfl, rfl, rfl, _⟩ := askC_inj h.1
    exact ⟨hx, z0, z0, z0, z0⟩
  · split at h
    · obtain ⟨t, h4, h⟩ := Option.map_eq_some_iff.1 h
      simp only [Prod.mk.injEq] at h
      obtain ⟨rfl, _, rfl, rfl, rfl, rfl, _⟩ := askC_inj h.1
      exact ⟨hx, ofL_bd _ _ _, ofL_bd _ _ _, ofL_bd _ _ _, ofL_bd _ _ _⟩
    · cases h
theorem askF_bd {l : List UInt8} {id : Int} {addr : ByteArray} {a b c d k : Int} (h : askF l = some (askC id addr a b c d k)) : W64 id ∧ W64 a ∧ W64 b ∧ W64 c ∧ W64 d := by
  unfold askF at h
  split at h
  · split at h
    · rename_i h2
      simp only [Option.some.injEq] at h
      subst h
      exact askR_bd h2
    · cases h
  · cases h
theorem two64 : W64 (IntKind.u64.wrap 2) ∧ W64 (IntKind.u64.wrap 1) := ⟨wrapU_bd _, wrapU_bd _⟩
theorem ofW_word {a b c d : Int} (ha : W64 a) (hb : W64 b) (hc : W64 c) (hd : W64 d) : ofW (wordS a b c d) 3 = a ∧ ofW (wordS a b c d) 2 = b ∧ ofW (wordS a b c d) 1 = c ∧ ofW (wordS a b c d) 0 = d := by
  have h := word_back ha hb hc hd
  have hs : (wordS a b c d).size ≤ 32 := by rw [wordS_size]; exact Nat.le_refl _
  unfold ofW
  rw [if_pos hs, if_pos hs, if_pos hs, if_pos hs]
  exact h
theorem ref_put {id : Int} {addr : ByteArray} {a b c d k : Int} (hid : W64 id) (ha : W64 a) (hb : W64 b) (hc : W64 c) (hd : W64 d) (h : AskOk id addr a b c d k) {o : Option (Array Value)} (hR : RGetD (putL (askTs id addr a b c d k)).data.toList o) : o = some (askC id addr a b c d k) := by
  have hdec := decF_put (askTs_len (id := id) (a := a) (b := b) (c := c) (d := d) (kind := k) h.1)
  have hput := putAskR_ok h
  have hbs : bs (putL (askTs id addr a b c d k)).data.toList = putL (askTs id addr a b c d k) := bs_list _
  have key : ∀ i i0 i1 i2 : It, DecR (putL (askTs id addr a b c d k)).data.toList (some i) → (itemsOf i)[0]? = some i0 → (itemsOf i)[1]? = some i1 → (itemsOf i)[2]? = some i2 →
      rNum i0 = id ∧ itS i2 = addr ∧ slotR (itemsOf i) 3 = a ∧ slotR (itemsOf i) 2 = b ∧ slotR (itemsOf i) 1 = c ∧ slotR (itemsOf i) 0 = d ∧ kindR (rNum i1) = k := by
    intro i i0 i1 i2 hD h0 h1 h2
    have hi := (decF_of hD).symm.trans hdec
    simp only [Option.some.injEq] at hi
    subst hi
    obtain ⟨h20, h21⟩ := h
    rcases h21 with rfl | ⟨rfl, rfl, rfl, rfl, rfl⟩
    · rw [show askTs id addr a b c d 2 = [numS id, numS (IntKind.u64.wrap 2), addr, wordS a b c d] from rfl] at h0 h1 h2 ⊢
      simp only [itemsOf, List.map_cons, List.map_nil, List.getElem?_cons_zero, List.getElem?_cons_succ, Option.some.injEq] at h0 h1 h2
      subst h0 h1 h2
      obtain ⟨e1, e2, e3, e4⟩ := ofW_word ha hb hc hd
      exact ⟨numS_back hid.1 hid.2, rfl, e1, e2, e3, e4, by show kindR (smallR _) = 2; rw [numS_back two64.1.1 two64.1.2]; rfl⟩
    · rw [show askTs id addr 0 0 0 0 1 = [numS id, numS (IntKind.u64.wrap 1), addr] from rfl] at h0 h1 h2 ⊢
      simp only [itemsOf, List.map_cons, List.map_nil, List.getElem?_cons_zero, List.getElem?_cons_succ, Option.some.injEq] at h0 h1 h2
      subst h0 h1 h2
      exact ⟨numS_back hid.1 hid.2, rfl, rfl, rfl, rfl, rfl, by show kindR (smallR _) = 1; rw [numS_back two64.2.1 two64.2.2]; rfl⟩
  cases hR with
  | bad hD => have := decF_of hD; rw [hdec] at this; cases this
  | few hD h3 =>
    have hi := (decF_of hD).symm.trans hdec
    simp only [Option.some.injEq] at hi
    subst hi
    exfalso
    unfold askTs at h3
    split at h3 <;> simp [itemsOf] at h3
  | other hD h0 h1 h2 hn =>
    obtain ⟨e1, e2, e3, e4, e5, e6, e7⟩ := key _ _ _ _ hD h0 h1 h2
    rw [e1, e2, e3, e4, e5, e6, e7, hput, hbs] at hn
    exact absurd rfl hn
  | good hD h0 h1 h2 hn =>
    obtain ⟨e1, e2, e3, e4, e5, e6, e7⟩ := key _ _ _ _ hD h0 h1 h2
    rw [e1, e2, e3, e4, e5, e6, e7]
theorem ok_of {id : Int} {addr : ByteArray} {a b c d k : Int} {t : ByteArray} (h : putAskR id addr a b c d k = (t, true)) : AskOk id addr a b c d k := by
  by_cases hk : AskOk id addr a b c d k
  · exact hk
  · rw [putAskR_no hk] at h
    cases h
theorem askF_nil : askF [] = none := rfl
/-- The two tell the same. -/
theorem same_ask {l : List UInt8} {o : Option (Array Value)} (hR : RGetD l o) {w w' : World} {e : Ending} (hG : GetAskP l w e w') : e = .returned (.tuple #[.agg (o.getD zAsk), .bool o.isSome]) := by
  rcases getAsk_is hG with ⟨id, addr, a, b, c, d, k, hf, hp, he⟩ | ⟨he, hn⟩
  · obtain ⟨hid, ha, hb, hc, hd⟩ := askF_bd hf
    have hok : AskOk id addr a b c d k := by
      by_cases hk : AskOk id addr a b c d k
      · exact hk
      · rw [putAskR_no hk] at hp
        have : l = [] := by
          have := congrArg (fun x : ByteArray => x.data.toList) hp
          simpa [bs] using this.symm
        subst this
        rw [askF_nil] at hf
        cases hf
    rw [putAskR_ok hok] at hp
    have hl : l = (putL (askTs id addr a b c d k)).data.toList := by
      have := congrArg (fun x : ByteArray => x.data.toList) hp
      simpa [bs] using this.symm
    subst hl
    rw [ref_put hid ha hb hc hd hok hR, he]
    rfl
  · rw [he]
    cases o with
    | none => rfl
    | some x =>
      exfalso
      cases hR with
      | @good i i0 i1 i2 hD h0 h1 h2 hput =>
        have hok := ok_of hput
        rw [putAskR_ok hok] at hput
        have hp := (Prod.mk.inj hput).1
        have hl : l = (putL (askTs (rNum i0) (itS i2) (slotR (itemsOf i) 3) (slotR (itemsOf i) 2) (slotR (itemsOf i) 1) (slotR (itemsOf i) 0) (kindR (rNum i1)))).data.toList := by
          have := congrArg (fun x : ByteArray => x.data.toList) hp
          simpa [bs] using this.symm
        have hf := askF_put (rNum_bd i0) (slotR_bd _ 3) (slotR_bd _ 2) (slotR_bd _ 1) (slotR_bd _ 0) hok
        rw [← hl] at hf
        exact hn _ _ _ _ _ _ _ hf (by rw [putAskR_ok hok]; exact hp)
end Go.Proofs.YtfphlkkhpccpnaaDoor


namespace Go.Proofs.YtfphlkkhpccpnaaDoor
open Go.RowKit Go.Proofs K
set_option linter.unusedVariables false

theorem small_canon {s : ByteArray} (h : smallOk s = true) : numL (smallR s) = s.data.toList := by
  have h' := h
  simp only [smallOk, Bool.and_eq_true, decide_eq_true_eq, Bool.not_eq_true'] at h
  have hl : s.data.toList.length ≤ 8 := by rw [sizeL]; exact h.1
  have hv : valN s.data.toList < 18446744073709551616 := Nat.lt_of_lt_of_le (valN_lt hl) (Nat.le_trans (Nat.pow_le_pow_right (by decide) hl) (by decide))
  unfold smallR
  rw [if_pos h', smallV_val hl, ← bytesN_num hv, bytesN_val _ _ (Nat.le_refl _) (clean_of h.2)]
theorem num_canon {s : ByteArray} (h : smallOk s = true) : numS (smallR s) = s := by
  unfold numS
  rw [small_canon h]
theorem many_canon {base f : Nat} {b : UInt8} (hb : b.toNat = base + f) {l r : List UInt8} {n : Nat} (h : manyL f l = some (n, r)) : b :: l = aheadL base n ++ r := by
  have hbb : b = UInt8.ofNat (base + f) := by rw [← hb]; simp
  unfold manyL at h
  split at h
  · rename_i hf
    cases h
    unfold aheadL
    rw [if_pos hf, ← hbb]
    rfl
  · rename_i hf
    split at h
    · rename_i hl
      simp only at h
      split at h
      · rename_i h3
        cases h
        have e := small_canon h3.1
        unfold aheadL
        rw [if_neg (by omega), Int.toNat_of_nonneg (by omega), e]
        simp only [List.length_take, Nat.min_eq_left hl]
        rw [show base + 55 + (f - 55) = base + f by omega, ← hbb, List.cons_append, List.take_append_drop]
      · cases h
    · cases h
theorem enc_text {l : List UInt8} (h : ∀ c, l = [c] → ¬ c.toNat < 128) : (It.text ⟨l.toArray⟩).enc = aheadL 128 l.length ++ l := by
  rw [It.enc]
  unfold textL
  match l, h with
  | [], _ => rfl
  | [c], h =>
    simp only
    rw [if_neg (fun h2 => h c rfl ((lt128 c).1 h2))]
    rfl
  | a :: b :: t, _ => rfl
theorem many_one {f : Nat} {l r : List UInt8} (h : manyL f l = some (1, r)) : f = 1 := by
  unfold manyL at h
  split at h
  · simp only [Option.some.injEq, Prod.mk.injEq] at h
    exact h.1
  · split at h
    · simp only at h
      split at h
      · rename_i h3
        simp only [Option.some.injEq, Prod.mk.injEq] at h
        have h1 := h.1
        have h2 := h3.2.1
        omega
      · cases h
    · cases h
set_option maxRecDepth 100000 in
mutual
theorem RdI.canon : ∀ {d : Nat} {l : List UInt8} {o : Option (It × List UInt8)}, RdI d l o → ∀ {i : It} {r : List UInt8}, o = some (i, r) → l = i.enc ++ r
  | _, _, _, .deep _, _, _, h => by cases h
  | _, _, _, .nil, _, _, h => by cases h
  | _, _, _, .one (b := b) hd hb, _, _, h => by
    cases h
    rw [It.enc]
    unfold textL
    simp only
    rw [if_pos ((lt128 b).2 hb)]
    rfl
  | _, _, _, .many .., _, _, h => by cases h
  | _, _, _, .cut .., _, _, h => by cases h
  | _, _, _, .bad .., _, _, h => by cases h
  | _, _, _, .text (b := b) (r2 := r2) (n := n) hd hb hb2 hm hn ht, _, _, h => by
    cases h
    rw [many_canon (base := 128) (by omega) hm, enc_text, List.append_assoc, List.take_append_drop, List.length_take, Nat.min_eq_left hn]
    intro c hc h1
    refine ht c hc h1 ?_
    have hn1 : n = 1 := by
      have := congrArg List.length hc
      rw [List.length_take, Nat.min_eq_left hn] at this
      exact this
    subst hn1
    have := many_one hm
    omega
  | _, _, _, .manyL .., _, _, h => by cases h
  | _, _, _, .cutL .., _, _, h => by cases h
  | _, _, _, .badL .., _, _, h => by cases h
  | _, _, _, .list (r2 := r2) (n := n) hd hb hm hn hl, _, _, h => by
    cases h
    rw [many_canon (base := 192) (by omega) hm, It.enc, ← RdL.canon hl rfl, List.append_assoc, List.take_append_drop, List.length_take, Nat.min_eq_left hn]
theorem RdL.canon : ∀ {d : Nat} {l : List UInt8} {o : Option (List It)}, RdL d l o → ∀ {k : List It}, o = some k → l = encL k
  | _, _, _, .nil, _, h => by cases h; rfl
  | _, _, _, .bad .., _, h => by cases h
  | _, _, _, .step (o := o) hl hi ht, _, h => by
    cases o with
    | none => cases h
    | some k =>
      cases h
      rw [encL, RdI.canon hi rfl, RdL.canon ht rfl]
end
theorem dec_canon {l : List UInt8} {i : It} (h : DecR l (some i)) : l = i.enc := by
  cases h with
  | good h hr => rw [RdI.canon hr rfl, List.append_nil]
theorem byte8 (f : Nat → Nat) (hf : ∀ j, f j < 256) : ∃ n, n < 18446744073709551616 ∧ ∀ j, j < 8 → f j = n / 2 ^ (j * 8) % 256 := by
  refine ⟨f 0 + f 1 * 256 + f 2 * 65536 + f 3 * 16777216 + f 4 * 4294967296 + f 5 * 1099511627776 + f 6 * 281474976710656 + f 7 * 72057594037927936, ?_, fun j hj => ?_⟩
  · have h0 := hf 0; have h1 := hf 1; have h2 := hf 2; have h3 := hf 3; have h4 := hf 4; have h5 := hf 5; have h6 := hf 6; have h7 := hf 7
    omega
  · have h0 := hf 0; have h1 := hf 1; have h2 := hf 2; have h3 := hf 3; have h4 := hf 4; have h5 := hf 5; have h6 := hf 6; have h7 := hf 7
    rcases (by omega : j = 0 ∨ j = 1 ∨ j = 2 ∨ j = 3 ∨ j = 4 ∨ j = 5 ∨ j = 6 ∨ j = 7) with e | e | e | e | e | e | e | e <;> subst e <;> simp only [Nat.zero_mul, Nat.one_mul, Nat.reduceMul, Nat.reducePow, Nat.pow_zero] <;> omega
theorem of_word {s : ByteArray} (hs : s.size = 32) : wordS (ofL s s.size 3) (ofL s s.size 2) (ofL s s.size 1) (ofL s s.size 0) = s := by
  have hf : ∀ i, ∃ n, n < 18446744073709551616 ∧ ∀ j, j < 8 → (s.data.toList.getD (31 - (8 * i + j)) 0).toNat = n / 2 ^ (j * 8) % 256 := fun i => byte8 (fun j => (s.data.toList.getD (31 - (8 * i + j)) 0).toNat) fun j => UInt8.toNat_lt _
  obtain ⟨L, hL⟩ : ∃ L : Nat → Nat, ∀ i, L i < 18446744073709551616 ∧ ∀ j, j < 8 → (s.data.toList.getD (31 - (8 * i + j)) 0).toNat = L i / 2 ^ (j * 8) % 256 := ⟨fun i => (hf i).choose, fun i => (hf i).choose_spec⟩
  clear hf
  have hlow : ∀ k, k < 32 → lowB s k = ((L (k / 8) / 2 ^ (k % 8 * 8) % 256 : Nat) : Int) := fun k hk => by
    unfold lowB
    rw [hs, ← (hL (k / 8)).2 (k % 8) (Nat.mod_lt _ (by decide)), show 8 * (k / 8) + k % 8 = k by omega]
  have key : ∀ i, i < 4 → ofL s 32 i = (L i : Int) := fun i hi => by
    rw [of_part (fun i => (hL i).1) 32 hlow 32 i (by omega), show min (32 - 8 * i) 8 = 8 by omega, Nat.mod_eq_of_lt (by have := (hL i).1; simpa using this)]
  rw [hs, key 3 (by omega), key 2 (by omega), key 1 (by omega), key 0 (by omega)]
  have hlim : ∀ q, q < 4 → lim (L 3) (L 2) (L 1) (L 0) q = (L q : Int) := fun q hq => by
    rcases (by omega : q = 0 ∨ q = 1 ∨ q = 2 ∨ q = 3) with e | e | e | e <;> subst e <;> rfl
  have e1 : (wordS (L 3) (L 2) (L 1) (L 0)).data.toList = (wordL (L 3) (L 2) (L 1) (L 0)).map fun x => UInt8.ofNat x.toNat := by simp [wordS, strOfNums]
  refine ByteArray.ext (Array.toList_inj.1 ?_)
  rw [e1]
  refine List.ext_getElem (by rw [sizeL, hs]; simp [wordL]) fun j h1 h2 => ?_
  have hj : j < 32 := by rw [sizeL, hs] at h2; exact h2
  have e2 : (wordL (L 3) (L 2) (L 1) (L 0))[j]'(by simpa [wordL] using hj) = lowB s (31 - j) := by
    simp only [wordL, List.getElem_map, List.getElem_range]
    unfold wbyte
    rw [hlim _ (by omega), hlow _ (by omega)]
    simp
  rw [List.getElem_map, e2]
  unfold lowB
  rw [hs, show 32 - 1 - (31 - j) = j by omega, List.getD_eq_getElem?_getD, List.getElem?_eq_getElem h2]
  simp
/-- What an account's reply is read of. -/
theorem reply_canon {kind : Int} {k : List It} {r : Array Value} (h : replyR kind k = some (r, [])) :
    (kind = 2 ∧ ∃ id a b c d, W64 id ∧ W64 a ∧ W64 b ∧ W64 c ∧ W64 d ∧ k = [numS id, wordS a b c d].map It.text ∧ r = replyC id 0 0 0 0 0 ⟨#[]⟩ a b c d) ∨
    (kind ≠ 2 ∧ ∃ id n a b c d code, W64 id ∧ W64 n ∧ W64 a ∧ W64 b ∧ W64 c ∧ W64 d ∧ code.size ≤ 24576 ∧ k = [numS id, numS n, wordS a b c d, code].map It.text ∧ r = replyC id n a b c d code 0 0 0 0) := by
  have hnum : ∀ {k r : List It} {x : Int}, numR k = some (x, r) → W64 x ∧ k = .text (numS x) :: r := by
    intro k r x h
    unfold numR at h
    split at h
    · split at h
      · rename_i hs
        cases h
        exact ⟨smallR_bd _, by rw [num_canon hs]⟩
      · cases h
    · cases h
  have htxt : ∀ {k r : List It} {n : Int} {x : ByteArray}, txtR n k = some (x, r) → (n < 0 ∨ (x.size : Int) = n) ∧ k = .text x :: r := by
    intro k r n x h
    unfold txtR at h
    split at h
    · split at h
      · rename_i hs
        cases h
        exact ⟨hs, rfl⟩
      · cases h
    · cases h
  unfold replyR at h
  obtain ⟨⟨x, k1⟩, h1, g⟩ := Option.bind_eq_some_iff.1 h
  clear h
  obtain ⟨hx, rfl⟩ := hnum h1
  clear h1
  have h := g
  clear g
  dsimp only at h
  split at h
  · rename_i hk
    left
    refine ⟨hk, ?_⟩
    obtain ⟨⟨s, k2⟩, h2, g⟩ := Option.map_eq_some_iff.1 h
    clear h
    obtain ⟨hs, rfl⟩ := htxt h2
    simp only [Prod.mk.injEq] at g
    obtain ⟨g, rfl⟩ := g
    have hs' : s.size = 32 := by omega
    exact ⟨x, _, _, _, _, hx, ofL_bd _ _ _, ofL_bd _ _ _, ofL_bd _ _ _, ofL_bd _ _ _, by rw [of_word hs']; rfl, g.symm⟩
  · rename_i hk
    right
    refine ⟨hk, ?_⟩
    obtain ⟨⟨y, k2⟩, h2, g⟩ := Option.bind_eq_some_iff.1 h
    clear h
    obtain ⟨hy, rfl⟩ := hnum h2
    obtain ⟨⟨s, k3⟩, h3, g2⟩ := Option.bind_eq_some_iff.1 g
    clear g
    obtain ⟨hs, rfl⟩ := htxt h3
    obtain ⟨⟨t, k4⟩, h4, g3⟩ := Option.bind_eq_some_iff.1 g2
    clear g2
    obtain ⟨_, rfl⟩ := htxt h4
    dsimp only at g3
    split at g3
    · cases g3
    · rename_i hl
      simp only [Option.some.injEq, Prod.mk.injEq] at g3
      obtain ⟨g3, rfl⟩ := g3
      have hs' : s.size = 32 := by omega
      exact ⟨x, y, _, _, _, _, t, hx, hy, ofL_bd _ _ _, ofL_bd _ _ _, ofL_bd _ _ _, ofL_bd _ _ _, by omega, by rw [of_word hs']; rfl, g3.symm⟩
/-- What the program tells is a reply's bytes. -/
theorem getReply_canon {kind : Int} {l : List UInt8} {r : Array Value} (hG : ReplyG kind l (some r)) :
    (kind = 2 ∧ ∃ id a b c d, W64 id ∧ W64 a ∧ W64 b ∧ W64 c ∧ W64 d ∧ l = (replyB [numS id, wordS a b c d]).data.toList ∧ r = replyC id 0 0 0 0 0 ⟨#[]⟩ a b c d) ∨
    (kind = 1 ∧ ∃ id n a b c d code, W64 id ∧ W64 n ∧ W64 a ∧ W64 b ∧ W64 c ∧ W64 d ∧ code.size ≤ 24576 ∧ l = (replyB [numS id, numS n, wordS a b c d, code]).data.toList ∧ r = replyC id n a b c d code 0 0 0 0) := by
  have key : ∀ ts : List ByteArray, Sealed l → l.drop 4 = (It.list (ts.map It.text)).enc → l = (replyB ts).data.toList := fun ts hs hd => by
    have e1 : putL ts = bs (l.drop 4) := by rw [hd]; rfl
    rw [replyB_list, e1, hs.2]
    show l = (bs (l.take 4)).data.toList ++ (bs (l.drop 4)).data.toList
    simp [bs]
  cases hG with
  | read hs hk hD =>
    cases hD with
    | good hd ha =>
      have hdc := dec_canon hd
      rcases reply_canon ha with ⟨h2, id, a, b, c, d, b0, b1, b2, b3, b4, rfl, hr⟩ | ⟨h2, id, n, a, b, c, d, code, b0, bn, b1, b2, b3, b4, hl, rfl, hr⟩
      · exact .inl ⟨h2, id, a, b, c, d, b0, b1, b2, b3, b4, key _ hs hdc, hr⟩
      · exact .inr ⟨hk.elim (fun h => h) (fun h => absurd h h2), _, n, a, b, c, d, code, b0, bn, b1, b2, b3, b4, hl, key _ hs hdc, hr⟩
end Go.Proofs.YtfphlkkhpccpnaaDoor

namespace Go.Proofs.YtfphlkkhpccpnaaDoor
open Go.RowKit Go.Proofs K
set_option linter.unusedVariables false

theorem szRReply : (Tryd.prog.info? 45).map (·.size) = some 11 := by kernel_rfl
theorem rItS_at {k : List It} {j : Nat} (h : j < k.length) : rItS k j = itS k[j] := by unfold rItS; rw [List.getElem?_eq_getElem h]
theorem rItN_at {k : List It} {j : Nat} (h : j < k.length) : rItN k j = rNum k[j] := by unfold rItN; rw [List.getElem?_eq_getElem h]
theorem oneRRep (kind : Int) (k : List It) : (rRep kind k).all (·.oneCell') = true := oneReply _ _ _ _ _ _ _ _ _ _ _
set_option maxRecDepth 100000 in
set_option maxHeartbeats 4000000 in
theorem rgetReply_short (kind : Int) (l : List UInt8) (h : l.length < 4) (w : World) : Calls Tryd.prog 21 #[.int .i64 kind, .string (bs l)] w (RGetRQ kind l w) := by
  have HS := Lib.hid ((St.start (ag_emp w)).alloc (.cells zReply 45))
  have h' : ((bs l).size : Int) < 4 := by rw [bs_size]; omega
  have HG : Hid (RGetRD kind l none) := .short h
  clear h
  go_enter Tryd.func21, Tryd.ntmps21
  go_wp2_with (first
    | (refine wpList_store_st (cs := zReply) 0 HS.out rfl rfl 45 (.tmp 4) (.tmp 14) rfl rfl rfl szRReply rfl (oneReply _ _ _ _ _ _ _ _ _ _ _) ?_)
    | fail)
  intro w4 S4
  go_wp2_with fail
  exact post_cell2 0 S4 rfl Tryd.results21 rfl _ Tryd.underlying45 rfl szRReply rfl ⟨none, HG.out, rfl, S4.below⟩
set_option maxRecDepth 100000 in
set_option maxHeartbeats 4000000 in
theorem rgetReply_long (kind : Int) (l : List UInt8) (h : 4 ≤ l.length) (w : World) : Calls Tryd.prog 21 #[.int .i64 kind, .string (bs l)] w (RGetRQ kind l w) := by
  have HS := Lib.hid ((St.start (ag_emp w)).alloc (.cells zReply 45))
  have HD := Lib.hid (rdecode_any (l.drop 4) HS.out.ag)
  have h' : ¬ ((bs l).size : Int) < 4 := by rw [bs_size]; omega
  have h4 : 4 ≤ (bs l).size := by rw [bs_size]; omega
  clear h
  go_enter Tryd.func21, Tryd.ntmps21
  go_wp2_with fail
  rw [bs_drop]
  refine HD.out.mono ?_
  clear h' h4
  rintro e w1 (⟨i, x, y, z, H1, hR, rfl, hrep, S1⟩ | ⟨n, hR, hn, rfl, S1⟩)
  · obtain ⟨p1, s1, A, n, c, rfl, rfl, rfl⟩ := it_cells hrep
    obtain ⟨hn, hV⟩ := list_of hrep
    obtain ⟨k, hk⟩ : ∃ k, k = itemsOf i := ⟨_, rfl⟩
    rw [← hk] at hn hV
    subst hn
    have HS2 := Lib.hid ((HS.out.more S1).alloc (.cells #[.bool p1, .string s1, .slice A k.length c] 84))
    have HR := Lib.hid hR
    have HK := Lib.hid hk
    by_cases h2 : k.length < 2
    · have hlt : ((k.length : Int) < 2) = True := eq_true (by omega)
      have HF := Lib.hid h2
      clear hR hrep hV S1 HS hk h2
      go_wp2_with (first
        | (refine wpList_store_st (cs := zReply) 1 HS2.out rfl rfl 45 (.tmp 4) (.tmp 29) rfl rfl rfl szRReply rfl (oneReply _ _ _ _ _ _ _ _ _ _ _) ?_)
        | fail)
      intro w4 S4
      go_wp2_with fail
      exact post_cell2 0 S4 rfl Tryd.results21 rfl _ Tryd.underlying45 rfl szRReply rfl ⟨none, .few HR.out (by rw [← HK.out]; exact HF.out), rfl, S4.below⟩
    · have hlt : ¬ ((k.length : Int) < 2) := by omega
      have HL2 : Hid (2 ≤ (itemsOf i).length) := Lib.hid (by rw [← hk]; omega)
      have hlt0 : (0 : Int) < (k.length : Int) := by omega
      have hd2 : decide ((k.length : Int) < 2) = false := decide_eq_false (by omega)
      have hlt1 : (1 : Int) < (k.length : Int) := by omega
      obtain ⟨A', c', cs, he, hnc, hA, hlen, hrow, hrd⟩ := hV.sl_inv
      cases he
      obtain ⟨x0, y0, z0, hx0, hy0, hz0, hr0⟩ := its_at hrd (show 0 < k.length by omega)
      obtain ⟨x1, y1, z1, hx1, hy1, hz1, hr1⟩ := its_at hrd (show 1 < k.length by omega)
      have n0 := rItN_at (k := k) (j := 0) (by omega)
      have n1 := rItN_at (k := k) (j := 1) (by omega)
      have s1' := rItS_at (k := k) (j := 1) (by omega)
      have hy1' := it_str hr1
      rw [← s1'] at hy1'
      have HSM0 := Lib.hid (rsmall_it hr0)
      have HSM1 := Lib.hid (rsmall_it hr1)
      rw [← n0] at HSM0
      rw [← n1] at HSM1
      obtain ⟨q0, t0, A0, n0', c0, rfl, rfl, rfl⟩ := it_cells hr0
      obtain ⟨q1, t1, A1, n1', c1, rfl, e1y, rfl⟩ := it_cells hr1
      rw [hy1'] at e1y
      cases e1y
      subst hy1'
      obtain ⟨b0, o, rfl, _⟩ := hrow.cell HS2.out.ag hx0
      have HC : Hid (∀ wx, Ag H1 wx → wx.cell? ⟨b0, o, none⟩ = some (.bool q0) ∧ wx.cell? ⟨b0, o + 1, none⟩ = some (.string t0) ∧ wx.cell? ⟨b0, o + 2, none⟩ = some (.slice A0 n0' c0) ∧
          wx.cell? ⟨b0, o + 3, none⟩ = some (.bool q1) ∧ wx.cell? ⟨b0, o + 3 + 1, none⟩ = some (.string (rItS k 1)) ∧ wx.cell? ⟨b0, o + 3 + 2, none⟩ = some (.slice A1 n1' c1)) := Lib.hid fun wx hwx =>
        ⟨Row.cellAt hrow hwx hx0, Row.cellAt hrow hwx hy0, Row.cellAt hrow hwx hz0, Row.cellAt hrow hwx hx1, Row.cellAt hrow hwx hy1, Row.cellAt hrow hwx hz1⟩
      have H23 : Hid (3 < k.length → ∀ wx, Ag H1 wx → wx.cell? ⟨b0, o + 6 + 1, none⟩ = some (.string (rItS k 2)) ∧ wx.cell? ⟨b0, o + 9 + 1, none⟩ = some (.string (rItS k 3))) := Lib.hid fun h4 wx hwx => by
        obtain ⟨x2, y2, z2, hx2, hy2, hz2, hr2⟩ := its_at hrd (show 2 < k.length by omega)
        obtain ⟨x3, y3, z3, hx3, hy3, hz3, hr3⟩ := its_at hrd h4
        rw [it_str hr2, ← rItS_at] at hy2
        rw [it_str hr3, ← rItS_at] at hy3
        exact ⟨Row.cellAt hrow hwx hy2, Row.cellAt hrow hwx hy3⟩
      have HS3 := Lib.hid (HS2.out.alloc' (.cells #[.int .u64 0, .int .u64 0, .int .u64 0, .int .u64 0, .int .u64 0, .int .u64 0, .string ⟨#[]⟩, .int .u64 0, .int .u64 0, .int .u64 0, .int .u64 0] 45) (w1.heap.size + 1) (by simp))
      have HPA := Lib.hid (rputReply_all kind (rItN k 0) (rNon kind k) (rBal kind k 3) (rBal kind k 2) (rBal kind k 1) (rBal kind k 0) (rCod kind k) (rVal kind k 3) (rVal kind k 2) (rVal kind k 1) (rVal kind k 0) (rItN_bd _ _) (rNon_bd _ _) (rBal_bd _ _ _) (rBal_bd _ _ _) (rBal_bd _ _ _) (rBal_bd _ _ _) (rVal_bd _ _ _) (rVal_bd _ _ _) (rVal_bd _ _ _) (rVal_bd _ _ _))
      obtain ⟨t, ok, ht⟩ : ∃ t ok, rPut kind k = (t, ok) := ⟨_, _, rfl⟩
      have ht2 : putReplyR kind (rItN k 0) (rNon kind k) (rBal kind k 3) (rBal kind k 2) (rBal kind k 1) (rBal kind k 0) (rCod kind k) (rVal kind k 3) (rVal kind k 2) (rVal kind k 1) (rVal kind k 0) = (t, ok) := ht
      rw [ht2] at HPA
      have HNO : Hid ((t, ok) ≠ (bs l, true) → RGetRD kind l none) := Lib.hid fun h => .other HR.out HL2.out (by rw [← HK.out, ht]; exact h)
      have HYES : Hid ((t, ok) = (bs l, true) → RGetRD kind l (some (rRep kind k))) := Lib.hid fun h => by
        have := RGetRD.good HR.out HL2.out (by rw [← HK.out, ht]; exact h)
        rw [← HK.out] at this
        exact this
      obtain ⟨e30, e31, e32, _, _, _⟩ := HC.out _ HS3.out.ag
      clear hR hrep hV S1 HS hk h2 hrow hrd hx0 hy0 hz0 hx1 hy1 hz1 hr0 hr1 hlen hA hnc n0 n1 s1' ht ht2
      clear HS2
      go_wp2_with fail
      refine (HSM0.out _).mono ?_
      rintro e w2 ⟨ok0, rfl, hb2⟩
      have S4 := HS3.out.grow hb2
      have d0 : w2.cell? ⟨w1.heap.size + 1, 0, none⟩ = some (.int .u64 0) := S4.cell 0 rfl rfl
      have g0 : w2.frozen? ⟨w1.heap.size + 1, 0, none⟩ = false := S4.frozen 0 rfl 0
      have HS5 : Hid (St empH w none_ H1 (w2.setCell ⟨w1.heap.size + 1, 0, none⟩ (.int .u64 (rItN k 0))) [blk (w1.heap.size + 1) (.cells (replyC (rItN k 0) 0 0 0 0 0 ⟨#[]⟩ 0 0 0 0) 45), blk w1.heap.size (.cells #[.bool p1, .string s1, .slice (some ⟨b0, o, none⟩) k.length c] 84), blk w.heap.size (.cells zReply 45)]) := S4.setCell (j := 0) 0 rfl (.int .u64 (rItN k 0))
      clear S4 HS3 hb2 e30 e31 e32
      have h52 : (w2.setCell ⟨w1.heap.size + 1, 0, none⟩ (.int .u64 (rItN k 0))).cell? ⟨w1.heap.size, 2, none⟩ = some (.slice (some ⟨b0, o, none⟩) k.length c) := HS5.out.cell 1 rfl rfl
      obtain ⟨_, _, _, e53, e54, e55⟩ := HC.out _ HS5.out.ag
      by_cases hk2 : kind = 2
      · have m2 : (kind == 2) = true := beq_iff_eq.2 hk2
        have m1 : (kind == 1) = false := beq_eq_false_iff_ne.2 (by omega)
        have HFULL : Hid (rRep kind k = replyC (rItN k 0) 0 0 0 0 0 ⟨#[]⟩ (ofW (rItS k 1) 3) (ofW (rItS k 1) 2) (ofW (rItS k 1) 1) (ofW (rItS k 1) 0)) := Lib.hid (by
          have hb : rBig kind k = false := by unfold rBig; rw [decide_eq_false (by omega)]; rfl
          unfold rRep rNon rBal rCod rVal
          rw [hb, if_pos hk2, if_pos hk2, if_pos hk2, if_pos hk2]
          rfl)
        clear hk2
        go_wp2_with fail
        refine (rof_all _ _).mono ?_
        rintro e w4 ⟨ok3, rfl, hb4⟩
        have HS8 := Lib.hid (HS5.out.grow hb4)
        clear hb4 HS5 h52 e53 e54 e55 d0 g0
        go_wp2_with (first
          | (refine wpList_mid_st (cs := #[.int .u64 (ofW (rItS k 1) 3), .int .u64 (ofW (rItS k 1) 2), .int .u64 (ofW (rItS k 1) 1), .int .u64 (ofW (rItS k 1) 0)]) (old := replyC (rItN k 0) 0 0 0 0 0 ⟨#[]⟩ 0 0 0 0) 0 HS8.out rfl rfl 24 (.tmp 51) (.tmp 49) rfl 7 rfl rfl szWord (by show (7 + 4 : Nat) ≤ 11; omega) (oneW _ _ _ _) ?_)
          | fail)
        intro w5 S5
        have HS9 : Hid (St empH w none_ H1 w5 [blk (w1.heap.size + 1) (.cells (rRep kind k) 45), blk w1.heap.size (.cells #[.bool p1, .string s1, .slice (some ⟨b0, o, none⟩) k.length c] 84), blk w.heap.size (.cells zReply 45)]) := Lib.hid (by
          rw [HFULL.out]
          exact S5)
        clear HS8 S5 HFULL
        go_wp2_with (first
          | (refine wpList_load_st (cs := rRep kind k) 0 HS9.out rfl rfl 45 (.tmp 8) rfl rfl _ Tryd.underlying45 rfl szRReply ?_)
          | fail)
        refine (HPA.out _).mono ?_
        rintro e w6 ⟨rfl, hb6⟩
        have HS10 := Lib.hid (HS9.out.grow hb6)
        clear HS9 hb6
        cases ok with
        | false =>
          go_wp2_with (first
            | (refine wpList_store_st (cs := zReply) 2 HS10.out rfl rfl 45 (.tmp 4) (.tmp 101) rfl rfl rfl szRReply rfl (oneReply _ _ _ _ _ _ _ _ _ _ _) ?_)
            | fail)
          intro w7 S7
          go_wp2_with fail
          exact post_cell2 0 S7 rfl Tryd.results21 rfl _ Tryd.underlying45 rfl szRReply rfl ⟨none, HNO.out (by simp), rfl, S7.below⟩
        | true =>
          by_cases he : t = bs l
          · have e1 := eq_list he
            have HE := Lib.hid he
            clear he
            go_wp2_with (first
              | (refine wpList_load_st (cs := rRep kind k) 0 HS10.out rfl rfl 45 (.tmp 8) rfl rfl _ Tryd.underlying45 rfl szRReply ?_)
              | (refine wpList_store_st (cs := rRep kind k) 2 HS10.out rfl rfl 45 (.tmp 4) (.tmp 102) rfl rfl rfl szRReply rfl (oneReply _ _ _ _ _ _ _ _ _ _ _) ?_)
              | fail)
            intro w7 S7
            go_wp2_with fail
            exact post_cell2 0 S7 rfl Tryd.results21 rfl _ Tryd.underlying45 rfl szRReply rfl ⟨_, HYES.out (by rw [HE.out]), rfl, S7.below⟩
          · have e1 := neq_list he
            have HE := Lib.hid he
            clear he
            go_wp2_with (first
              | (refine wpList_store_st (cs := zReply) 2 HS10.out rfl rfl 45 (.tmp 4) (.tmp 101) rfl rfl rfl szRReply rfl (oneReply _ _ _ _ _ _ _ _ _ _ _) ?_)
              | fail)
            intro w7 S7
            go_wp2_with fail
            exact post_cell2 0 S7 rfl Tryd.results21 rfl _ Tryd.underlying45 rfl szRReply rfl ⟨none, HNO.out (fun h => HE.out (Prod.mk.inj h).1), rfl, S7.below⟩
      · have m2 : (kind == 2) = false := beq_eq_false_iff_ne.2 hk2
        by_cases hk1 : kind = 1
        · have m1 : (kind == 1) = true := beq_iff_eq.2 hk1
          by_cases h4 : 3 < k.length
          · have hlt3 : (3 : Int) < (k.length : Int) := by omega
            have hd3 : decide ((3 : Int) < (k.length : Int)) = true := decide_eq_true hlt3
            have hlt2 : (2 : Int) < (k.length : Int) := by omega
            have HFULL : Hid (rRep kind k = replyC (rItN k 0) (rItN k 1) (ofW (rItS k 2) 3) (ofW (rItS k 2) 2) (ofW (rItS k 2) 1) (ofW (rItS k 2) 0) (rItS k 3) 0 0 0 0) := Lib.hid (by
              have hb : rBig kind k = true := by unfold rBig; rw [decide_eq_true hk1, decide_eq_true h4]; rfl
              unfold rRep rNon rBal rCod rVal
              rw [hb, if_neg hk2, if_neg hk2, if_neg hk2, if_neg hk2]
              rfl)
            have HH4 := Lib.hid (H23.out h4)
            clear hk2 hk1 h4
            go_wp2_with fail
            refine (HSM1.out _).mono ?_
            rintro e w4 ⟨ok1, rfl, hb4⟩
            have S8 := HS5.out.grow hb4
            have d1 : w4.cell? ⟨w1.heap.size + 1, 1, none⟩ = some (.int .u64 0) := S8.cell 0 rfl rfl
            have g1 : w4.frozen? ⟨w1.heap.size + 1, 1, none⟩ = false := S8.frozen 0 rfl 1
            have HS8 : Hid (St empH w none_ H1 (w4.setCell ⟨w1.heap.size + 1, 1, none⟩ (.int .u64 (rItN k 1))) [blk (w1.heap.size + 1) (.cells (replyC (rItN k 0) (rItN k 1) 0 0 0 0 ⟨#[]⟩ 0 0 0 0) 45), blk w1.heap.size (.cells #[.bool p1, .string s1, .slice (some ⟨b0, o, none⟩) k.length c] 84), blk w.heap.size (.cells zReply 45)]) := S8.setCell (j := 1) 0 rfl (.int .u64 (rItN k 1))
            have h82 : (w4.setCell ⟨w1.heap.size + 1, 1, none⟩ (.int .u64 (rItN k 1))).cell? ⟨w1.heap.size, 2, none⟩ = some (.slice (some ⟨b0, o, none⟩) k.length c) := HS8.out.cell 1 rfl rfl
            obtain ⟨e67, _⟩ := HH4.out _ HS8.out.ag
            clear S8 HS5 h52 e53 e54 e55 d0 g0 hb4
            go_wp2_with fail
            refine (rof_all _ _).mono ?_
            rintro e w15 ⟨ok3, rfl, hb15⟩
            have HS15 := Lib.hid (HS8.out.grow hb15)
            clear hb15 HS8 h82 e67 d1 g1
            go_wp2_with (first
              | (refine wpList_mid_st (cs := #[.int .u64 (ofW (rItS k 2) 3), .int .u64 (ofW (rItS k 2) 2), .int .u64 (ofW (rItS k 2) 1), .int .u64 (ofW (rItS k 2) 0)]) (old := replyC (rItN k 0) (rItN k 1) 0 0 0 0 ⟨#[]⟩ 0 0 0 0) 0 HS15.out rfl rfl 24 (.tmp 80) (.tmp 77) rfl 2 rfl rfl szWord (by show (2 + 4 : Nat) ≤ 11; omega) (oneW _ _ _ _) ?_)
              | fail)
            intro w16 S16
            have HS16 : Hid (St empH w none_ H1 w16 [blk (w1.heap.size + 1) (.cells (replyC (rItN k 0) (rItN k 1) (ofW (rItS k 2) 3) (ofW (rItS k 2) 2) (ofW (rItS k 2) 1) (ofW (rItS k 2) 0) ⟨#[]⟩ 0 0 0 0) 45), blk w1.heap.size (.cells #[.bool p1, .string s1, .slice (some ⟨b0, o, none⟩) k.length c] 84), blk w.heap.size (.cells zReply 45)]) := S16
            clear S16 HS15
            have h92 : w16.cell? ⟨w1.heap.size, 2, none⟩ = some (.slice (some ⟨b0, o, none⟩) k.length c) := HS16.out.cell 1 rfl rfl
            obtain ⟨_, e910⟩ := HH4.out _ HS16.out.ag
            have d6 : w16.cell? ⟨w1.heap.size + 1, 6, none⟩ = some (.string ⟨#[]⟩) := HS16.out.cell 0 rfl rfl
            have g6 : w16.frozen? ⟨w1.heap.size + 1, 6, none⟩ = false := HS16.out.frozen 0 rfl 6
            have S17 : St empH w none_ H1 (w16.setCell ⟨w1.heap.size + 1, 6, none⟩ (.string (rItS k 3))) [blk (w1.heap.size + 1) (.cells (replyC (rItN k 0) (rItN k 1) (ofW (rItS k 2) 3) (ofW (rItS k 2) 2) (ofW (rItS k 2) 1) (ofW (rItS k 2) 0) (rItS k 3) 0 0 0 0) 45), blk w1.heap.size (.cells #[.bool p1, .string s1, .slice (some ⟨b0, o, none⟩) k.length c] 84), blk w.heap.size (.cells zReply 45)] := HS16.out.setCell (j := 6) 0 rfl (.string (rItS k 3))
            have HS9 : Hid (St empH w none_ H1 (w16.setCell ⟨w1.heap.size + 1, 6, none⟩ (.string (rItS k 3))) [blk (w1.heap.size + 1) (.cells (rRep kind k) 45), blk w1.heap.size (.cells #[.bool p1, .string s1, .slice (some ⟨b0, o, none⟩) k.length c] 84), blk w.heap.size (.cells zReply 45)]) := Lib.hid (by
              rw [HFULL.out]
              exact S17)
            clear S17 HS16 HFULL
            go_wp2_with (first
              | (refine wpList_load_st (cs := rRep kind k) 0 HS9.out rfl rfl 45 (.tmp 8) rfl rfl _ Tryd.underlying45 rfl szRReply ?_)
              | fail)
            refine (HPA.out _).mono ?_
            rintro e w6 ⟨rfl, hb6⟩
            have HS10 := Lib.hid (HS9.out.grow hb6)
            clear HS9 hb6
            cases ok with
            | false =>
              go_wp2_with (first
                | (refine wpList_store_st (cs := zReply) 2 HS10.out rfl rfl 45 (.tmp 4) (.tmp 101) rfl rfl rfl szRReply rfl (oneReply _ _ _ _ _ _ _ _ _ _ _) ?_)
                | fail)
              intro w7 S7
              go_wp2_with fail
              exact post_cell2 0 S7 rfl Tryd.results21 rfl _ Tryd.underlying45 rfl szRReply rfl ⟨none, HNO.out (by simp), rfl, S7.below⟩
            | true =>
              by_cases he : t = bs l
              · have e1 := eq_list he
                have HE := Lib.hid he
                clear he
                go_wp2_with (first
                  | (refine wpList_load_st (cs := rRep kind k) 0 HS10.out rfl rfl 45 (.tmp 8) rfl rfl _ Tryd.underlying45 rfl szRReply ?_)
                  | (refine wpList_store_st (cs := rRep kind k) 2 HS10.out rfl rfl 45 (.tmp 4) (.tmp 102) rfl rfl rfl szRReply rfl (oneReply _ _ _ _ _ _ _ _ _ _ _) ?_)
                  | fail)
                intro w7 S7
                go_wp2_with fail
                exact post_cell2 0 S7 rfl Tryd.results21 rfl _ Tryd.underlying45 rfl szRReply rfl ⟨_, HYES.out (by rw [HE.out]), rfl, S7.below⟩
              · have e1 := neq_list he
                have HE := Lib.hid he
                clear he
                go_wp2_with (first
                  | (refine wpList_store_st (cs := zReply) 2 HS10.out rfl rfl 45 (.tmp 4) (.tmp 101) rfl rfl rfl szRReply rfl (oneReply _ _ _ _ _ _ _ _ _ _ _) ?_)
                  | fail)
                intro w7 S7
                go_wp2_with fail
                exact post_cell2 0 S7 rfl Tryd.results21 rfl _ Tryd.underlying45 rfl szRReply rfl ⟨none, HNO.out (fun h => HE.out (Prod.mk.inj h).1), rfl, S7.below⟩
          · have hlt3 : ¬ (3 : Int) < (k.length : Int) := by omega
            have hd3 : decide ((3 : Int) < (k.length : Int)) = false := decide_eq_false hlt3
            have HFULL : Hid (rRep kind k = replyC (rItN k 0) 0 0 0 0 0 ⟨#[]⟩ 0 0 0 0) := Lib.hid (by
              have hb : rBig kind k = false := by unfold rBig; rw [decide_eq_false h4, Bool.and_false]
              unfold rRep rNon rBal rCod rVal
              rw [hb, if_neg hk2, if_neg hk2, if_neg hk2, if_neg hk2]
              rfl)
            clear hk2 hk1 h4
            have HS9 : Hid (St empH w none_ H1 (w2.setCell ⟨w1.heap.size + 1, 0, none⟩ (.int .u64 (rItN k 0))) [blk (w1.heap.size + 1) (.cells (rRep kind k) 45), blk w1.heap.size (.cells #[.bool p1, .string s1, .slice (some ⟨b0, o, none⟩) k.length c] 84), blk w.heap.size (.cells zReply 45)]) := Lib.hid (by
              rw [HFULL.out]
              exact HS5.out)
            clear HFULL
            go_wp2_with (first
              | (refine wpList_load_st (cs := rRep kind k) 0 HS9.out rfl rfl 45 (.tmp 8) rfl rfl _ Tryd.underlying45 rfl szRReply ?_)
              | fail)
            refine (HPA.out _).mono ?_
            rintro e w6 ⟨rfl, hb6⟩
            have HS10 := Lib.hid (HS9.out.grow hb6)
            clear HS9 hb6
            cases ok with
            | false =>
              go_wp2_with (first
                | (refine wpList_store_st (cs := zReply) 2 HS10.out rfl rfl 45 (.tmp 4) (.tmp 101) rfl rfl rfl szRReply rfl (oneReply _ _ _ _ _ _ _ _ _ _ _) ?_)
                | fail)
              intro w7 S7
              go_wp2_with fail
              exact post_cell2 0 S7 rfl Tryd.results21 rfl _ Tryd.underlying45 rfl szRReply rfl ⟨none, HNO.out (by simp), rfl, S7.below⟩
            | true =>
              by_cases he : t = bs l
              · have e1 := eq_list he
                have HE := Lib.hid he
                clear he
                go_wp2_with (first
                  | (refine wpList_load_st (cs := rRep kind k) 0 HS10.out rfl rfl 45 (.tmp 8) rfl rfl _ Tryd.underlying45 rfl szRReply ?_)
                  | (refine wpList_store_st (cs := rRep kind k) 2 HS10.out rfl rfl 45 (.tmp 4) (.tmp 102) rfl rfl rfl szRReply rfl (oneReply _ _ _ _ _ _ _ _ _ _ _) ?_)
                  | fail)
                intro w7 S7
                go_wp2_with fail
                exact post_cell2 0 S7 rfl Tryd.results21 rfl _ Tryd.underlying45 rfl szRReply rfl ⟨_, HYES.out (by rw [HE.out]), rfl, S7.below⟩
              · have e1 := neq_list he
                have HE := Lib.hid he
                clear he
                go_wp2_with (first
                  | (refine wpList_store_st (cs := zReply) 2 HS10.out rfl rfl 45 (.tmp 4) (.tmp 101) rfl rfl rfl szRReply rfl (oneReply _ _ _ _ _ _ _ _ _ _ _) ?_)
                  | fail)
                intro w7 S7
                go_wp2_with fail
                exact post_cell2 0 S7 rfl Tryd.results21 rfl _ Tryd.underlying45 rfl szRReply rfl ⟨none, HNO.out (fun h => HE.out (Prod.mk.inj h).1), rfl, S7.below⟩
        · have m1 : (kind == 1) = false := beq_eq_false_iff_ne.2 hk1
          have HFULL : Hid (rRep kind k = replyC (rItN k 0) 0 0 0 0 0 ⟨#[]⟩ 0 0 0 0) := Lib.hid (by
            have hb : rBig kind k = false := by unfold rBig; rw [decide_eq_false hk1, Bool.false_and]
            unfold rRep rNon rBal rCod rVal
            rw [hb, if_neg hk2, if_neg hk2, if_neg hk2, if_neg hk2]
            rfl)
          clear hk2 hk1
          have HS9 : Hid (St empH w none_ H1 (w2.setCell ⟨w1.heap.size + 1, 0, none⟩ (.int .u64 (rItN k 0))) [blk (w1.heap.size + 1) (.cells (rRep kind k) 45), blk w1.heap.size (.cells #[.bool p1, .string s1, .slice (some ⟨b0, o, none⟩) k.length c] 84), blk w.heap.size (.cells zReply 45)]) := Lib.hid (by
            rw [HFULL.out]
            exact HS5.out)
          clear HFULL
          go_wp2_with (first
            | (refine wpList_load_st (cs := rRep kind k) 0 HS9.out rfl rfl 45 (.tmp 8) rfl rfl _ Tryd.underlying45 rfl szRReply ?_)
            | fail)
          refine (HPA.out _).mono ?_
          rintro e w6 ⟨rfl, hb6⟩
          have HS10 := Lib.hid (HS9.out.grow hb6)
          clear HS9 hb6
          cases ok with
          | false =>
            go_wp2_with (first
              | (refine wpList_store_st (cs := zReply) 2 HS10.out rfl rfl 45 (.tmp 4) (.tmp 101) rfl rfl rfl szRReply rfl (oneReply _ _ _ _ _ _ _ _ _ _ _) ?_)
              | fail)
            intro w7 S7
            go_wp2_with fail
            exact post_cell2 0 S7 rfl Tryd.results21 rfl _ Tryd.underlying45 rfl szRReply rfl ⟨none, HNO.out (by simp), rfl, S7.below⟩
          | true =>
            by_cases he : t = bs l
            · have e1 := eq_list he
              have HE := Lib.hid he
              clear he
              go_wp2_with (first
                | (refine wpList_load_st (cs := rRep kind k) 0 HS10.out rfl rfl 45 (.tmp 8) rfl rfl _ Tryd.underlying45 rfl szRReply ?_)
                | (refine wpList_store_st (cs := rRep kind k) 2 HS10.out rfl rfl 45 (.tmp 4) (.tmp 102) rfl rfl rfl szRReply rfl (oneReply _ _ _ _ _ _ _ _ _ _ _) ?_)
                | fail)
              intro w7 S7
              go_wp2_with fail
              exact post_cell2 0 S7 rfl Tryd.results21 rfl _ Tryd.underlying45 rfl szRReply rfl ⟨_, HYES.out (by rw [HE.out]), rfl, S7.below⟩
            · have e1 := neq_list he
              have HE := Lib.hid he
              clear he
              go_wp2_with (first
                | (refine wpList_store_st (cs := zReply) 2 HS10.out rfl rfl 45 (.tmp 4) (.tmp 101) rfl rfl rfl szRReply rfl (oneReply _ _ _ _ _ _ _ _ _ _ _) ?_)
                | fail)
              intro w7 S7
              go_wp2_with fail
              exact post_cell2 0 S7 rfl Tryd.results21 rfl _ Tryd.underlying45 rfl szRReply rfl ⟨none, HNO.out (fun h => HE.out (Prod.mk.inj h).1), rfl, S7.below⟩
  · have HS2 := Lib.hid ((HS.out.more S1).alloc (.cells #[.bool false, .string ⟨#[]⟩, .slice none 0 0] 84))
    have hn2 : (n != 0) = true := by rw [bne, hn]; rfl
    have HR := Lib.hid hR
    clear hR S1 HS hn
    simp only [zItem]
    go_wp2_with (first
      | (refine wpList_store_st (cs := zReply) 1 HS2.out rfl rfl 45 (.tmp 4) (.tmp 29) rfl rfl rfl szRReply rfl (oneReply _ _ _ _ _ _ _ _ _ _ _) ?_)
      | fail)
    intro w4 S4
    go_wp2_with fail
    exact post_cell2 0 S4 rfl Tryd.results21 rfl _ Tryd.underlying45 rfl szRReply rfl ⟨none, .bad HR.out, rfl, S4.below⟩
theorem rgetReply_any (kind : Int) (l : List UInt8) (w : World) : Calls Tryd.prog 21 #[.int .i64 kind, .string (bs l)] w (RGetRQ kind l w) := by
  by_cases h : l.length < 4
  · exact rgetReply_short kind l h w
  · exact rgetReply_long kind l (by omega) w
end Go.Proofs.YtfphlkkhpccpnaaDoor

namespace Go.Proofs.YtfphlkkhpccpnaaDoor
open Go.RowKit Go.Proofs K
set_option linter.unusedVariables false

theorem putReply_form {kind id n a b c d : Int} {code : ByteArray} {e f g h : Int} {t : ByteArray} (hp : putReplyR kind id n a b c d code e f g h = (t, true)) :
    (kind = 1 ∧ code.size ≤ 24576 ∧ e = 0 ∧ f = 0 ∧ g = 0 ∧ h = 0 ∧ t = replyB [numS id, numS n, wordS a b c d, code]) ∨ (kind = 2 ∧ t = replyB [numS id, wordS e f g h]) := by
  unfold putReplyR at hp
  split at hp
  · cases hp
  · rename_i hl
    split at hp
    · rename_i h1
      split at hp
      · rename_i hz
        cases hp
        exact .inl ⟨h1, by omega, hz.1, hz.2.1, hz.2.2.1, hz.2.2.2, rfl⟩
      · cases hp
    · split at hp
      · rename_i h2
        split at hp
        · cases hp
          exact .inr ⟨h2, rfl⟩
        · cases hp
      · cases hp
theorem putReply_two' {id a b c d : Int} : putReplyR 2 id 0 0 0 0 0 ⟨#[]⟩ a b c d = (replyB [numS id, wordS a b c d], true) := by
  unfold putReplyR
  rw [if_neg (by decide), if_neg (by decide), if_pos rfl, if_pos ⟨rfl, ⟨rfl, rfl, rfl, rfl⟩, by rw [ByteArray.toList_eq]⟩]
theorem putReply_one' {id n a b c d : Int} {code : ByteArray} (hl : code.size ≤ 24576) : putReplyR 1 id n a b c d code 0 0 0 0 = (replyB [numS id, numS n, wordS a b c d, code], true) := by
  unfold putReplyR
  rw [if_neg (by omega), if_pos rfl, if_pos ⟨rfl, rfl, rfl, rfl⟩]
theorem ref_reply {kind : Int} {ts : List ByteArray} {r : Array Value} (h2 : 2 ≤ ts.length) (hlen : (putL ts).data.toList.length ≤ 65536) (hput : rPut kind (ts.map It.text) = (replyB ts, true)) (hrep : rRep kind (ts.map It.text) = r)
    {o : Option (Array Value)} (hR : RGetRD kind (replyB ts).data.toList o) : o = some r := by
  have hdec := decF_put hlen
  have hbs : bs (replyB ts).data.toList = replyB ts := bs_list _
  have hdr := replyB_drop ts
  have key : ∀ i : It, DecR ((replyB ts).data.toList.drop 4) (some i) → itemsOf i = ts.map It.text := by
    intro i hD
    rw [hdr] at hD
    have hi := (decF_of hD).symm.trans hdec
    simp only [Option.some.injEq] at hi
    subst hi
    rfl
  cases hR with
  | short h => have := (sealed_put ts).1; omega
  | bad h =>
    rw [hdr] at h
    have := decF_of h
    rw [hdec] at this
    cases this
  | few h hn =>
    rw [key _ h, List.length_map] at hn
    omega
  | other h _ hn =>
    rw [key _ h, hput, hbs] at hn
    exact absurd rfl hn
  | good h _ hn => rw [key _ h, hrep]
/-- The two tell the same. -/
theorem same_reply {kind : Int} {l : List UInt8} {o : Option (Array Value)} (hR : RGetRD kind l o) {w w' : World} {e : Ending} (hG : GetReplyP kind l w e w') : e = .returned (.tuple #[.agg (o.getD zReply), .bool o.isSome]) := by
  have hG0 := hG
  obtain ⟨p, hp, he, _⟩ := hG
  cases p with
  | some r =>
    rcases getReply_canon hp with ⟨rfl, id, a, b, c, d, b0, b1, b2, b3, b4, rfl, rfl⟩ | ⟨rfl, id, n, a, b, c, d, code, b0, bn, b1, b2, b3, b4, hl, rfl, rfl⟩
    · obtain ⟨e1, e2, e3, e4⟩ := ofW_word b1 b2 b3 b4
      have hid : smallR (numS id) = id := numS_back b0.1 b0.2
      have hrep : rRep 2 ([numS id, wordS a b c d].map It.text) = replyC id 0 0 0 0 0 ⟨#[]⟩ a b c d := by
        simp only [rRep, rItN, rItS, rVal, rNon, rBal, rCod, rBig, List.map_cons, List.map_nil, List.getElem?_cons_zero, List.getElem?_cons_succ, itS, rNum, hid, e1, e2, e3, e4, if_pos]
        rfl
      have hput : rPut 2 ([numS id, wordS a b c d].map It.text) = (replyB [numS id, wordS a b c d], true) := by
        rw [← putReply_two']
        simp only [rPut, rItN, rItS, rVal, rNon, rBal, rCod, rBig, List.map_cons, List.map_nil, List.getElem?_cons_zero, List.getElem?_cons_succ, itS, rNum, hid, e1, e2, e3, e4, if_pos]
        rfl
      rw [he, ref_reply (by simp) two_len hput hrep hR]
    · obtain ⟨e1, e2, e3, e4⟩ := ofW_word b1 b2 b3 b4
      have hid : smallR (numS id) = id := numS_back b0.1 b0.2
      have hnn : smallR (numS n) = n := numS_back bn.1 bn.2
      have hbig : rBig 1 ([numS id, numS n, wordS a b c d, code].map It.text) = true := rfl
      have hrep : rRep 1 ([numS id, numS n, wordS a b c d, code].map It.text) = replyC id n a b c d code 0 0 0 0 := by
        simp only [rRep, rNon, rBal, rCod, hbig, if_pos, rVal]
        simp only [rItN, rItS, List.map_cons, List.map_nil, List.getElem?_cons_zero, List.getElem?_cons_succ, itS, rNum, hid, hnn, e1, e2, e3, e4]
        rfl
      have hput : rPut 1 ([numS id, numS n, wordS a b c d, code].map It.text) = (replyB [numS id, numS n, wordS a b c d, code], true) := by
        rw [← putReply_one' hl]
        simp only [rPut, rNon, rBal, rCod, hbig, if_pos, rVal]
        simp only [rItN, rItS, List.map_cons, List.map_nil, List.getElem?_cons_zero, List.getElem?_cons_succ, itS, rNum, hid, hnn, e1, e2, e3, e4]
        rfl
      rw [he, ref_reply (by simp) (one_len hl) hput hrep hR]
  | none =>
    rw [he]
    cases o with
    | none => rfl
    | some x =>
      exfalso
      cases hR with
      | @good i hD h2 hput =>
        have hl : ∀ ts, bs l = replyB ts → l = (replyB ts).data.toList := fun ts h => by
          have := congrArg (fun x : ByteArray => x.data.toList) h
          simpa [bs] using this
        rcases putReply_form hput with ⟨rfl, hc, _, _, _, _, ht⟩ | ⟨rfl, ht⟩
        · have h1 := hl _ ht
          rw [h1] at hG0
          have := getReply_one (rItN_bd _ _) (rNon_bd _ _) (rBal_bd _ _ _) (rBal_bd _ _ _) (rBal_bd _ _ _) (rBal_bd _ _ _) hc hG0
          rw [he] at this
          simp at this
        · have h1 := hl _ ht
          rw [h1] at hG0
          have := getReply_two (rItN_bd _ _) (rVal_bd _ _ _) (rVal_bd _ _ _) (rVal_bd _ _ _) (rVal_bd _ _ _) hG0
          rw [he] at this
          simp at this
end Go.Proofs.YtfphlkkhpccpnaaDoor

namespace Go.Proofs.YtfphlkkhpccpnaaDoor
open Go.RowKit Go.Proofs K
set_option linter.unusedVariables false

set_option maxRecDepth 100000 in
theorem refReply_any (id nn a b c d : Int) (code : ByteArray) (e f g h : Int) (w : World) : Calls Tryd.prog 19 #[.agg (replyC id nn a b c d code e f g h)] w (RetV (.agg (replyC id nn a b c d code e f g h)) w) := by
  have HS := Lib.hid (((St.start (ag_emp w)).alloc (.cells #[.int .u64 id, .int .u64 nn, .int .u64 a, .int .u64 b, .int .u64 c, .int .u64 d, .string code, .int .u64 e, .int .u64 f, .int .u64 g, .int .u64 h] 42)).alloc' (.cells zReply 45) (w.heap.size + 1) (by simp))
  simp only [replyC]
  go_enter Tryd.func19, Tryd.ntmps19
  go_wp2_with (first
    | (refine wpList_store_st (cs := replyC id nn a b c d code e f g h) 0 HS.out rfl rfl 45 (.tmp 2) (.tmp 9) rfl rfl rfl szRReply rfl (oneReply _ _ _ _ _ _ _ _ _ _ _) ?_)
    | fail)
  intro w4 S4
  go_wp2_with fail
  exact post_cell 0 S4 rfl Tryd.results19 rfl _ Tryd.underlying45 rfl szRReply rfl ⟨rfl, S4.below⟩
theorem refReplyE (id nn a b c d : Int) (code : ByteArray) (e f g h : Int) (w : World) : Calls Tryd.prog 19 #[.agg #[.int .u64 id, .int .u64 nn, .int .u64 a, .int .u64 b, .int .u64 c, .int .u64 d, .string code, .int .u64 e, .int .u64 f, .int .u64 g, .int .u64 h]] w (RetV (.agg #[.int .u64 id, .int .u64 nn, .int .u64 a, .int .u64 b, .int .u64 c, .int .u64 d, .string code, .int .u64 e, .int .u64 f, .int .u64 g, .int .u64 h]) w) := refReply_any id nn a b c d code e f g h w
theorem getReply_form {kind : Int} {l : List UInt8} {w w' : World} {z : Ending} (h : GetReplyP kind l w z w') : ∃ id nn a b c d code e f g h fl, z = .returned (.tuple #[.agg (replyC id nn a b c d code e f g h), .bool fl]) := by
  obtain ⟨o, hG, he, _⟩ := h
  cases hG with
  | torn h => exact ⟨_, _, _, _, _, _, _, _, _, _, _, _, he⟩
  | kind h h2 => exact ⟨_, _, _, _, _, _, _, _, _, _, _, _, he⟩
  | read h hk hD =>
    obtain ⟨id, nn, a, b, c, d, code, e, f, g, h, hform⟩ := replyD_form hD
    rw [hform] at he
    exact ⟨_, _, _, _, _, _, _, _, _, _, _, _, he⟩
theorem getReply_below {kind : Int} {l : List UInt8} {w w' : World} {z : Ending} (h : GetReplyP kind l w z w') : Below w.heap.size w w' := by
  obtain ⟨o, _, _, hb⟩ := h
  exact hb
theorem eqRReply (id n a b c d : Int) (s : ByteArray) (e f g h : Int) (m : Nat) (w : World) : (Op.equalIn (m + 4) 45 (.agg (replyC id n a b c d s e f g h)) (.agg (replyC id n a b c d s e f g h))).run Tryd.prog w = .ok true w := by
  have hf : Tryd.prog.underlying 45 = some (.struct (Tryd.prog.fieldsOf 45)) := by kernel_rfl
  have hp : Tryd.prog.stoodInHeld 45 = false := by kernel_rfl
  rw [run_equalIn_struct _ _ _ _ _ hf hp]
  simp [Program.fieldsOf, Tryd.underlying45, Op.eqFields, part, go_sem, replyC, eqWord, eqAcc]
theorem eqRReplyB (id n a b c d : Int) (s : ByteArray) (e f g h : Int) (w : World) : (binOp .eql 45 (.agg (replyC id n a b c d s e f g h)) (.agg (replyC id n a b c d s e f g h))).run Tryd.prog w = .ok (.bool true) w := by
  have h' := eqRReply id n a b c d s e f g h 9996 w
  simp only [binOp, Op.equal, Op.maxDepth, Sem.run_bind]
  rw [h']
  rfl
theorem eqgRReply (x y : Operand) (u v : Array Value) (w : World) : (eqGuard .eql 45 x y (.agg u) (.agg v)).run Tryd.prog w = .ok () w := by
  have h : Tryd.prog.eqGuardType Tryd.prog.depth 45 = false := by kernel_rfl
  simp [eqGuard, Sem.run_bind, run_program, h]
theorem turnBR (v : UInt8) {b : Int} (h0 : 0 ≤ b) (h1 : b < 256) : ∃ y : UInt8, bits .xor .u8 (v.toNat : Int) b = (y.toNat : Int) := by
  obtain ⟨n, rfl⟩ := Int.eq_ofNat_of_zero_le h0
  have hn : n < 256 := by omega
  have hv : v.toNat < 256 := v.toNat_lt
  have hb := xor256 hv hn
  exact ⟨UInt8.ofNat (v.toNat ^^^ n), by rw [bx8 _ _ hv hn, UInt8.toNat_ofNat', Nat.mod_eq_of_lt (by omega)]⟩
/-- What the calls answer. -/
structure RepCalls (kind id nn a b c d : Int) (code : ByteArray) (e f g h : Int) (x : ByteArray) (ok : Bool) : Prop where
  pa : ∀ w, Calls Tryd.prog 17 #[.int .i64 kind, .agg (replyC id nn a b c d code e f g h)] w (RetV (.tuple #[.string x, .bool ok]) w)
  pr : ∀ w, Calls Tryd.prog 18 #[.int .i64 kind, .agg (replyC id nn a b c d code e f g h)] w (RetV (.tuple #[.string x, .bool ok]) w)
theorem getReplyS (kind : Int) (s : ByteArray) (hs : s.size ≤ 140737488355328) (w : World) : Calls Tryd.prog 20 #[.int .i64 kind, .string s] w (GetReplyP kind s.data.toList w) := by
  have hl : s.data.toList.length ≤ 140737488355328 := by rw [sizeL]; exact hs
  by_cases h : s.data.toList.length < 4
  · have := getReply_short kind s.data.toList h w
    rwa [bs_list] at this
  · have := getReply_long kind s.data.toList (by omega) hl w
    rwa [bs_list] at this
theorem rgetReplyS (kind : Int) (s : ByteArray) (w : World) : Calls Tryd.prog 21 #[.int .i64 kind, .string s] w (RGetRQ kind s.data.toList w) := by
  have := rgetReply_any kind s.data.toList w
  rwa [bs_list] at this
set_option maxRecDepth 100000 in
set_option maxHeartbeats 4000000 in
theorem replies_off (kind other id nn a b c d : Int) (code : ByteArray) (e f g h : Int) (s : ByteArray) (hs : s.size ≤ 140737488355328) (atI byI : Int) (w : World) {x : ByteArray} {ok : Bool} (HC : RepCalls kind id nn a b c d code e f g h x ok) : Calls Tryd.prog 4 #[.int .i64 kind, .int .i64 other, .agg (replyC id nn a b c d code e f g h), .string s, .bool false, .int .i64 atI, .int .u8 byI] w (RetV (.bool true) w) := by
  have HSZ := Lib.hid hs
  clear hs
  have HB := Lib.hid HC
  clear HC
  have HS := Lib.hid ((St.start (ag_emp w)).alloc (.cells (replyC id nn a b c d code e f g h) 42))
  go_enter Tryd.func4, Tryd.ntmps4
  go_wp2_with fail
  refine (examples_any _).mono ?_
  rintro z w1 ⟨rfl, hb1⟩
  have HS1 := Lib.hid (HS.out.grow hb1)
  clear HS hb1
  go_wp2_with (first
    | (refine wpList_load_st (cs := replyC id nn a b c d code e f g h) 0 HS1.out rfl rfl 42 (.tmp 9) rfl rfl _ Tryd.underlying42 rfl szReply ?_)
    | fail)
  refine (HB.out.pa _).mono ?_
  rintro z w2 ⟨rfl, hb2⟩
  have HS2 := Lib.hid (HS1.out.grow hb2)
  clear HS1 hb2
  go_wp2_with (first
    | (refine wpList_load_st (cs := replyC id nn a b c d code e f g h) 0 HS2.out rfl rfl 42 (.tmp 9) rfl rfl _ Tryd.underlying42 rfl szReply ?_)
    | fail)
  refine (refReply_any _ _ _ _ _ _ _ _ _ _ _ _).mono ?_
  rintro z w3 ⟨rfl, hb3⟩
  have HS3 := Lib.hid (HS2.out.grow hb3)
  clear HS2 hb3
  go_wp2_with fail
  refine (HB.out.pr _).mono ?_
  rintro z w4 ⟨rfl, hb4⟩
  have HS4 := Lib.hid (HS3.out.grow hb4)
  clear HS3 hb4
  go_wp2_with fail
  refine (getReplyS _ _ (by first | assumption | exact HSZ.out) _).mono ?_
  intro e w5 hG
  obtain ⟨id', nn', a', b', c', d', code', e', f', g', h', fl, rfl⟩ := getReply_form hG
  have HG := Lib.hid hG
  have HS5 := Lib.hid ((HS4.out.grow (getReply_below hG)).alloc (.cells zReply 42))
  clear HS4 hG
  go_wp2_with (first
    | (refine wpList_store_st (cs := replyC id' nn' a' b' c' d' code' e' f' g' h') 0 HS5.out rfl rfl 42 (.tmp 21) (.tmp 74) rfl rfl rfl szReply rfl (oneReply _ _ _ _ _ _ _ _ _ _ _) ?_)
    | fail)
  intro w6 S6
  have HS6 := Lib.hid S6
  clear HS5 S6
  go_wp2_with fail
  refine (rgetReplyS _ _ _).mono ?_
  rintro z w7 ⟨o, hR, rfl, hb7⟩
  have hsame := same_reply hR HG.out
  simp only [Ending.returned.injEq, Value.tuple.injEq, Array.mk.injEq, List.cons.injEq, Value.agg.injEq, Value.bool.injEq, and_true] at hsame
  rw [← hsame.1, ← hsame.2]
  have HS7 := Lib.hid ((HS6.out.grow hb7).alloc (.cells zReply 45))
  clear hb7 HS6 hR hsame HG
  go_wp2_with (first
    | (refine wpList_store_st (cs := replyC id' nn' a' b' c' d' code' e' f' g' h') 0 HS7.out rfl rfl 45 (.tmp 23) (.tmp 80) rfl rfl rfl szRReply rfl (oneReply _ _ _ _ _ _ _ _ _ _ _) ?_)
    | fail)
  intro w8 S8
  obtain ⟨W, hW⟩ : ∃ W, W = w8 := ⟨_, rfl⟩
  have HS8 : Hid (St empH w none_ empH w8 [blk w7.heap.size (.cells (replyC id' nn' a' b' c' d' code' e' f' g' h') 45), blk w5.heap.size (.cells (replyC id' nn' a' b' c' d' code' e' f' g' h') 42)]) := S8.drop 2
  clear HS7 S8
  go_wp2_with fail
  have p0 : ∀ w', Below w8.heap.size w8 w' → w'.cell? ⟨w5.heap.size, 0, none⟩ = some (.int .u64 id') := fun w' h => (HS8.out.grow h).cell 1 rfl rfl
  have p1 : ∀ w', Below w8.heap.size w8 w' → w'.cell? ⟨w5.heap.size, 1, none⟩ = some (.int .u64 nn') := fun w' h => (HS8.out.grow h).cell 1 rfl rfl
  have p2 : ∀ w', Below w8.heap.size w8 w' → w'.cell? ⟨w5.heap.size, 2, none⟩ = some (.int .u64 a') := fun w' h => (HS8.out.grow h).cell 1 rfl rfl
  have p3 : ∀ w', Below w8.heap.size w8 w' → w'.cell? ⟨w5.heap.size, 3, none⟩ = some (.int .u64 b') := fun w' h => (HS8.out.grow h).cell 1 rfl rfl
  have p4 : ∀ w', Below w8.heap.size w8 w' → w'.cell? ⟨w5.heap.size, 4, none⟩ = some (.int .u64 c') := fun w' h => (HS8.out.grow h).cell 1 rfl rfl
  have p5 : ∀ w', Below w8.heap.size w8 w' → w'.cell? ⟨w5.heap.size, 5, none⟩ = some (.int .u64 d') := fun w' h => (HS8.out.grow h).cell 1 rfl rfl
  have p6 : ∀ w', Below w8.heap.size w8 w' → w'.cell? ⟨w5.heap.size, 6, none⟩ = some (.string code') := fun w' h => (HS8.out.grow h).cell 1 rfl rfl
  have p7 : ∀ w', Below w8.heap.size w8 w' → w'.cell? ⟨w5.heap.size, 7, none⟩ = some (.int .u64 e') := fun w' h => (HS8.out.grow h).cell 1 rfl rfl
  have p8 : ∀ w', Below w8.heap.size w8 w' → w'.cell? ⟨w5.heap.size, 8, none⟩ = some (.int .u64 f') := fun w' h => (HS8.out.grow h).cell 1 rfl rfl
  have p9 : ∀ w', Below w8.heap.size w8 w' → w'.cell? ⟨w5.heap.size, 9, none⟩ = some (.int .u64 g') := fun w' h => (HS8.out.grow h).cell 1 rfl rfl
  have p10 : ∀ w', Below w8.heap.size w8 w' → w'.cell? ⟨w5.heap.size, 10, none⟩ = some (.int .u64 h') := fun w' h => (HS8.out.grow h).cell 1 rfl rfl
  have q0 : ∀ w', Below w8.heap.size w8 w' → w'.cell? ⟨w7.heap.size, 0, none⟩ = some (.int .u64 id') := fun w' h => (HS8.out.grow h).cell 0 rfl rfl
  have q1 : ∀ w', Below w8.heap.size w8 w' → w'.cell? ⟨w7.heap.size, 1, none⟩ = some (.int .u64 nn') := fun w' h => (HS8.out.grow h).cell 0 rfl rfl
  have q2 : ∀ w', Below w8.heap.size w8 w' → w'.cell? ⟨w7.heap.size, 2, none⟩ = some (.int .u64 a') := fun w' h => (HS8.out.grow h).cell 0 rfl rfl
  have q3 : ∀ w', Below w8.heap.size w8 w' → w'.cell? ⟨w7.heap.size, 3, none⟩ = some (.int .u64 b') := fun w' h => (HS8.out.grow h).cell 0 rfl rfl
  have q4 : ∀ w', Below w8.heap.size w8 w' → w'.cell? ⟨w7.heap.size, 4, none⟩ = some (.int .u64 c') := fun w' h => (HS8.out.grow h).cell 0 rfl rfl
  have q5 : ∀ w', Below w8.heap.size w8 w' → w'.cell? ⟨w7.heap.size, 5, none⟩ = some (.int .u64 d') := fun w' h => (HS8.out.grow h).cell 0 rfl rfl
  have q6 : ∀ w', Below w8.heap.size w8 w' → w'.cell? ⟨w7.heap.size, 6, none⟩ = some (.string code') := fun w' h => (HS8.out.grow h).cell 0 rfl rfl
  have q7 : ∀ w', Below w8.heap.size w8 w' → w'.cell? ⟨w7.heap.size, 7, none⟩ = some (.int .u64 e') := fun w' h => (HS8.out.grow h).cell 0 rfl rfl
  have q8 : ∀ w', Below w8.heap.size w8 w' → w'.cell? ⟨w7.heap.size, 8, none⟩ = some (.int .u64 f') := fun w' h => (HS8.out.grow h).cell 0 rfl rfl
  have q9 : ∀ w', Below w8.heap.size w8 w' → w'.cell? ⟨w7.heap.size, 9, none⟩ = some (.int .u64 g') := fun w' h => (HS8.out.grow h).cell 0 rfl rfl
  have q10 : ∀ w', Below w8.heap.size w8 w' → w'.cell? ⟨w7.heap.size, 10, none⟩ = some (.int .u64 h') := fun w' h => (HS8.out.grow h).cell 0 rfl rfl
  have heq : ∀ w, (binOp .eql 45 (.agg #[.int .u64 id', .int .u64 nn', .int .u64 a', .int .u64 b', .int .u64 c', .int .u64 d', .string code', .int .u64 e', .int .u64 f', .int .u64 g', .int .u64 h']) (.agg #[.int .u64 id', .int .u64 nn', .int .u64 a', .int .u64 b', .int .u64 c', .int .u64 d', .string code', .int .u64 e', .int .u64 f', .int .u64 g', .int .u64 h'])).run Tryd.prog w = .ok (.bool true) w := fun w => eqRReplyB id' nn' a' b' c' d' code' e' f' g' h' w
  have heg : ∀ x y w, (eqGuard .eql 45 x y (.agg #[.int .u64 id', .int .u64 nn', .int .u64 a', .int .u64 b', .int .u64 c', .int .u64 d', .string code', .int .u64 e', .int .u64 f', .int .u64 g', .int .u64 h']) (.agg #[.int .u64 id', .int .u64 nn', .int .u64 a', .int .u64 b', .int .u64 c', .int .u64 d', .string code', .int .u64 e', .int .u64 f', .int .u64 g', .int .u64 h'])).run Tryd.prog w = .ok () w := fun x y w => eqgRReply x y _ _ w
  go_region_held3 (fun w' => Below w8.heap.size w8 w') (repeat (first | assumption | exact Below.refl _ _ | apply Below.drew | (refine Below.alloc ?_ (by first | exact Nat.le_refl _ | exact Below.size (by assumption) | simp) _))) (first
    | (go_at_call 19; refine (retFrom (W := w8) ?_ (refReplyE id' nn' a' b' c' d' code' e' f' g' h' _)).mono ?_; (first | assumption | exact (Below.refl _ _).drew); rintro z w9 ⟨rfl, hb9⟩))
  have HB9 := Lib.hid ((HS8.out.grow hb9).below)
  go_wp2_with fail
  exact bodyPost_ret (v := .bool true) (by simp [results, Tryd.results4, go_sem]) rfl ⟨rfl, HB9.out⟩
set_option maxRecDepth 100000 in
set_option maxHeartbeats 4000000 in
theorem replies_none (kind other id nn a b c d : Int) (code : ByteArray) (e f g h : Int) (s : ByteArray) (hs : s.size ≤ 140737488355328) (atI byI : Int) (w : World) {x : ByteArray} {ok : Bool} (HC : RepCalls kind id nn a b c d code e f g h x ok) (hx : x = ⟨#[]⟩) : Calls Tryd.prog 4 #[.int .i64 kind, .int .i64 other, .agg (replyC id nn a b c d code e f g h), .string s, .bool true, .int .i64 atI, .int .u8 byI] w (RetV (.bool true) w) := by
  have e0 : (x.toList == ([] : List UInt8)) = true := by rw [hx, ByteArray.toList_eq]; rfl
  have e0b : x.toList.isEmpty = true := by rw [hx, ByteArray.toList_eq]; rfl
  clear hx
  have HSZ := Lib.hid hs
  clear hs
  have HB := Lib.hid HC
  clear HC
  have HS := Lib.hid ((St.start (ag_emp w)).alloc (.cells (replyC id nn a b c d code e f g h) 42))
  go_enter Tryd.func4, Tryd.ntmps4
  go_wp2_with fail
  refine (examples_any _).mono ?_
  rintro z w1 ⟨rfl, hb1⟩
  have HS1 := Lib.hid (HS.out.grow hb1)
  clear HS hb1
  go_wp2_with (first
    | (refine wpList_load_st (cs := replyC id nn a b c d code e f g h) 0 HS1.out rfl rfl 42 (.tmp 9) rfl rfl _ Tryd.underlying42 rfl szReply ?_)
    | fail)
  refine (HB.out.pa _).mono ?_
  rintro z w2 ⟨rfl, hb2⟩
  have HS2 := Lib.hid (HS1.out.grow hb2)
  clear HS1 hb2
  go_wp2_with (first
    | (refine wpList_load_st (cs := replyC id nn a b c d code e f g h) 0 HS2.out rfl rfl 42 (.tmp 9) rfl rfl _ Tryd.underlying42 rfl szReply ?_)
    | fail)
  refine (refReply_any _ _ _ _ _ _ _ _ _ _ _ _).mono ?_
  rintro z w3 ⟨rfl, hb3⟩
  have HS3 := Lib.hid (HS2.out.grow hb3)
  clear HS2 hb3
  go_wp2_with fail
  refine (HB.out.pr _).mono ?_
  rintro z w4 ⟨rfl, hb4⟩
  have HS4 := Lib.hid (HS3.out.grow hb4)
  clear HS3 hb4
  go_wp2_with fail
  refine (getReplyS _ _ (by first | assumption | exact HSZ.out) _).mono ?_
  intro e w5 hG
  obtain ⟨id', nn', a', b', c', d', code', e', f', g', h', fl, rfl⟩ := getReply_form hG
  have HG := Lib.hid hG
  have HS5 := Lib.hid ((HS4.out.grow (getReply_below hG)).alloc (.cells zReply 42))
  clear HS4 hG
  go_wp2_with (first
    | (refine wpList_store_st (cs := replyC id' nn' a' b' c' d' code' e' f' g' h') 0 HS5.out rfl rfl 42 (.tmp 21) (.tmp 74) rfl rfl rfl szReply rfl (oneReply _ _ _ _ _ _ _ _ _ _ _) ?_)
    | fail)
  intro w6 S6
  have HS6 := Lib.hid S6
  clear HS5 S6
  go_wp2_with fail
  refine (rgetReplyS _ _ _).mono ?_
  rintro z w7 ⟨o, hR, rfl, hb7⟩
  have hsame := same_reply hR HG.out
  simp only [Ending.returned.injEq, Value.tuple.injEq, Array.mk.injEq, List.cons.injEq, Value.agg.injEq, Value.bool.injEq, and_true] at hsame
  rw [← hsame.1, ← hsame.2]
  have HS7 := Lib.hid ((HS6.out.grow hb7).alloc (.cells zReply 45))
  clear hb7 HS6 hR hsame HG
  go_wp2_with (first
    | (refine wpList_store_st (cs := replyC id' nn' a' b' c' d' code' e' f' g' h') 0 HS7.out rfl rfl 45 (.tmp 23) (.tmp 80) rfl rfl rfl szRReply rfl (oneReply _ _ _ _ _ _ _ _ _ _ _) ?_)
    | fail)
  intro w8 S8
  obtain ⟨W, hW⟩ : ∃ W, W = w8 := ⟨_, rfl⟩
  have HS8 : Hid (St empH w none_ empH w8 [blk w7.heap.size (.cells (replyC id' nn' a' b' c' d' code' e' f' g' h') 45), blk w5.heap.size (.cells (replyC id' nn' a' b' c' d' code' e' f' g' h') 42)]) := S8.drop 2
  clear HS7 S8
  go_wp2_with fail
  have p0 : ∀ w', Below w8.heap.size w8 w' → w'.cell? ⟨w5.heap.size, 0, none⟩ = some (.int .u64 id') := fun w' h => (HS8.out.grow h).cell 1 rfl rfl
  have p1 : ∀ w', Below w8.heap.size w8 w' → w'.cell? ⟨w5.heap.size, 1, none⟩ = some (.int .u64 nn') := fun w' h => (HS8.out.grow h).cell 1 rfl rfl
  have p2 : ∀ w', Below w8.heap.size w8 w' → w'.cell? ⟨w5.heap.size, 2, none⟩ = some (.int .u64 a') := fun w' h => (HS8.out.grow h).cell 1 rfl rfl
  have p3 : ∀ w', Below w8.heap.size w8 w' → w'.cell? ⟨w5.heap.size, 3, none⟩ = some (.int .u64 b') := fun w' h => (HS8.out.grow h).cell 1 rfl rfl
  have p4 : ∀ w', Below w8.heap.size w8 w' → w'.cell? ⟨w5.heap.size, 4, none⟩ = some (.int .u64 c') := fun w' h => (HS8.out.grow h).cell 1 rfl rfl
  have p5 : ∀ w', Below w8.heap.size w8 w' → w'.cell? ⟨w5.heap.size, 5, none⟩ = some (.int .u64 d') := fun w' h => (HS8.out.grow h).cell 1 rfl rfl
  have p6 : ∀ w', Below w8.heap.size w8 w' → w'.cell? ⟨w5.heap.size, 6, none⟩ = some (.string code') := fun w' h => (HS8.out.grow h).cell 1 rfl rfl
  have p7 : ∀ w', Below w8.heap.size w8 w' → w'.cell? ⟨w5.heap.size, 7, none⟩ = some (.int .u64 e') := fun w' h => (HS8.out.grow h).cell 1 rfl rfl
  have p8 : ∀ w', Below w8.heap.size w8 w' → w'.cell? ⟨w5.heap.size, 8, none⟩ = some (.int .u64 f') := fun w' h => (HS8.out.grow h).cell 1 rfl rfl
  have p9 : ∀ w', Below w8.heap.size w8 w' → w'.cell? ⟨w5.heap.size, 9, none⟩ = some (.int .u64 g') := fun w' h => (HS8.out.grow h).cell 1 rfl rfl
  have p10 : ∀ w', Below w8.heap.size w8 w' → w'.cell? ⟨w5.heap.size, 10, none⟩ = some (.int .u64 h') := fun w' h => (HS8.out.grow h).cell 1 rfl rfl
  have q0 : ∀ w', Below w8.heap.size w8 w' → w'.cell? ⟨w7.heap.size, 0, none⟩ = some (.int .u64 id') := fun w' h => (HS8.out.grow h).cell 0 rfl rfl
  have q1 : ∀ w', Below w8.heap.size w8 w' → w'.cell? ⟨w7.heap.size, 1, none⟩ = some (.int .u64 nn') := fun w' h => (HS8.out.grow h).cell 0 rfl rfl
  have q2 : ∀ w', Below w8.heap.size w8 w' → w'.cell? ⟨w7.heap.size, 2, none⟩ = some (.int .u64 a') := fun w' h => (HS8.out.grow h).cell 0 rfl rfl
  have q3 : ∀ w', Below w8.heap.size w8 w' → w'.cell? ⟨w7.heap.size, 3, none⟩ = some (.int .u64 b') := fun w' h => (HS8.out.grow h).cell 0 rfl rfl
  have q4 : ∀ w', Below w8.heap.size w8 w' → w'.cell? ⟨w7.heap.size, 4, none⟩ = some (.int .u64 c') := fun w' h => (HS8.out.grow h).cell 0 rfl rfl
  have q5 : ∀ w', Below w8.heap.size w8 w' → w'.cell? ⟨w7.heap.size, 5, none⟩ = some (.int .u64 d') := fun w' h => (HS8.out.grow h).cell 0 rfl rfl
  have q6 : ∀ w', Below w8.heap.size w8 w' → w'.cell? ⟨w7.heap.size, 6, none⟩ = some (.string code') := fun w' h => (HS8.out.grow h).cell 0 rfl rfl
  have q7 : ∀ w', Below w8.heap.size w8 w' → w'.cell? ⟨w7.heap.size, 7, none⟩ = some (.int .u64 e') := fun w' h => (HS8.out.grow h).cell 0 rfl rfl
  have q8 : ∀ w', Below w8.heap.size w8 w' → w'.cell? ⟨w7.heap.size, 8, none⟩ = some (.int .u64 f') := fun w' h => (HS8.out.grow h).cell 0 rfl rfl
  have q9 : ∀ w', Below w8.heap.size w8 w' → w'.cell? ⟨w7.heap.size, 9, none⟩ = some (.int .u64 g') := fun w' h => (HS8.out.grow h).cell 0 rfl rfl
  have q10 : ∀ w', Below w8.heap.size w8 w' → w'.cell? ⟨w7.heap.size, 10, none⟩ = some (.int .u64 h') := fun w' h => (HS8.out.grow h).cell 0 rfl rfl
  have heq : ∀ w, (binOp .eql 45 (.agg #[.int .u64 id', .int .u64 nn', .int .u64 a', .int .u64 b', .int .u64 c', .int .u64 d', .string code', .int .u64 e', .int .u64 f', .int .u64 g', .int .u64 h']) (.agg #[.int .u64 id', .int .u64 nn', .int .u64 a', .int .u64 b', .int .u64 c', .int .u64 d', .string code', .int .u64 e', .int .u64 f', .int .u64 g', .int .u64 h'])).run Tryd.prog w = .ok (.bool true) w := fun w => eqRReplyB id' nn' a' b' c' d' code' e' f' g' h' w
  have heg : ∀ x y w, (eqGuard .eql 45 x y (.agg #[.int .u64 id', .int .u64 nn', .int .u64 a', .int .u64 b', .int .u64 c', .int .u64 d', .string code', .int .u64 e', .int .u64 f', .int .u64 g', .int .u64 h']) (.agg #[.int .u64 id', .int .u64 nn', .int .u64 a', .int .u64 b', .int .u64 c', .int .u64 d', .string code', .int .u64 e', .int .u64 f', .int .u64 g', .int .u64 h'])).run Tryd.prog w = .ok () w := fun x y w => eqgRReply x y _ _ w
  go_region_held3 (fun w' => Below w8.heap.size w8 w') (repeat (first | assumption | exact Below.refl _ _ | apply Below.drew | (refine Below.alloc ?_ (by first | exact Nat.le_refl _ | exact Below.size (by assumption) | simp) _))) (first
    | (go_at_call 19; refine (retFrom (W := w8) ?_ (refReplyE id' nn' a' b' c' d' code' e' f' g' h' _)).mono ?_; (first | assumption | exact (Below.refl _ _).drew); rintro z w9 ⟨rfl, hb9⟩))
  have HB9 := Lib.hid ((HS8.out.grow hb9).below)
  go_wp2_with fail
  exact bodyPost_ret (v := .bool true) (by simp [results, Tryd.results4, go_sem]) rfl ⟨rfl, HB9.out⟩
set_option maxRecDepth 100000 in
set_option maxHeartbeats 4000000 in
theorem replies_on (kind other id nn a b c d : Int) (code : ByteArray) (e f g h : Int) (s : ByteArray) (atI byI : Int) (w : World) {x : ByteArray} {ok : Bool} (HC : RepCalls kind id nn a b c d code e f g h x ok) (hx : x ≠ ⟨#[]⟩) (hsz : x.size ≤ 1000000) (hat : 0 ≤ atI) (hat2 : atI < 9223372036854775808) (hby0 : 0 ≤ byI) (hby1 : byI < 256) : Calls Tryd.prog 4 #[.int .i64 kind, .int .i64 other, .agg (replyC id nn a b c d code e f g h), .string s, .bool true, .int .i64 atI, .int .u8 byI] w (RetV (.bool true) w) := by
  have HXS := Lib.hid hsz
  have hxs : 0 < x.size := by
    rcases Nat.eq_zero_or_pos x.size with h | h
    · exact absurd (ByteArray.ext (Array.eq_empty_of_size_eq_zero h)) hx
    · exact h
  have e0 : (x.toList == ([] : List UInt8)) = false := by
    rw [beq_eq_false_iff_ne, ByteArray.toList_eq]
    intro h
    exact hx (ByteArray.ext (Array.toList_inj.1 h))
  have e0b : x.toList.isEmpty = false := by rw [List.isEmpty_eq_false_iff]; intro h; rw [h] at e0; cases e0
  obtain ⟨m, hm⟩ : ∃ m : Nat, atI % (x.size : Int) = (m : Int) := ⟨(atI % (x.size : Int)).toNat, (Int.toNat_of_nonneg (Int.emod_nonneg _ (by omega))).symm⟩
  have hm8 : (m : Int) < (x.size : Int) := hm ▸ Int.emod_lt_of_pos _ (by omega)
  have hmt : (atI).tmod (x.size : Int) = (m : Int) := by rw [Int.tmod_eq_emod_of_nonneg (by omega)]; exact hm
  clear hx
  have hneg : ¬ atI < 0 := by omega
  have HB := Lib.hid HC
  clear HC
  have HS := Lib.hid ((St.start (ag_emp w)).alloc (.cells (replyC id nn a b c d code e f g h) 42))
  go_enter Tryd.func4, Tryd.ntmps4
  go_wp2_with fail
  refine (examples_any _).mono ?_
  rintro z w1 ⟨rfl, hb1⟩
  have HS1 := Lib.hid (HS.out.grow hb1)
  clear HS hb1
  go_wp2_with (first
    | (refine wpList_load_st (cs := replyC id nn a b c d code e f g h) 0 HS1.out rfl rfl 42 (.tmp 9) rfl rfl _ Tryd.underlying42 rfl szReply ?_)
    | fail)
  refine (HB.out.pa _).mono ?_
  rintro z w2 ⟨rfl, hb2⟩
  have HS2 := Lib.hid (HS1.out.grow hb2)
  clear HS1 hb2
  go_wp2_with (first
    | (refine wpList_load_st (cs := replyC id nn a b c d code e f g h) 0 HS2.out rfl rfl 42 (.tmp 9) rfl rfl _ Tryd.underlying42 rfl szReply ?_)
    | fail)
  refine (refReply_any _ _ _ _ _ _ _ _ _ _ _ _).mono ?_
  rintro z w3 ⟨rfl, hb3⟩
  have HS3 := Lib.hid (HS2.out.grow hb3)
  clear HS2 hb3
  go_wp2_with fail
  refine (HB.out.pr _).mono ?_
  rintro z w4 ⟨rfl, hb4⟩
  have HS4 := Lib.hid (HS3.out.grow hb4)
  clear HS3 hb4
  have hconv := Lib.run_convert_string_bytes (P := Tryd.prog) w4 9 33 5 x Tryd.underlying9 Tryd.underlying33 Tryd.underlying5
  obtain ⟨r, S15⟩ := bytes_st HS4.out x
  obtain ⟨W, hW⟩ : ∃ W, W = Lib.bytesWorld w4 5 x := ⟨_, rfl⟩
  rw [← hW] at hconv S15
  have HS15 := Lib.hid S15
  have hj : m < x.size := by omega
  have hjL : m < x.data.toList.length := by rw [sizeL]; exact hj
  have hcell : W.cell? ⟨w4.heap.size, m, none⟩ = some (.int .u8 (x.data.toList.getD m 0).toNat) := S15.cell 0 rfl (bytesO_at hjL)
  have hfr : W.frozen? ⟨w4.heap.size, m, none⟩ = false := bytesO_frozen (S15.blk_at 0 rfl) hjL
  obtain ⟨v0, hv0⟩ : ∃ v0, v0 = x.data.toList.getD m 0 := ⟨_, rfl⟩
  rw [← hv0] at hcell
  have HW := Lib.hid hW
  have hi1 : (0 : Int) ≤ (m : Int) := by omega
  obtain ⟨y, hy⟩ := turnBR v0 hby0 hby1
  clear S15 hv0 HS4 hW
  go_wp2_with fail
  go_region
  have hset : ((x.data.toList.map fun b => Value.int .u8 b.toNat).toArray ++ Array.replicate r (Value.int .u8 0)).setIfInBounds m (.int .u8 y.toNat) = _ := bytesO_set hjL y
  have S16 := (HS15.out.setCell (j := m) 0 rfl (.int .u8 y.toNat)).drew
  rw [hset] at S16
  have hlen : (x.data.toList.set m y).length = x.size := by rw [List.length_set, sizeL]
  obtain ⟨W2, hW2⟩ : ∃ W2, W2 = (W.setCell ⟨w4.heap.size, m, none⟩ (.int .u8 y.toNat)).drew := ⟨_, rfl⟩
  have S17 : St empH w none_ empH W2 [blk w4.heap.size (bytesO (x.data.toList.set m y) r)] := by
    rw [hW2]
    have := (S16.drop 1)
    unfold bytesO
    rw [List.length_set]
    exact this
  rw [← hW2]
  have hconv2 := bytesO_conv (cap := grownCap w4 x.size 0 5) (S17.blk_at 0 rfl)
  rw [hlen] at hconv2
  have HS4 := Lib.hid S17
  have HSZ : Hid ((bs (x.data.toList.set m y)).size ≤ 140737488355328) := Lib.hid (by rw [bs_size, hlen]; exact Nat.le_trans HXS.out (by decide))
  clear S16 S17 hset hW2 HS15 hlen hcell hfr hconv
  go_wp2_with fail
  refine (getReplyS _ _ (by first | assumption | exact HSZ.out) _).mono ?_
  intro e w5 hG
  obtain ⟨id', nn', a', b', c', d', code', e', f', g', h', fl, rfl⟩ := getReply_form hG
  have HG := Lib.hid hG
  have HS5 := Lib.hid ((HS4.out.grow (getReply_below hG)).alloc (.cells zReply 42))
  clear HS4 hG
  go_wp2_with (first
    | (refine wpList_store_st (cs := replyC id' nn' a' b' c' d' code' e' f' g' h') 0 HS5.out rfl rfl 42 (.tmp 21) (.tmp 74) rfl rfl rfl szReply rfl (oneReply _ _ _ _ _ _ _ _ _ _ _) ?_)
    | fail)
  intro w6 S6
  have HS6 := Lib.hid S6
  clear HS5 S6
  go_wp2_with fail
  refine (rgetReplyS _ _ _).mono ?_
  rintro z w7 ⟨o, hR, rfl, hb7⟩
  have hsame := same_reply hR HG.out
  simp only [Ending.returned.injEq, Value.tuple.injEq, Array.mk.injEq, List.cons.injEq, Value.agg.injEq, Value.bool.injEq, and_true] at hsame
  rw [← hsame.1, ← hsame.2]
  have HS7 := Lib.hid ((HS6.out.grow hb7).alloc (.cells zReply 45))
  clear hb7 HS6 hR hsame HG
  go_wp2_with (first
    | (refine wpList_store_st (cs := replyC id' nn' a' b' c' d' code' e' f' g' h') 0 HS7.out rfl rfl 45 (.tmp 23) (.tmp 80) rfl rfl rfl szRReply rfl (oneReply _ _ _ _ _ _ _ _ _ _ _) ?_)
    | fail)
  intro w8 S8
  obtain ⟨W, hW⟩ : ∃ W, W = w8 := ⟨_, rfl⟩
  have HS8 : Hid (St empH w none_ empH w8 [blk w7.heap.size (.cells (replyC id' nn' a' b' c' d' code' e' f' g' h') 45), blk w5.heap.size (.cells (replyC id' nn' a' b' c' d' code' e' f' g' h') 42)]) := S8.drop 2
  clear HS7 S8
  go_wp2_with fail
  have p0 : ∀ w', Below w8.heap.size w8 w' → w'.cell? ⟨w5.heap.size, 0, none⟩ = some (.int .u64 id') := fun w' h => (HS8.out.grow h).cell 1 rfl rfl
  have p1 : ∀ w', Below w8.heap.size w8 w' → w'.cell? ⟨w5.heap.size, 1, none⟩ = some (.int .u64 nn') := fun w' h => (HS8.out.grow h).cell 1 rfl rfl
  have p2 : ∀ w', Below w8.heap.size w8 w' → w'.cell? ⟨w5.heap.size, 2, none⟩ = some (.int .u64 a') := fun w' h => (HS8.out.grow h).cell 1 rfl rfl
  have p3 : ∀ w', Below w8.heap.size w8 w' → w'.cell? ⟨w5.heap.size, 3, none⟩ = some (.int .u64 b') := fun w' h => (HS8.out.grow h).cell 1 rfl rfl
  have p4 : ∀ w', Below w8.heap.size w8 w' → w'.cell? ⟨w5.heap.size, 4, none⟩ = some (.int .u64 c') := fun w' h => (HS8.out.grow h).cell 1 rfl rfl
  have p5 : ∀ w', Below w8.heap.size w8 w' → w'.cell? ⟨w5.heap.size, 5, none⟩ = some (.int .u64 d') := fun w' h => (HS8.out.grow h).cell 1 rfl rfl
  have p6 : ∀ w', Below w8.heap.size w8 w' → w'.cell? ⟨w5.heap.size, 6, none⟩ = some (.string code') := fun w' h => (HS8.out.grow h).cell 1 rfl rfl
  have p7 : ∀ w', Below w8.heap.size w8 w' → w'.cell? ⟨w5.heap.size, 7, none⟩ = some (.int .u64 e') := fun w' h => (HS8.out.grow h).cell 1 rfl rfl
  have p8 : ∀ w', Below w8.heap.size w8 w' → w'.cell? ⟨w5.heap.size, 8, none⟩ = some (.int .u64 f') := fun w' h => (HS8.out.grow h).cell 1 rfl rfl
  have p9 : ∀ w', Below w8.heap.size w8 w' → w'.cell? ⟨w5.heap.size, 9, none⟩ = some (.int .u64 g') := fun w' h => (HS8.out.grow h).cell 1 rfl rfl
  have p10 : ∀ w', Below w8.heap.size w8 w' → w'.cell? ⟨w5.heap.size, 10, none⟩ = some (.int .u64 h') := fun w' h => (HS8.out.grow h).cell 1 rfl rfl
  have q0 : ∀ w', Below w8.heap.size w8 w' → w'.cell? ⟨w7.heap.size, 0, none⟩ = some (.int .u64 id') := fun w' h => (HS8.out.grow h).cell 0 rfl rfl
  have q1 : ∀ w', Below w8.heap.size w8 w' → w'.cell? ⟨w7.heap.size, 1, none⟩ = some (.int .u64 nn') := fun w' h => (HS8.out.grow h).cell 0 rfl rfl
  have q2 : ∀ w', Below w8.heap.size w8 w' → w'.cell? ⟨w7.heap.size, 2, none⟩ = some (.int .u64 a') := fun w' h => (HS8.out.grow h).cell 0 rfl rfl
  have q3 : ∀ w', Below w8.heap.size w8 w' → w'.cell? ⟨w7.heap.size, 3, none⟩ = some (.int .u64 b') := fun w' h => (HS8.out.grow h).cell 0 rfl rfl
  have q4 : ∀ w', Below w8.heap.size w8 w' → w'.cell? ⟨w7.heap.size, 4, none⟩ = some (.int .u64 c') := fun w' h => (HS8.out.grow h).cell 0 rfl rfl
  have q5 : ∀ w', Below w8.heap.size w8 w' → w'.cell? ⟨w7.heap.size, 5, none⟩ = some (.int .u64 d') := fun w' h => (HS8.out.grow h).cell 0 rfl rfl
  have q6 : ∀ w', Below w8.heap.size w8 w' → w'.cell? ⟨w7.heap.size, 6, none⟩ = some (.string code') := fun w' h => (HS8.out.grow h).cell 0 rfl rfl
  have q7 : ∀ w', Below w8.heap.size w8 w' → w'.cell? ⟨w7.heap.size, 7, none⟩ = some (.int .u64 e') := fun w' h => (HS8.out.grow h).cell 0 rfl rfl
  have q8 : ∀ w', Below w8.heap.size w8 w' → w'.cell? ⟨w7.heap.size, 8, none⟩ = some (.int .u64 f') := fun w' h => (HS8.out.grow h).cell 0 rfl rfl
  have q9 : ∀ w', Below w8.heap.size w8 w' → w'.cell? ⟨w7.heap.size, 9, none⟩ = some (.int .u64 g') := fun w' h => (HS8.out.grow h).cell 0 rfl rfl
  have q10 : ∀ w', Below w8.heap.size w8 w' → w'.cell? ⟨w7.heap.size, 10, none⟩ = some (.int .u64 h') := fun w' h => (HS8.out.grow h).cell 0 rfl rfl
  have heq : ∀ w, (binOp .eql 45 (.agg #[.int .u64 id', .int .u64 nn', .int .u64 a', .int .u64 b', .int .u64 c', .int .u64 d', .string code', .int .u64 e', .int .u64 f', .int .u64 g', .int .u64 h']) (.agg #[.int .u64 id', .int .u64 nn', .int .u64 a', .int .u64 b', .int .u64 c', .int .u64 d', .string code', .int .u64 e', .int .u64 f', .int .u64 g', .int .u64 h'])).run Tryd.prog w = .ok (.bool true) w := fun w => eqRReplyB id' nn' a' b' c' d' code' e' f' g' h' w
  have heg : ∀ x y w, (eqGuard .eql 45 x y (.agg #[.int .u64 id', .int .u64 nn', .int .u64 a', .int .u64 b', .int .u64 c', .int .u64 d', .string code', .int .u64 e', .int .u64 f', .int .u64 g', .int .u64 h']) (.agg #[.int .u64 id', .int .u64 nn', .int .u64 a', .int .u64 b', .int .u64 c', .int .u64 d', .string code', .int .u64 e', .int .u64 f', .int .u64 g', .int .u64 h'])).run Tryd.prog w = .ok () w := fun x y w => eqgRReply x y _ _ w
  go_region_held3 (fun w' => Below w8.heap.size w8 w') (repeat (first | assumption | exact Below.refl _ _ | apply Below.drew | (refine Below.alloc ?_ (by first | exact Nat.le_refl _ | exact Below.size (by assumption) | simp) _))) (first
    | (go_at_call 19; refine (retFrom (W := w8) ?_ (refReplyE id' nn' a' b' c' d' code' e' f' g' h' _)).mono ?_; (first | assumption | exact (Below.refl _ _).drew); rintro z w9 ⟨rfl, hb9⟩))
  have HB9 := Lib.hid ((HS8.out.grow hb9).below)
  go_wp2_with fail
  exact bodyPost_ret (v := .bool true) (by simp [results, Tryd.results4, go_sem]) rfl ⟨rfl, HB9.out⟩
set_option maxRecDepth 100000 in
set_option maxHeartbeats 4000000 in
theorem replies_neg (kind other id nn a b c d : Int) (code : ByteArray) (e f g h : Int) (s : ByteArray) (atI byI : Int) (w : World) {x : ByteArray} {ok : Bool} (HC : RepCalls kind id nn a b c d code e f g h x ok) (hx : x ≠ ⟨#[]⟩) (hsz : x.size ≤ 1000000) (hat : atI < 0) (hat2 : -9223372036854775808 ≤ atI) (hby0 : 0 ≤ byI) (hby1 : byI < 256) : Calls Tryd.prog 4 #[.int .i64 kind, .int .i64 other, .agg (replyC id nn a b c d code e f g h), .string s, .bool true, .int .i64 atI, .int .u8 byI] w (RetV (.bool true) w) := by
  have HXS := Lib.hid hsz
  have hxs : 0 < x.size := by
    rcases Nat.eq_zero_or_pos x.size with h | h
    · exact absurd (ByteArray.ext (Array.eq_empty_of_size_eq_zero h)) hx
    · exact h
  have e0 : (x.toList == ([] : List UInt8)) = false := by
    rw [beq_eq_false_iff_ne, ByteArray.toList_eq]
    intro h
    exact hx (ByteArray.ext (Array.toList_inj.1 h))
  have e0b : x.toList.isEmpty = false := by rw [List.isEmpty_eq_false_iff]; intro h; rw [h] at e0; cases e0
  obtain ⟨m, hm⟩ : ∃ m : Nat, (-(atI + 1)) % (x.size : Int) = (m : Int) := ⟨((-(atI + 1)) % (x.size : Int)).toNat, (Int.toNat_of_nonneg (Int.emod_nonneg _ (by omega))).symm⟩
  have hm8 : (m : Int) < (x.size : Int) := hm ▸ Int.emod_lt_of_pos _ (by omega)
  have hmt : ((-(atI + 1))).tmod (x.size : Int) = (m : Int) := by rw [Int.tmod_eq_emod_of_nonneg (by omega)]; exact hm
  clear hx
  have hw1 : IntKind.i64.wrap (atI + 1) = atI + 1 := IntWalk.i64_in _ (by omega)
  have HB := Lib.hid HC
  clear HC
  have HS := Lib.hid ((St.start (ag_emp w)).alloc (.cells (replyC id nn a b c d code e f g h) 42))
  go_enter Tryd.func4, Tryd.ntmps4
  go_wp2_with fail
  refine (examples_any _).mono ?_
  rintro z w1 ⟨rfl, hb1⟩
  have HS1 := Lib.hid (HS.out.grow hb1)
  clear HS hb1
  go_wp2_with (first
    | (refine wpList_load_st (cs := replyC id nn a b c d code e f g h) 0 HS1.out rfl rfl 42 (.tmp 9) rfl rfl _ Tryd.underlying42 rfl szReply ?_)
    | fail)
  refine (HB.out.pa _).mono ?_
  rintro z w2 ⟨rfl, hb2⟩
  have HS2 := Lib.hid (HS1.out.grow hb2)
  clear HS1 hb2
  go_wp2_with (first
    | (refine wpList_load_st (cs := replyC id nn a b c d code e f g h) 0 HS2.out rfl rfl 42 (.tmp 9) rfl rfl _ Tryd.underlying42 rfl szReply ?_)
    | fail)
  refine (refReply_any _ _ _ _ _ _ _ _ _ _ _ _).mono ?_
  rintro z w3 ⟨rfl, hb3⟩
  have HS3 := Lib.hid (HS2.out.grow hb3)
  clear HS2 hb3
  go_wp2_with fail
  refine (HB.out.pr _).mono ?_
  rintro z w4 ⟨rfl, hb4⟩
  have HS4 := Lib.hid (HS3.out.grow hb4)
  clear HS3 hb4
  have hconv := Lib.run_convert_string_bytes (P := Tryd.prog) w4 9 33 5 x Tryd.underlying9 Tryd.underlying33 Tryd.underlying5
  obtain ⟨r, S15⟩ := bytes_st HS4.out x
  obtain ⟨W, hW⟩ : ∃ W, W = Lib.bytesWorld w4 5 x := ⟨_, rfl⟩
  rw [← hW] at hconv S15
  have HS15 := Lib.hid S15
  have hj : m < x.size := by omega
  have hjL : m < x.data.toList.length := by rw [sizeL]; exact hj
  have hcell : W.cell? ⟨w4.heap.size, m, none⟩ = some (.int .u8 (x.data.toList.getD m 0).toNat) := S15.cell 0 rfl (bytesO_at hjL)
  have hfr : W.frozen? ⟨w4.heap.size, m, none⟩ = false := bytesO_frozen (S15.blk_at 0 rfl) hjL
  obtain ⟨v0, hv0⟩ : ∃ v0, v0 = x.data.toList.getD m 0 := ⟨_, rfl⟩
  rw [← hv0] at hcell
  have HW := Lib.hid hW
  have hi1 : (0 : Int) ≤ (m : Int) := by omega
  obtain ⟨y, hy⟩ := turnBR v0 hby0 hby1
  clear S15 hv0 HS4 hW
  go_wp2_with fail
  go_region
  have hset : ((x.data.toList.map fun b => Value.int .u8 b.toNat).toArray ++ Array.replicate r (Value.int .u8 0)).setIfInBounds m (.int .u8 y.toNat) = _ := bytesO_set hjL y
  have S16 := (HS15.out.setCell (j := m) 0 rfl (.int .u8 y.toNat)).drew
  rw [hset] at S16
  have hlen : (x.data.toList.set m y).length = x.size := by rw [List.length_set, sizeL]
  obtain ⟨W2, hW2⟩ : ∃ W2, W2 = (W.setCell ⟨w4.heap.size, m, none⟩ (.int .u8 y.toNat)).drew := ⟨_, rfl⟩
  have S17 : St empH w none_ empH W2 [blk w4.heap.size (bytesO (x.data.toList.set m y) r)] := by
    rw [hW2]
    have := (S16.drop 1)
    unfold bytesO
    rw [List.length_set]
    exact this
  rw [← hW2]
  have hconv2 := bytesO_conv (cap := grownCap w4 x.size 0 5) (S17.blk_at 0 rfl)
  rw [hlen] at hconv2
  have HS4 := Lib.hid S17
  have HSZ : Hid ((bs (x.data.toList.set m y)).size ≤ 140737488355328) := Lib.hid (by rw [bs_size, hlen]; exact Nat.le_trans HXS.out (by decide))
  clear S16 S17 hset hW2 HS15 hlen hcell hfr hconv
  go_wp2_with fail
  refine (getReplyS _ _ (by first | assumption | exact HSZ.out) _).mono ?_
  intro e w5 hG
  obtain ⟨id', nn', a', b', c', d', code', e', f', g', h', fl, rfl⟩ := getReply_form hG
  have HG := Lib.hid hG
  have HS5 := Lib.hid ((HS4.out.grow (getReply_below hG)).alloc (.cells zReply 42))
  clear HS4 hG
  go_wp2_with (first
    | (refine wpList_store_st (cs := replyC id' nn' a' b' c' d' code' e' f' g' h') 0 HS5.out rfl rfl 42 (.tmp 21) (.tmp 74) rfl rfl rfl szReply rfl (oneReply _ _ _ _ _ _ _ _ _ _ _) ?_)
    | fail)
  intro w6 S6
  have HS6 := Lib.hid S6
  clear HS5 S6
  go_wp2_with fail
  refine (rgetReplyS _ _ _).mono ?_
  rintro z w7 ⟨o, hR, rfl, hb7⟩
  have hsame := same_reply hR HG.out
  simp only [Ending.returned.injEq, Value.tuple.injEq, Array.mk.injEq, List.cons.injEq, Value.agg.injEq, Value.bool.injEq, and_true] at hsame
  rw [← hsame.1, ← hsame.2]
  have HS7 := Lib.hid ((HS6.out.grow hb7).alloc (.cells zReply 45))
  clear hb7 HS6 hR hsame HG
  go_wp2_with (first
    | (refine wpList_store_st (cs := replyC id' nn' a' b' c' d' code' e' f' g' h') 0 HS7.out rfl rfl 45 (.tmp 23) (.tmp 80) rfl rfl rfl szRReply rfl (oneReply _ _ _ _ _ _ _ _ _ _ _) ?_)
    | fail)
  intro w8 S8
  obtain ⟨W, hW⟩ : ∃ W, W = w8 := ⟨_, rfl⟩
  have HS8 : Hid (St empH w none_ empH w8 [blk w7.heap.size (.cells (replyC id' nn' a' b' c' d' code' e' f' g' h') 45), blk w5.heap.size (.cells (replyC id' nn' a' b' c' d' code' e' f' g' h') 42)]) := S8.drop 2
  clear HS7 S8
  go_wp2_with fail
  have p0 : ∀ w', Below w8.heap.size w8 w' → w'.cell? ⟨w5.heap.size, 0, none⟩ = some (.int .u64 id') := fun w' h => (HS8.out.grow h).cell 1 rfl rfl
  have p1 : ∀ w', Below w8.heap.size w8 w' → w'.cell? ⟨w5.heap.size, 1, none⟩ = some (.int .u64 nn') := fun w' h => (HS8.out.grow h).cell 1 rfl rfl
  have p2 : ∀ w', Below w8.heap.size w8 w' → w'.cell? ⟨w5.heap.size, 2, none⟩ = some (.int .u64 a') := fun w' h => (HS8.out.grow h).cell 1 rfl rfl
  have p3 : ∀ w', Below w8.heap.size w8 w' → w'.cell? ⟨w5.heap.size, 3, none⟩ = some (.int .u64 b') := fun w' h => (HS8.out.grow h).cell 1 rfl rfl
  have p4 : ∀ w', Below w8.heap.size w8 w' → w'.cell? ⟨w5.heap.size, 4, none⟩ = some (.int .u64 c') := fun w' h => (HS8.out.grow h).cell 1 rfl rfl
  have p5 : ∀ w', Below w8.heap.size w8 w' → w'.cell? ⟨w5.heap.size, 5, none⟩ = some (.int .u64 d') := fun w' h => (HS8.out.grow h).cell 1 rfl rfl
  have p6 : ∀ w', Below w8.heap.size w8 w' → w'.cell? ⟨w5.heap.size, 6, none⟩ = some (.string code') := fun w' h => (HS8.out.grow h).cell 1 rfl rfl
  have p7 : ∀ w', Below w8.heap.size w8 w' → w'.cell? ⟨w5.heap.size, 7, none⟩ = some (.int .u64 e') := fun w' h => (HS8.out.grow h).cell 1 rfl rfl
  have p8 : ∀ w', Below w8.heap.size w8 w' → w'.cell? ⟨w5.heap.size, 8, none⟩ = some (.int .u64 f') := fun w' h => (HS8.out.grow h).cell 1 rfl rfl
  have p9 : ∀ w', Below w8.heap.size w8 w' → w'.cell? ⟨w5.heap.size, 9, none⟩ = some (.int .u64 g') := fun w' h => (HS8.out.grow h).cell 1 rfl rfl
  have p10 : ∀ w', Below w8.heap.size w8 w' → w'.cell? ⟨w5.heap.size, 10, none⟩ = some (.int .u64 h') := fun w' h => (HS8.out.grow h).cell 1 rfl rfl
  have q0 : ∀ w', Below w8.heap.size w8 w' → w'.cell? ⟨w7.heap.size, 0, none⟩ = some (.int .u64 id') := fun w' h => (HS8.out.grow h).cell 0 rfl rfl
  have q1 : ∀ w', Below w8.heap.size w8 w' → w'.cell? ⟨w7.heap.size, 1, none⟩ = some (.int .u64 nn') := fun w' h => (HS8.out.grow h).cell 0 rfl rfl
  have q2 : ∀ w', Below w8.heap.size w8 w' → w'.cell? ⟨w7.heap.size, 2, none⟩ = some (.int .u64 a') := fun w' h => (HS8.out.grow h).cell 0 rfl rfl
  have q3 : ∀ w', Below w8.heap.size w8 w' → w'.cell? ⟨w7.heap.size, 3, none⟩ = some (.int .u64 b') := fun w' h => (HS8.out.grow h).cell 0 rfl rfl
  have q4 : ∀ w', Below w8.heap.size w8 w' → w'.cell? ⟨w7.heap.size, 4, none⟩ = some (.int .u64 c') := fun w' h => (HS8.out.grow h).cell 0 rfl rfl
  have q5 : ∀ w', Below w8.heap.size w8 w' → w'.cell? ⟨w7.heap.size, 5, none⟩ = some (.int .u64 d') := fun w' h => (HS8.out.grow h).cell 0 rfl rfl
  have q6 : ∀ w', Below w8.heap.size w8 w' → w'.cell? ⟨w7.heap.size, 6, none⟩ = some (.string code') := fun w' h => (HS8.out.grow h).cell 0 rfl rfl
  have q7 : ∀ w', Below w8.heap.size w8 w' → w'.cell? ⟨w7.heap.size, 7, none⟩ = some (.int .u64 e') := fun w' h => (HS8.out.grow h).cell 0 rfl rfl
  have q8 : ∀ w', Below w8.heap.size w8 w' → w'.cell? ⟨w7.heap.size, 8, none⟩ = some (.int .u64 f') := fun w' h => (HS8.out.grow h).cell 0 rfl rfl
  have q9 : ∀ w', Below w8.heap.size w8 w' → w'.cell? ⟨w7.heap.size, 9, none⟩ = some (.int .u64 g') := fun w' h => (HS8.out.grow h).cell 0 rfl rfl
  have q10 : ∀ w', Below w8.heap.size w8 w' → w'.cell? ⟨w7.heap.size, 10, none⟩ = some (.int .u64 h') := fun w' h => (HS8.out.grow h).cell 0 rfl rfl
  have heq : ∀ w, (binOp .eql 45 (.agg #[.int .u64 id', .int .u64 nn', .int .u64 a', .int .u64 b', .int .u64 c', .int .u64 d', .string code', .int .u64 e', .int .u64 f', .int .u64 g', .int .u64 h']) (.agg #[.int .u64 id', .int .u64 nn', .int .u64 a', .int .u64 b', .int .u64 c', .int .u64 d', .string code', .int .u64 e', .int .u64 f', .int .u64 g', .int .u64 h'])).run Tryd.prog w = .ok (.bool true) w := fun w => eqRReplyB id' nn' a' b' c' d' code' e' f' g' h' w
  have heg : ∀ x y w, (eqGuard .eql 45 x y (.agg #[.int .u64 id', .int .u64 nn', .int .u64 a', .int .u64 b', .int .u64 c', .int .u64 d', .string code', .int .u64 e', .int .u64 f', .int .u64 g', .int .u64 h']) (.agg #[.int .u64 id', .int .u64 nn', .int .u64 a', .int .u64 b', .int .u64 c', .int .u64 d', .string code', .int .u64 e', .int .u64 f', .int .u64 g', .int .u64 h'])).run Tryd.prog w = .ok () w := fun x y w => eqgRReply x y _ _ w
  go_region_held3 (fun w' => Below w8.heap.size w8 w') (repeat (first | assumption | exact Below.refl _ _ | apply Below.drew | (refine Below.alloc ?_ (by first | exact Nat.le_refl _ | exact Below.size (by assumption) | simp) _))) (first
    | (go_at_call 19; refine (retFrom (W := w8) ?_ (refReplyE id' nn' a' b' c' d' code' e' f' g' h' _)).mono ?_; (first | assumption | exact (Below.refl _ _).drew); rintro z w9 ⟨rfl, hb9⟩))
  have HB9 := Lib.hid ((HS8.out.grow hb9).below)
  go_wp2_with fail
  exact bodyPost_ret (v := .bool true) (by simp [results, Tryd.results4, go_sem]) rfl ⟨rfl, HB9.out⟩
theorem rput_size {kind id nn a b c d : Int} {code : ByteArray} {e f g h : Int} : (putReplyR kind id nn a b c d code e f g h).1.size ≤ 1000000 := by
  obtain ⟨t, ok, ht⟩ : ∃ t ok, putReplyR kind id nn a b c d code e f g h = (t, ok) := ⟨_, _, rfl⟩
  rw [ht]
  cases ok with
  | false =>
    unfold putReplyR at ht
    have : t = ⟨#[]⟩ := by
      split at ht
      · cases ht; rfl
      · split at ht
        · split at ht
          · cases ht
          · cases ht; rfl
        · split at ht
          · split at ht
            · cases ht
            · cases ht; rfl
          · cases ht; rfl
    rw [this]
    exact Nat.zero_le _
  | true =>
    rcases putReply_form ht with ⟨_, hl, _, _, _, _, rfl⟩ | ⟨_, rfl⟩
    · have h1 := one_len (id := id) (n := nn) (a := a) (b := b) (c := c) (d := d) hl
      have h2 := sizeL (replyB [numS id, numS nn, wordS a b c d, code])
      rw [replyB_list, List.length_append, sum4] at h2
      show (replyB [numS id, numS nn, wordS a b c d, code]).size ≤ 1000000
      omega
    · have h1 := two_len (id := id) (a := e) (b := f) (c := g) (d := h)
      have h2 := sizeL (replyB [numS id, wordS e f g h])
      rw [replyB_list, List.length_append, sum4] at h2
      show (replyB [numS id, wordS e f g h]).size ≤ 1000000
      omega
theorem replies_all (kind other id nn a b c d : Int) (code : ByteArray) (e f g h : Int) (s : ByteArray) (hs : s.size ≤ 140737488355328) (own : Bool) (atI byI : Int) (hid : W64 id) (hnn : W64 nn) (ha : W64 a) (hb : W64 b) (hc : W64 c) (hd : W64 d) (he : W64 e) (hf : W64 f) (hg : W64 g) (hh : W64 h) (hat : -9223372036854775808 ≤ atI ∧ atI < 9223372036854775808) (hby : 0 ≤ byI ∧ byI < 256) (w : World) :
    Calls Tryd.prog 4 #[.int .i64 kind, .int .i64 other, .agg (replyC id nn a b c d code e f g h), .string s, .bool own, .int .i64 atI, .int .u8 byI] w (RetV (.bool true) w) := by
  have HC : RepCalls kind id nn a b c d code e f g h (putReplyR kind id nn a b c d code e f g h).1 (putReplyR kind id nn a b c d code e f g h).2 := ⟨putReply_all kind id nn a b c d code e f g h, rputReply_all kind id nn a b c d code e f g h hid hnn ha hb hc hd he hf hg hh⟩
  cases own with
  | false => exact replies_off kind other id nn a b c d code e f g h s hs atI byI w HC
  | true =>
    by_cases hx : (putReplyR kind id nn a b c d code e f g h).1 = ⟨#[]⟩
    · exact replies_none kind other id nn a b c d code e f g h s hs atI byI w HC hx
    · by_cases hn : atI < 0
      · exact replies_neg kind other id nn a b c d code e f g h s atI byI w HC hx rput_size hn hat.1 hby.1 hby.2
      · exact replies_on kind other id nn a b c d code e f g h s atI byI w HC hx rput_size (by omega) hat.2 hby.1 hby.2
end Go.Proofs.YtfphlkkhpccpnaaDoor
