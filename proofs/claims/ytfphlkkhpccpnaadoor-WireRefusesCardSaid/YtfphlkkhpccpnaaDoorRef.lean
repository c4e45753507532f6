/-
  WireRefuses.
-/
import Derived.Test.YtfphlkkhpccpnaaDoorExam
import Derived.Test.YtfphlkkhpccpnaaDoorMake
namespace Go.Proofs.YtfphlkkhpccpnaaDoor
open Go.RowKit Go.Proofs K

def wC (a b c d : Int) : Array Value := #[.int .u64 a, .int .u64 b, .int .u64 c, .int .u64 d]
theorem eqWord2 (a b c d a' b' c' d' : Int) (n : Nat) (w : World) : (Op.equalIn (n + 2) 24 (.agg (wC a b c d)) (.agg (wC a' b' c' d'))).run Tryd.prog w = .ok (decide (a = a' ∧ b = b' ∧ c = c' ∧ d = d')) w := by
  have hf : Tryd.prog.underlying 24 = some (.struct (Tryd.prog.fieldsOf 24)) := by kernel_rfl
  have hp : Tryd.prog.stoodInHeld 24 = false := by kernel_rfl
  rw [run_equalIn_struct _ _ _ _ _ hf hp]
  by_cases ha : a = a'
  · by_cases hb : b = b'
    · by_cases hc : c = c'
      · by_cases hd : d = d'
        · simp [wC, Program.fieldsOf, Tryd.underlying24, Op.eqFields, part, go_sem, ha, hb, hc, hd]
        · have e : (d == d') = false := beq_eq_false_iff_ne.2 hd
          simp [wC, Program.fieldsOf, Tryd.underlying24, Op.eqFields, part, go_sem, ha, hb, hc, hd]
      · simp [wC, Program.fieldsOf, Tryd.underlying24, Op.eqFields, part, go_sem, ha, hb, hc]
    · simp [wC, Program.fieldsOf, Tryd.underlying24, Op.eqFields, part, go_sem, ha, hb]
  · simp [wC, Program.fieldsOf, Tryd.underlying24, Op.eqFields, part, go_sem, ha]
theorem eqWordB (a b c d a' b' c' d' : Int) (w : World) : (binOp .eql 24 (.agg (wC a b c d)) (.agg (wC a' b' c' d'))).run Tryd.prog w = .ok (.bool (decide (a = a' ∧ b = b' ∧ c = c' ∧ d = d'))) w := by
  have h := eqWord2 a b c d a' b' c' d' 9998 w
  simp only [binOp, Op.equal, Op.maxDepth, Sem.run_bind]
  rw [h]
  rfl
theorem eqgWord (x y : Operand) (u v : Array Value) (w : World) : (eqGuard .eql 24 x y (.agg u) (.agg v)).run Tryd.prog w = .ok () w := by
  have h : Tryd.prog.eqGuardType Tryd.prog.depth 24 = false := by kernel_rfl
  simp [eqGuard, Sem.run_bind, run_program, h]
theorem info_u8 : ∃ i, Tryd.prog.info? 5 = some i ∧ i.zero = some (.int .u8 0) ∧ i.size = 1 ∧ i.bytes = 1 := by
  have h : ((Tryd.prog.info? 5).bind fun i => i.zero) = some (.int .u8 0) := by kernel_rfl
  have h2 : (Tryd.prog.info? 5).map (·.size) = some 1 := by kernel_rfl
  have h3 : (Tryd.prog.info? 5).map (·.bytes) = some 1 := by kernel_rfl
  cases hi : Tryd.prog.info? 5 with
  | none => rw [hi] at h2; cases h2
  | some i =>
    rw [hi] at h h2 h3
    exact ⟨i, rfl, h, by simpa using h2, by simpa using h3⟩
def longS : ByteArray := strOfNums (List.replicate 24577 0)
theorem convLong {H0 H : Hs} {w0 w : World} {X : Nat → Prop} {ps : List Hp} {g : Nat} (S : St H0 w0 X H w (own 5 1 (.slice (some ⟨g, 0, none⟩) 24577 24577) 24577 (madeCells (Value.int .u8 0).cells (24577 * 1)).toList :: ps)) :
    (convert 33 9 (.slice (some ⟨g, 0, none⟩) 24577 24577)).run Tryd.prog w = .ok (.string longS) w := by
  refine run_convert_bytes_arg w 33 5 Tryd.underlying33 Tryd.underlying5 g 0 24577 24577 (List.replicate 24577 0) List.length_replicate (fun i hi => ?_) 9 Tryd.underlying9
  rw [Nat.zero_add, S.ownCell 0 rfl i (by omega), show (Value.int .u8 0).cells = #[Value.int .u8 0] from rfl, toList_madeCells_one, List.getElem?_replicate, if_pos (by omega), List.getD_eq_getElem?_getD, List.getElem?_replicate, if_pos hi]
  rfl
theorem longS_size : longS.size = 24577 := by rw [longS, strOfNums_size, List.length_replicate]
set_option maxRecDepth 100000 in
set_option maxHeartbeats 4000000 in
theorem refuses_size (addr : ByteArray) (kind a b c d : Int) (h : addr.size ≠ 20) (w : World) : Calls Tryd.prog 6 #[.string addr, .int .i64 kind, .agg #[.int .u64 a, .int .u64 b, .int .u64 c, .int .u64 d]] w (RetV (.bool true) w) := by
  have e1 : ((addr.size : Int) == 20) = false := by rw [beq_eq_false_iff_ne]; omega
  have HEQ : Hid (∀ w, (binOp .eql 24 (.agg (wC a b c d)) (.agg (wC 0 0 0 0))).run Tryd.prog w = .ok (.bool (decide (a = 0 ∧ b = 0 ∧ c = 0 ∧ d = 0))) w) := Lib.hid fun w => eqWordB _ _ _ _ _ _ _ _ w
  have HPUT : Hid (∀ w, Calls Tryd.prog 12 #[.agg (askC 0 addr a b c d kind)] w (RetV (.tuple #[.string ⟨#[]⟩, .bool false]) w)) := Lib.hid fun w => by
    have h0 := putAsk_all 0 addr a b c d kind w
    rw [putAskR_no (fun h' => h h'.1)] at h0
    exact h0
  clear h
  have HS := Lib.hid ((St.start (ag_emp w)).alloc (.cells #[.int .u64 a, .int .u64 b, .int .u64 c, .int .u64 d] 24))
  go_enter Tryd.func6, Tryd.ntmps6
  go_wp2_with fail
  refine (examples_any _).mono ?_
  rintro e w1 ⟨rfl, hb1⟩
  have HS1 := Lib.hid (HS.out.grow hb1)
  clear HS hb1
  go_wp2_with (first
    | (refine wpList_load_st (cs := #[.int .u64 a, .int .u64 b, .int .u64 c, .int .u64 d]) 0 HS1.out rfl rfl 24 (.tmp 5) rfl rfl _ Tryd.underlying24 rfl szWord ?_)
    | fail)
  refine (HPUT.out _).mono ?_
  rintro e w2 ⟨rfl, hb2⟩
  have HS2 := Lib.hid (HS1.out.grow hb2)
  clear HS1 hb2
  go_wp2_with (first
    | (refine wpList_load_gd (cs := #[.int .u64 a, .int .u64 b, .int .u64 c, .int .u64 d]) 0 HS2.out rfl 24 (.tmp 5) rfl rfl _ Tryd.underlying24 rfl szWord rfl ?_)
    | (refine wpList_bin .eql 24 24 (.tmp 38) (.tmp 39) rfl rfl (.bool (decide (a = 0 ∧ b = 0 ∧ c = 0 ∧ d = 0))) (eqgWord _ _ _ _ _) (HEQ.out _) ?_)
    | fail)
  refine (putReply_value 1 0 1 0 0 0 0 ⟨#[]⟩ 0 0 0 1 (by decide) rfl (by decide) _).mono ?_
  rintro e w3 ⟨rfl, hb3⟩
  have HS3 := Lib.hid (HS2.out.grow hb3)
  clear HS2 hb3
  go_wp2_with fail
  refine (putReply_kind 3 0 0 0 0 0 0 ⟨#[]⟩ 0 0 0 0 (by decide) (by decide) (by decide) _).mono ?_
  rintro e w4 ⟨rfl, hb4⟩
  have HS4 := Lib.hid (HS3.out.grow hb4)
  clear HS3 hb4
  obtain ⟨i0, hi, hz0, hz1, hz2⟩ := info_u8
  go_wp2_with (first
    | (refine wpList_makeFull_st (size := 1) (c := 24577) HS4.out rfl 5 33 (.const (.int .i64 24577)) (.const (.int .i64 24577)) rfl i0 (.int .u8 0) 1 rfl rfl Tryd.underlying33 hi hz0 hz1 hz2 (by decide) (by decide) ?_)
    | fail)
  intro w5 S5
  have hconv := convLong S5
  have HS5 := Lib.hid S5
  clear HS4 S5 hi hz0 hz1 hz2
  go_wp2_with fail
  refine (putReply_long 1 0 0 0 0 0 0 longS 0 0 0 0 (by rw [longS_size]; decide) _).mono ?_
  rintro e w6 ⟨rfl, hb6⟩
  have HS6 := Lib.hid (HS5.out.grow hb6)
  clear HS5 hb6 hconv
  go_wp2_with fail
  exact bodyPost_ret (v := .bool true) (by simp [results, Tryd.results6, go_sem]) rfl ⟨rfl, HS6.out.below⟩
set_option maxRecDepth 100000 in
set_option maxHeartbeats 4000000 in
theorem refuses_two (addr : ByteArray) (kind a b c d : Int) (h : addr.size = 20) (h2 : kind = 2) (w : World) : Calls Tryd.prog 6 #[.string addr, .int .i64 kind, .agg #[.int .u64 a, .int .u64 b, .int .u64 c, .int .u64 d]] w (RetV (.bool true) w) := by
  have e1 : ((addr.size : Int) == 20) = true := by rw [beq_iff_eq]; omega
  have e2 : (kind == 2) = true := beq_iff_eq.2 h2
  have HEQ : Hid (∀ w, (binOp .eql 24 (.agg (wC a b c d)) (.agg (wC 0 0 0 0))).run Tryd.prog w = .ok (.bool (decide (a = 0 ∧ b = 0 ∧ c = 0 ∧ d = 0))) w) := Lib.hid fun w => eqWordB _ _ _ _ _ _ _ _ w
  obtain ⟨sy, hsy⟩ : ∃ sy : ByteArray, sy = putL (askTs 0 addr a b c d kind) := ⟨_, rfl⟩
  have HPUT : Hid (∀ w, Calls Tryd.prog 12 #[.agg (askC 0 addr a b c d kind)] w (RetV (.tuple #[.string sy, .bool true]) w)) := Lib.hid fun w => by
    have h0 := putAsk_all 0 addr a b c d kind w
    rw [putAskR_ok (⟨h, .inl h2⟩), ← hsy] at h0
    exact h0
  clear h h2 hsy
  have HS := Lib.hid ((St.start (ag_emp w)).alloc (.cells #[.int .u64 a, .int .u64 b, .int .u64 c, .int .u64 d] 24))
  go_enter Tryd.func6, Tryd.ntmps6
  go_wp2_with fail
  refine (examples_any _).mono ?_
  rintro e w1 ⟨rfl, hb1⟩
  have HS1 := Lib.hid (HS.out.grow hb1)
  clear HS hb1
  go_wp2_with (first
    | (refine wpList_load_st (cs := #[.int .u64 a, .int .u64 b, .int .u64 c, .int .u64 d]) 0 HS1.out rfl rfl 24 (.tmp 5) rfl rfl _ Tryd.underlying24 rfl szWord ?_)
    | fail)
  refine (HPUT.out _).mono ?_
  rintro e w2 ⟨rfl, hb2⟩
  have HS2 := Lib.hid (HS1.out.grow hb2)
  clear HS1 hb2
  go_wp2_with (first
    | (refine wpList_load_gd (cs := #[.int .u64 a, .int .u64 b, .int .u64 c, .int .u64 d]) 0 HS2.out rfl 24 (.tmp 5) rfl rfl _ Tryd.underlying24 rfl szWord rfl ?_)
    | (refine wpList_bin .eql 24 24 (.tmp 38) (.tmp 39) rfl rfl (.bool (decide (a = 0 ∧ b = 0 ∧ c = 0 ∧ d = 0))) (eqgWord _ _ _ _ _) (HEQ.out _) ?_)
    | fail)
  refine (putReply_value 1 0 1 0 0 0 0 ⟨#[]⟩ 0 0 0 1 (by decide) rfl (by decide) _).mono ?_
  rintro e w3 ⟨rfl, hb3⟩
  have HS3 := Lib.hid (HS2.out.grow hb3)
  clear HS2 hb3
  go_wp2_with fail
  refine (putReply_kind 3 0 0 0 0 0 0 ⟨#[]⟩ 0 0 0 0 (by decide) (by decide) (by decide) _).mono ?_
  rintro e w4 ⟨rfl, hb4⟩
  have HS4 := Lib.hid (HS3.out.grow hb4)
  clear HS3 hb4
  obtain ⟨i0, hi, hz0, hz1, hz2⟩ := info_u8
  go_wp2_with (first
    | (refine wpList_makeFull_st (size := 1) (c := 24577) HS4.out rfl 5 33 (.const (.int .i64 24577)) (.const (.int .i64 24577)) rfl i0 (.int .u8 0) 1 rfl rfl Tryd.underlying33 hi hz0 hz1 hz2 (by decide) (by decide) ?_)
    | fail)
  intro w5 S5
  have hconv := convLong S5
  have HS5 := Lib.hid S5
  clear HS4 S5 hi hz0 hz1 hz2
  go_wp2_with fail
  refine (putReply_long 1 0 0 0 0 0 0 longS 0 0 0 0 (by rw [longS_size]; decide) _).mono ?_
  rintro e w6 ⟨rfl, hb6⟩
  have HS6 := Lib.hid (HS5.out.grow hb6)
  clear HS5 hb6 hconv
  go_wp2_with fail
  exact bodyPost_ret (v := .bool true) (by simp [results, Tryd.results6, go_sem]) rfl ⟨rfl, HS6.out.below⟩
set_option maxRecDepth 100000 in
set_option maxHeartbeats 4000000 in
theorem refuses_one (addr : ByteArray) (kind a b c d : Int) (h : addr.size = 20) (h1 : kind = 1) (hz : a = 0 ∧ b = 0 ∧ c = 0 ∧ d = 0) (w : World) : Calls Tryd.prog 6 #[.string addr, .int .i64 kind, .agg #[.int .u64 a, .int .u64 b, .int .u64 c, .int .u64 d]] w (RetV (.bool true) w) := by
  have e1 : ((addr.size : Int) == 20) = true := by rw [beq_iff_eq]; omega
  have e2 : (kind == 2) = false := by rw [h1]; rfl
  have e3 : (kind == 1) = true := beq_iff_eq.2 h1
  have HEQ : Hid (∀ w, (binOp .eql 24 (.agg (wC a b c d)) (.agg (wC 0 0 0 0))).run Tryd.prog w = .ok (.bool true) w) := Lib.hid fun w => by
    rw [eqWordB, decide_eq_true hz]
  obtain ⟨sy, hsy⟩ : ∃ sy : ByteArray, sy = putL (askTs 0 addr a b c d kind) := ⟨_, rfl⟩
  have HPUT : Hid (∀ w, Calls Tryd.prog 12 #[.agg (askC 0 addr a b c d kind)] w (RetV (.tuple #[.string sy, .bool true]) w)) := Lib.hid fun w => by
    have h0 := putAsk_all 0 addr a b c d kind w
    rw [putAskR_ok (⟨h, .inr ⟨h1, hz⟩⟩), ← hsy] at h0
    exact h0
  clear h h1 hz hsy
  have HS := Lib.hid ((St.start (ag_emp w)).alloc (.cells #[.int .u64 a, .int .u64 b, .int .u64 c, .int .u64 d] 24))
  go_enter Tryd.func6, Tryd.ntmps6
  go_wp2_with fail
  refine (examples_any _).mono ?_
  rintro e w1 ⟨rfl, hb1⟩
  have HS1 := Lib.hid (HS.out.grow hb1)
  clear HS hb1
  go_wp2_with (first
    | (refine wpList_load_st (cs := #[.int .u64 a, .int .u64 b, .int .u64 c, .int .u64 d]) 0 HS1.out rfl rfl 24 (.tmp 5) rfl rfl _ Tryd.underlying24 rfl szWord ?_)
    | fail)
  refine (HPUT.out _).mono ?_
  rintro e w2 ⟨rfl, hb2⟩
  have HS2 := Lib.hid (HS1.out.grow hb2)
  clear HS1 hb2
  go_wp2_with (first
    | (refine wpList_load_gd (cs := #[.int .u64 a, .int .u64 b, .int .u64 c, .int .u64 d]) 0 HS2.out rfl 24 (.tmp 5) rfl rfl _ Tryd.underlying24 rfl szWord rfl ?_)
    | (refine wpList_bin .eql 24 24 (.tmp 38) (.tmp 39) rfl rfl (.bool true) (eqgWord _ _ _ _ _) (HEQ.out _) ?_)
    | fail)
  refine (putReply_value 1 0 1 0 0 0 0 ⟨#[]⟩ 0 0 0 1 (by decide) rfl (by decide) _).mono ?_
  rintro e w3 ⟨rfl, hb3⟩
  have HS3 := Lib.hid (HS2.out.grow hb3)
  clear HS2 hb3
  go_wp2_with fail
  refine (putReply_kind 3 0 0 0 0 0 0 ⟨#[]⟩ 0 0 0 0 (by decide) (by decide) (by decide) _).mono ?_
  rintro e w4 ⟨rfl, hb4⟩
  have HS4 := Lib.hid (HS3.out.grow hb4)
  clear HS3 hb4
  obtain ⟨i0, hi, hz0, hz1, hz2⟩ := info_u8
  go_wp2_with (first
    | (refine wpList_makeFull_st (size := 1) (c := 24577) HS4.out rfl 5 33 (.const (.int .i64 24577)) (.const (.int .i64 24577)) rfl i0 (.int .u8 0) 1 rfl rfl Tryd.underlying33 hi hz0 hz1 hz2 (by decide) (by decide) ?_)
    | fail)
  intro w5 S5
  have hconv := convLong S5
  have HS5 := Lib.hid S5
  clear HS4 S5 hi hz0 hz1 hz2
  go_wp2_with fail
  refine (putReply_long 1 0 0 0 0 0 0 longS 0 0 0 0 (by rw [longS_size]; decide) _).mono ?_
  rintro e w6 ⟨rfl, hb6⟩
  have HS6 := Lib.hid (HS5.out.grow hb6)
  clear HS5 hb6 hconv
  go_wp2_with fail
  exact bodyPost_ret (v := .bool true) (by simp [results, Tryd.results6, go_sem]) rfl ⟨rfl, HS6.out.below⟩
set_option maxRecDepth 100000 in
set_option maxHeartbeats 4000000 in
theorem refuses_slot (addr : ByteArray) (kind a b c d : Int) (h : addr.size = 20) (h1 : kind = 1) (hz : ¬ (a = 0 ∧ b = 0 ∧ c = 0 ∧ d = 0)) (w : World) : Calls Tryd.prog 6 #[.string addr, .int .i64 kind, .agg #[.int .u64 a, .int .u64 b, .int .u64 c, .int .u64 d]] w (RetV (.bool true) w) := by
  have e1 : ((addr.size : Int) == 20) = true := by rw [beq_iff_eq]; omega
  have e2 : (kind == 2) = false := by rw [h1]; rfl
  have e3 : (kind == 1) = true := beq_iff_eq.2 h1
  have HEQ : Hid (∀ w, (binOp .eql 24 (.agg (wC a b c d)) (.agg (wC 0 0 0 0))).run Tryd.prog w = .ok (.bool false) w) := Lib.hid fun w => by
    rw [eqWordB, decide_eq_false hz]
  have HPUT : Hid (∀ w, Calls Tryd.prog 12 #[.agg (askC 0 addr a b c d kind)] w (RetV (.tuple #[.string ⟨#[]⟩, .bool false]) w)) := Lib.hid fun w => by
    have h0 := putAsk_all 0 addr a b c d kind w
    rw [putAskR_no (fun h' => h'.2.elim (by omega) fun h3 => hz h3.2)] at h0
    exact h0
  clear h h1 hz
  have HS := Lib.hid ((St.start (ag_emp w)).alloc (.cells #[.int .u64 a, .int .u64 b, .int .u64 c, .int .u64 d] 24))
  go_enter Tryd.func6, Tryd.ntmps6
  go_wp2_with fail
  refine (examples_any _).mono ?_
  rintro e w1 ⟨rfl, hb1⟩
  have HS1 := Lib.hid (HS.out.grow hb1)
  clear HS hb1
  go_wp2_with (first
    | (refine wpList_load_st (cs := #[.int .u64 a, .int .u64 b, .int .u64 c, .int .u64 d]) 0 HS1.out rfl rfl 24 (.tmp 5) rfl rfl _ Tryd.underlying24 rfl szWord ?_)
    | fail)
  refine (HPUT.out _).mono ?_
  rintro e w2 ⟨rfl, hb2⟩
  have HS2 := Lib.hid (HS1.out.grow hb2)
  clear HS1 hb2
  go_wp2_with (first
    | (refine wpList_load_gd (cs := #[.int .u64 a, .int .u64 b, .int .u64 c, .int .u64 d]) 0 HS2.out rfl 24 (.tmp 5) rfl rfl _ Tryd.underlying24 rfl szWord rfl ?_)
    | (refine wpList_bin .eql 24 24 (.tmp 38) (.tmp 39) rfl rfl (.bool false) (eqgWord _ _ _ _ _) (HEQ.out _) ?_)
    | fail)
  refine (putReply_value 1 0 1 0 0 0 0 ⟨#[]⟩ 0 0 0 1 (by decide) rfl (by decide) _).mono ?_
  rintro e w3 ⟨rfl, hb3⟩
  have HS3 := Lib.hid (HS2.out.grow hb3)
  clear HS2 hb3
  go_wp2_with fail
  refine (putReply_kind 3 0 0 0 0 0 0 ⟨#[]⟩ 0 0 0 0 (by decide) (by decide) (by decide) _).mono ?_
  rintro e w4 ⟨rfl, hb4⟩
  have HS4 := Lib.hid (HS3.out.grow hb4)
  clear HS3 hb4
  obtain ⟨i0, hi, hz0, hz1, hz2⟩ := info_u8
  go_wp2_with (first
    | (refine wpList_makeFull_st (size := 1) (c := 24577) HS4.out rfl 5 33 (.const (.int .i64 24577)) (.const (.int .i64 24577)) rfl i0 (.int .u8 0) 1 rfl rfl Tryd.underlying33 hi hz0 hz1 hz2 (by decide) (by decide) ?_)
    | fail)
  intro w5 S5
  have hconv := convLong S5
  have HS5 := Lib.hid S5
  clear HS4 S5 hi hz0 hz1 hz2
  go_wp2_with fail
  refine (putReply_long 1 0 0 0 0 0 0 longS 0 0 0 0 (by rw [longS_size]; decide) _).mono ?_
  rintro e w6 ⟨rfl, hb6⟩
  have HS6 := Lib.hid (HS5.out.grow hb6)
  clear HS5 hb6 hconv
  go_wp2_with fail
  exact bodyPost_ret (v := .bool true) (by simp [results, Tryd.results6, go_sem]) rfl ⟨rfl, HS6.out.below⟩
set_option maxRecDepth 100000 in
set_option maxHeartbeats 4000000 in
theorem refuses_kind (addr : ByteArray) (kind a b c d : Int) (h : addr.size = 20) (h1 : kind ≠ 1) (h2 : kind ≠ 2) (w : World) : Calls Tryd.prog 6 #[.string addr, .int .i64 kind, .agg #[.int .u64 a, .int .u64 b, .int .u64 c, .int .u64 d]] w (RetV (.bool true) w) := by
  have e1 : ((addr.size : Int) == 20) = true := by rw [beq_iff_eq]; omega
  have e2 : (kind == 2) = false := beq_eq_false_iff_ne.2 h2
  have e3 : (kind == 1) = false := beq_eq_false_iff_ne.2 h1
  have HEQ : Hid (∀ w, (binOp .eql 24 (.agg (wC a b c d)) (.agg (wC 0 0 0 0))).run Tryd.prog w = .ok (.bool (decide (a = 0 ∧ b = 0 ∧ c = 0 ∧ d = 0))) w) := Lib.hid fun w => eqWordB _ _ _ _ _ _ _ _ w
  have HPUT : Hid (∀ w, Calls Tryd.prog 12 #[.agg (askC 0 addr a b c d kind)] w (RetV (.tuple #[.string ⟨#[]⟩, .bool false]) w)) := Lib.hid fun w => by
    have h0 := putAsk_all 0 addr a b c d kind w
    rw [putAskR_no (fun h' => h'.2.elim h2 fun h3 => h1 h3.1)] at h0
    exact h0
  clear h h1 h2
  have HS := Lib.hid ((St.start (ag_emp w)).alloc (.cells #[.int .u64 a, .int .u64 b, .int .u64 c, .int .u64 d] 24))
  go_enter Tryd.func6, Tryd.ntmps6
  go_wp2_with fail
  refine (examples_any _).mono ?_
  rintro e w1 ⟨rfl, hb1⟩
  have HS1 := Lib.hid (HS.out.grow hb1)
  clear HS hb1
  go_wp2_with (first
    | (refine wpList_load_st (cs := #[.int .u64 a, .int .u64 b, .int .u64 c, .int .u64 d]) 0 HS1.out rfl rfl 24 (.tmp 5) rfl rfl _ Tryd.underlying24 rfl szWord ?_)
    | fail)
  refine (HPUT.out _).mono ?_
  rintro e w2 ⟨rfl, hb2⟩
  have HS2 := Lib.hid (HS1.out.grow hb2)
  clear HS1 hb2
  go_wp2_with (first
    | (refine wpList_load_gd (cs := #[.int .u64 a, .int .u64 b, .int .u64 c, .int .u64 d]) 0 HS2.out rfl 24 (.tmp 5) rfl rfl _ Tryd.underlying24 rfl szWord rfl ?_)
    | (refine wpList_bin .eql 24 24 (.tmp 38) (.tmp 39) rfl rfl (.bool (decide (a = 0 ∧ b = 0 ∧ c = 0 ∧ d = 0))) (eqgWord _ _ _ _ _) (HEQ.out _) ?_)
    | fail)
  refine (putReply_value 1 0 1 0 0 0 0 ⟨#[]⟩ 0 0 0 1 (by decide) rfl (by decide) _).mono ?_
  rintro e w3 ⟨rfl, hb3⟩
  have HS3 := Lib.hid (HS2.out.grow hb3)
  clear HS2 hb3
  go_wp2_with fail
  refine (putReply_kind 3 0 0 0 0 0 0 ⟨#[]⟩ 0 0 0 0 (by decide) (by decide) (by decide) _).mono ?_
  rintro e w4 ⟨rfl, hb4⟩
  have HS4 := Lib.hid (HS3.out.grow hb4)
  clear HS3 hb4
  obtain ⟨i0, hi, hz0, hz1, hz2⟩ := info_u8
  go_wp2_with (first
    | (refine wpList_makeFull_st (size := 1) (c := 24577) HS4.out rfl 5 33 (.const (.int .i64 24577)) (.const (.int .i64 24577)) rfl i0 (.int .u8 0) 1 rfl rfl Tryd.underlying33 hi hz0 hz1 hz2 (by decide) (by decide) ?_)
    | fail)
  intro w5 S5
  have hconv := convLong S5
  have HS5 := Lib.hid S5
  clear HS4 S5 hi hz0 hz1 hz2
  go_wp2_with fail
  refine (putReply_long 1 0 0 0 0 0 0 longS 0 0 0 0 (by rw [longS_size]; decide) _).mono ?_
  rintro e w6 ⟨rfl, hb6⟩
  have HS6 := Lib.hid (HS5.out.grow hb6)
  clear HS5 hb6 hconv
  go_wp2_with fail
  exact bodyPost_ret (v := .bool true) (by simp [results, Tryd.results6, go_sem]) rfl ⟨rfl, HS6.out.below⟩
theorem refuses_any (addr : ByteArray) (kind a b c d : Int) (w : World) : Calls Tryd.prog 6 #[.string addr, .int .i64 kind, .agg (wC a b c d)] w (RetV (.bool true) w) := by
  by_cases h : addr.size = 20
  · by_cases h2 : kind = 2
    · exact refuses_two addr kind a b c d h h2 w
    · by_cases h1 : kind = 1
      · by_cases hz : a = 0 ∧ b = 0 ∧ c = 0 ∧ d = 0
        · exact refuses_one addr kind a b c d h h1 hz w
        · exact refuses_slot addr kind a b c d h h1 hz w
      · exact refuses_kind addr kind a b c d h h1 h2 w
  · exact refuses_size addr kind a b c d h w
end Go.Proofs.YtfphlkkhpccpnaaDoor
