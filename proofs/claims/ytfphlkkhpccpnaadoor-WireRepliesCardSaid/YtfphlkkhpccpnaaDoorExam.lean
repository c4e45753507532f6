/-
  The chapter's examples.
-/
import Derived.Test.YtfphlkkhpccpnaaDoorPlRep
import Derived.Test.YtfphlkkhpccpnaaDoorEq
namespace Go.Proofs.YtfphlkkhpccpnaaDoor
open Go.RowKit Go.Proofs K

/-- A whole block loaded, under a guard that says yes. -/
theorem wpList_load_gd {H0 H : Hs} {w0 w : World} {X : Nat → Prop} {ps : List Hp} {P : Program} {ops : Array Oper} {rest : List Oper} {o : Oper} {a : Act} {Q : Exit → Act → World → Prop} {b : Nat} {cs : Array Value} {t : TypeId} {fr : Nat × Nat} (i : Nat) (S : St H0 w0 X H w ps) (hi : ps[i]? = some (blk b (.cells cs t fr)))
    (ty : TypeId) (x : Operand) (ho : o.op = .load ty x) (hx : a.eval x = .pointer (some ⟨b, 0, none⟩)) (d : TypeDesc)
    (hu : P.underlying ty = some d) (hd : (match d with | .struct _ | .array _ _ => true | _ => false) = true) (hs : (P.info? ty).map (·.size) = some cs.size) (hw : Region.wanted o (yielded ops a.tmps) = true)
    (h : wpList P ops Q rest (a.put o.dst (.agg cs)) w) : wpList P ops Q (o :: rest) a w :=
  BigFrame.wpList_want hw fun _ hK => wp_load_row ty x ho b hx t cs fr d (S.blk_at i hi) hu hd hs (hK _ _ h)
theorem wpList_bin {P : Program} {ops : Array Oper} {rest : List Oper} {o : Oper} {a : Act} {w : World} {Q : Exit → Act → World → Prop} (bo : BinOp) (ty ty2 : TypeId) (x y : Operand) (ho : o.op = .binOp bo ty x y ty2) (hw : Region.wanted o (yielded ops a.tmps) = true) (v : Value)
    (hg : (eqGuard bo ty x y (a.eval x) (a.eval y)).run P w = .ok () w) (hrun : (binOp bo ty (a.eval x) (a.eval y)).run P w = .ok v w) (h : wpList P ops Q rest (a.put o.dst v) w) : wpList P ops Q (o :: rest) a w := by
  refine BigFrame.wpList_want hw fun _ hK => ?_
  unfold Oper.wp execOp
  simp only [ho, Sem.run_bind, hg, hrun, Result.andThen_ok, Sem.run_pure]
  exact hK _ _ h
theorem eqgAsk (x y : Operand) (u v : Array Value) (w : World) : (eqGuard .eql 26 x y (.agg u) (.agg v)).run Tryd.prog w = .ok () w := by
  have h : Tryd.prog.eqGuardType Tryd.prog.depth 26 = false := by kernel_rfl
  simp [eqGuard, Sem.run_bind, run_program, h]
theorem eqgReply (x y : Operand) (u v : Array Value) (w : World) : (eqGuard .eql 42 x y (.agg u) (.agg v)).run Tryd.prog w = .ok () w := by
  have h : Tryd.prog.eqGuardType Tryd.prog.depth 42 = false := by kernel_rfl
  simp [eqGuard, Sem.run_bind, run_program, h]
def exA : ByteArray := ⟨#[97, 97, 97, 97, 97, 97, 97, 97, 97, 97, 97, 97, 97, 97, 97, 97, 97, 97, 97, 97]⟩
theorem exA_size : exA.size = 20 := rfl
def exS : ByteArray := putL (askTs 5 exA 0 0 0 0 1)
theorem exPut (w : World) : Calls Tryd.prog 12 #[.agg (askC 5 exA 0 0 0 0 1)] w (RetV (.tuple #[.string exS, .bool true]) w) := by
  have := putAsk_all 5 exA 0 0 0 0 1 w
  rw [putAskR_ok ⟨exA_size, .inr ⟨rfl, rfl, rfl, rfl, rfl⟩⟩] at this
  exact this
theorem exGet (w : World) : Calls Tryd.prog 15 #[.string exS] w (RetV (.tuple #[.agg (askC 5 exA 0 0 0 0 1), .bool true]) w) := by
  have := getAsk_any exS.data.toList w
  rw [bs_list] at this
  refine this.mono fun e w' h => ⟨?_, h.2⟩
  exact getAsk_back ⟨by decide, by decide⟩ ⟨by decide, by decide⟩ ⟨by decide, by decide⟩ ⟨by decide, by decide⟩ ⟨by decide, by decide⟩ ⟨exA_size, .inr ⟨rfl, rfl, rfl, rfl, rfl⟩⟩ h
theorem exNone (w : World) : Calls Tryd.prog 15 #[.string ⟨#[]⟩] w (RetV (.tuple #[.agg zAsk, .bool false]) w) := by
  have := getAsk_any [] w
  refine this.mono fun e w' h => ⟨?_, h.2⟩
  rcases getAsk_is h with ⟨_, _, _, _, _, _, _, hf, _, _⟩ | ⟨he, _⟩
  · cases hf
  · exact he
def exT : ByteArray := replyB [numS 5, numS 7, wordS 0 0 0 0, ⟨#[]⟩]
theorem exPutR (w : World) : Calls Tryd.prog 17 #[.int .i64 1, .agg (replyC 5 7 0 0 0 0 ⟨#[]⟩ 0 0 0 0)] w (RetV (.tuple #[.string exT, .bool true]) w) := by
  exact putReply_all 1 5 7 0 0 0 0 ⟨#[]⟩ 0 0 0 0 w
theorem exGetR (w : World) : Calls Tryd.prog 20 #[.int .i64 1, .string exT] w (RetV (.tuple #[.agg (replyC 5 7 0 0 0 0 ⟨#[]⟩ 0 0 0 0), .bool true]) w) := by
  have hl : exT.data.toList.length ≤ 140737488355328 := by
    rw [exT, replyB_list, List.length_append, sum4]
    have := one_len (id := 5) (n := 7) (a := 0) (b := 0) (c := 0) (d := 0) (code := ⟨#[]⟩) (by decide)
    omega
  have := getReply_long 1 exT.data.toList (sealed_put _).1 hl w
  rw [bs_list] at this
  refine this.mono fun e w' h => ⟨?_, h.choose_spec.2.2⟩
  exact getReply_one ⟨by decide, by decide⟩ ⟨by decide, by decide⟩ ⟨by decide, by decide⟩ ⟨by decide, by decide⟩ ⟨by decide, by decide⟩ ⟨by decide, by decide⟩ (by decide) h
set_option maxRecDepth 100000 in
set_option maxHeartbeats 2000000 in
theorem examples_any (w : World) : Calls Tryd.prog 11 #[] w (RetV (.bool true) w) := by
  have HA : Hid (St empH w none_ empH (w.alloc (.cells (askC 5 exA 0 0 0 0 1) 26)) [blk w.heap.size (.cells (askC 5 exA 0 0 0 0 1) 26)]) := (St.start (ag_emp w)).alloc _
  go_enter Tryd.func11, Tryd.ntmps11
  go_wp2_with (first
    | (refine wpList_load_st (cs := askC 5 exA 0 0 0 0 1) 0 HA.out rfl rfl 26 (.tmp 1) rfl rfl _ Tryd.underlying26 rfl szAsk ?_)
    | fail)
  refine (exPut _).mono ?_
  rintro e w1 ⟨rfl, hb1⟩
  have HB := Lib.hid (HA.out.grow hb1)
  clear HA hb1
  go_wp2_with fail
  refine (exGet _).mono ?_
  rintro e w2 ⟨rfl, hb2⟩
  have HC0 := Lib.hid ((HB.out.grow hb2).alloc (.cells zAsk 26))
  clear HB hb2
  go_wp2_with (first
    | (refine wpList_store_st (cs := askC 5 exA 0 0 0 0 1) 0 HC0.out rfl rfl 26 (.tmp 4) (.tmp 22) rfl rfl rfl szAsk rfl (oneAsk _ _ _ _ _ _ _) ?_)
    | fail)
  intro w2' SC
  have HC2 := Lib.hid (SC.alloc (.cells (replyC 5 7 0 0 0 0 ⟨#[]⟩ 0 0 0 0) 42))
  clear HC0 SC
  go_wp2_with (first
    | (refine wpList_load_st (cs := replyC 5 7 0 0 0 0 ⟨#[]⟩ 0 0 0 0) 0 HC2.out rfl rfl 42 (.tmp 6) rfl rfl _ Tryd.underlying42 rfl szReply ?_)
    | fail)
  refine (exPutR _).mono ?_
  rintro e w3 ⟨rfl, hb3⟩
  have HD := Lib.hid (HC2.out.grow hb3)
  clear HC2 hb3
  go_wp2_with fail
  refine (exGetR _).mono ?_
  rintro e w4 ⟨rfl, hb4⟩
  have HE0 := Lib.hid ((HD.out.grow hb4).alloc (.cells zReply 42))
  clear HD hb4
  go_wp2_with (first
    | (refine wpList_store_st (cs := replyC 5 7 0 0 0 0 ⟨#[]⟩ 0 0 0 0) 0 HE0.out rfl rfl 42 (.tmp 9) (.tmp 34) rfl rfl rfl szReply rfl (oneReply _ _ _ _ _ _ _ _ _ _ _) ?_)
    | fail)
  intro w4' SE
  have HE := Lib.hid SE
  clear HE0 SE
  go_wp2_with fail
  refine (exNone _).mono ?_
  rintro e w5 ⟨rfl, hb5⟩
  have HF0 := Lib.hid ((HE.out.grow hb5).alloc (.cells zAsk 26))
  clear HE hb5
  go_wp2_with (first
    | (refine wpList_store_st (cs := zAsk) 0 HF0.out rfl rfl 26 (.tmp 11) (.tmp 38) rfl rfl rfl szAsk rfl (oneAsk _ _ _ _ _ _ _) ?_)
    | fail)
  intro w6 SF
  have HF : Hid (St empH w none_ empH w6 [blk w5.heap.size (.cells zAsk 26), blk w4.heap.size (.cells (replyC 5 7 0 0 0 0 ⟨#[]⟩ 0 0 0 0) 42), blk w2'.heap.size (.cells (replyC 5 7 0 0 0 0 ⟨#[]⟩ 0 0 0 0) 42), blk w2.heap.size (.cells (askC 5 exA 0 0 0 0 1) 26), blk w.heap.size (.cells (askC 5 exA 0 0 0 0 1) 26)]) := SF
  clear HF0 SF
  go_wp2_with (first
    | (refine wpList_load_gd (cs := askC 5 exA 0 0 0 0 1) 3 HF.out rfl 26 (.tmp 4) rfl rfl _ Tryd.underlying26 rfl szAsk rfl ?_)
    | (refine wpList_load_gd (cs := askC 5 exA 0 0 0 0 1) 4 HF.out rfl 26 (.tmp 1) rfl rfl _ Tryd.underlying26 rfl szAsk rfl ?_)
    | (refine wpList_load_gd (cs := replyC 5 7 0 0 0 0 ⟨#[]⟩ 0 0 0 0) 1 HF.out rfl 42 (.tmp 9) rfl rfl _ Tryd.underlying42 rfl szReply rfl ?_)
    | (refine wpList_load_gd (cs := replyC 5 7 0 0 0 0 ⟨#[]⟩ 0 0 0 0) 2 HF.out rfl 42 (.tmp 6) rfl rfl _ Tryd.underlying42 rfl szReply rfl ?_)
    | (refine wpList_bin .eql 26 26 (.tmp 42) (.tmp 43) rfl rfl (.bool true) (eqgAsk _ _ _ _ _) (eqAskB 5 exA 0 0 0 0 1 _) ?_)
    | (refine wpList_bin .eql 42 42 (.tmp 53) (.tmp 54) rfl rfl (.bool true) (eqgReply _ _ _ _ _) (eqReplyB 5 7 0 0 0 0 ⟨#[]⟩ 0 0 0 0 _) ?_)
    | fail)
  exact bodyPost_ret (v := .bool true) (by simp [results, Tryd.results11, go_sem]) rfl ⟨rfl, HF.out.below⟩
end Go.Proofs.YtfphlkkhpccpnaaDoor
