/-
  Code, on what All tells.
-/
import Derived.Test.YtfphlkkhpccpnabDoorOpOf
import Derived.Test.YtfphlkkhpccpnabDoorRange
namespace Go.Proofs.YtfphlkkhpccpnabDoor
open Go.RowKit Go.Proofs K
set_option linter.unusedVariables false

theorem find_only {α β : Type} [BEq β] [LawfulBEq β] (f : α → β) : ∀ {l : List α} {x : α}, (l.map f).Nodup → x ∈ l → l.find? (fun y => f y == f x) = some x
  | [], _, _, h => by cases h
  | y :: l, x, hn, h => by
    rw [List.map_cons, List.nodup_cons] at hn
    rw [List.find?_cons]
    rcases List.mem_cons.1 h with rfl | h
    · rw [beq_self_eq_true]
    · have hne : (f y == f x) = false := by
        rw [beq_eq_false_iff_ne]
        intro e
        exact hn.1 (e ▸ List.mem_map.2 ⟨x, h, rfl⟩)
      rw [hne]
      exact find_only f hn.2 h
theorem opNamed_of {e : OpE} (h : e ∈ opL) : opNamed e.2.1 = some e := find_only (fun e : OpE => e.2.1) opL_names h
def nameC (s : List UInt8) : Int := match opNamed s with | some e => (e.1 : Int) | none => 0
def Left (s : List UInt8) (left : List (Int × Value)) : Prop := (∀ x ∈ left, ∃ e ∈ opL, x = ((e.1 : Int), Value.agg (opC e))) ∧ ∀ e ∈ opL, e.2.1 = s → ((e.1 : Int), Value.agg (opC e)) ∈ left
theorem left_start (s : List UInt8) : Left s opM := ⟨fun x hx => by
  obtain ⟨e, he, rfl⟩ := List.mem_map.1 hx
  exact ⟨e, he, rfl⟩, fun e he _ => List.mem_map.2 ⟨e, he, rfl⟩⟩
theorem left_end {s : List UInt8} (h : Left s []) : opNamed s = none := by
  unfold opNamed
  rw [List.find?_eq_none]
  intro e he hs
  have hs' : e.2.1 = s := by simpa using hs
  have := h.2 e he hs'
  cases this
theorem left_next {s : List UInt8} {left : List (Int × Value)} {j : Nat} {e : OpE} (h : Left s left) (hj : left[j]? = some ((e.1 : Int), Value.agg (opC e))) (hne : e.2.1 ≠ s) : Left s (left.eraseIdx j) := by
  refine ⟨fun x hx => h.1 x (List.mem_of_mem_eraseIdx hx), fun f hf hs => ?_⟩
  have hm := h.2 f hf hs
  obtain ⟨i, hi, hi'⟩ := List.getElem_of_mem hm
  rw [List.mem_eraseIdx_iff_getElem?]
  refine ⟨i, ?_, ?_⟩
  · intro hij
    subst hij
    rw [List.getElem?_eq_getElem hi, hi'] at hj
    simp only [Option.some.injEq, Prod.mk.injEq, Value.agg.injEq] at hj
    have h2 := hj.2
    simp only [opC, Array.mk.injEq, List.cons.injEq, Value.string.injEq] at h2
    have h3 : f.2.1 = e.2.1 := by
      have := congrArg (fun b : ByteArray => b.data.toList) h2.1
      simpa using this
    exact hne (h3 ▸ hs)
  · rw [List.getElem?_eq_getElem hi, hi']
set_option maxRecDepth 100000 in
set_option maxHeartbeats 2000000 in
theorem code_any (HA : ∀ w, MaxAt w → Calls Tryd.prog 13 #[] w (AllP w)) (s : ByteArray) (w : World) (hm : MaxAt w) : Calls Tryd.prog 9 #[.string s] w (fun e w' => e = .returned (.tuple #[.int .u8 (nameC s.data.toList), .bool (opNamed s.data.toList).isSome]) ∧ Below w.heap.size w w') := by
  have HALL := Lib.hid HA
  have HM := Lib.hid hm
  clear HA hm
  go_enter Tryd.func9, Tryd.ntmps9
  go_wp2_with fail
  refine (HALL.out _ HM.out).mono ?_
  rintro e w1 ⟨k, rfl, S1⟩
  have HS1 := Lib.hid S1
  clear S1
  go_wp2_with (first
    | (refine wpList_range_st 0 HS1.out rfl Tryd.underlying44 rfl _ rfl rfl ?_)
    | fail)
  intro w2 S2
  have HS2 : Hid (St empH w none_ empH w2 [iterP encU8 w1.heap.size k opM opM]) := S2
  have HL := Lib.hid (left_start s.data.toList)
  clear S2 HS1
  go_wp2_with fail
  go_loopw [4] (fun _ wr => ∃ left, Hid (Left s.data.toList left) ∧ Hid (St empH w none_ empH wr [iterP encU8 w1.heap.size k opM left])) (fun _ wr => iterLeft wr w1.heap.size k)
  case atStart => exact ⟨opM, HL, HS2⟩
  case round =>
    clear HS2 HL
    obtain ⟨left, HL, HS⟩ := hrel
    go_wp2_with (first
      | (refine wpList_next_st 0 HS.out rfl rfl _ rfl rfl ?_ ?_)
      | fail)
    · intro hd
      subst hd
      have HN := Lib.hid (left_end HL.out)
      go_wp2_with fail
      go_ret2
      exact ⟨by unfold nameC; rw [HN.out]; rfl, HS.out.below⟩
    · intro f v j w3 hj S3 hen
      obtain ⟨en, hen1, hen2⟩ := HL.out.1 _ (List.mem_of_getElem? hj)
      simp only [Prod.mk.injEq] at hen2
      obtain ⟨rfl, rfl⟩ := hen2
      have HJ := Lib.hid hj
      have HE := Lib.hid hen1
      have HS3 := Lib.hid (S3.alloc (.cells (opC en) 35))
      clear S3 hj hen1
      simp only [encU8, opC] at hen ⊢
      by_cases hs : en.2.1 = s.data.toList
      · have HN := Lib.hid (opNamed_of HE.out)
        have b1 : (en.2.1 == s.toList) = true := by rw [beq_iff_eq, ByteArray.toList_eq]; exact hs
        have HS0 := Lib.hid hs
        clear hs
        go_wp2_with fail
        go_ret2
        exact ⟨by unfold nameC; rw [← HS0.out, HN.out]; rfl, HS3.out.below⟩
      · have b1 : (en.2.1 == s.toList) = false := by rw [beq_eq_false_iff_ne, ByteArray.toList_eq]; exact hs
        have HL2 := Lib.hid (left_next HL.out HJ.out hs)
        clear hs
        go_wp2_with fail
        go_roundw
        case rel => exact ⟨left.eraseIdx j, HL2, HS3.out.drop 0⟩
        case measure =>
          have e3 := (HS3.out.drop 0).iterLeft_eq 0 rfl
          simp only [opC] at e3
          rw [e3, HS.out.iterLeft_eq 0 rfl]
          have := (List.getElem?_eq_some_iff.1 HJ.out).1
          rw [List.length_eraseIdx_of_lt this]
          omega
end Go.Proofs.YtfphlkkhpccpnabDoor
