/-
  GetAsk.
-/
import Derived.Test.YtfphlkkhpccpnaaDoorGetA
import Derived.Test.YtfphlkkhpccpnaaDoorAsk
namespace Go.Proofs.YtfphlkkhpccpnaaDoor
open Go.RowKit Go.Proofs K

def putAskR (id : Int) (addr : ByteArray) (a b c d kind : Int) : ByteArray × Bool :=
  if addr.size ≠ 20 then (⟨#[]⟩, false)
  else if kind = 2 then (putL [numS id, numS (IntKind.u64.wrap 2), addr, wordS a b c d], true)
  else if kind = 1 ∧ (a = 0 ∧ b = 0 ∧ c = 0 ∧ d = 0) then (putL [numS id, numS (IntKind.u64.wrap 1), addr], true)
  else (⟨#[]⟩, false)
theorem putAsk_all (id : Int) (addr : ByteArray) (a b c d kind : Int) (w : World) :
    Calls Tryd.prog 12 #[.agg (askC id addr a b c d kind)] w (RetV (.tuple #[.string (putAskR id addr a b c d kind).1, .bool (putAskR id addr a b c d kind).2]) w) := by
  unfold putAskR
  by_cases h : addr.size = 20
  · rw [if_neg (fun h' => h' h)]
    by_cases h2 : kind = 2
    · rw [if_pos h2]
      exact putAsk2_any id addr a b c d kind h h2 w
    · rw [if_neg h2]
      by_cases h1 : kind = 1
      · by_cases hz : a = 0 ∧ b = 0 ∧ c = 0 ∧ d = 0
        · rw [if_pos ⟨h1, hz⟩]
          exact putAsk1_any id addr a b c d kind h h1 hz w
        · rw [if_neg (fun h' => hz h'.2)]
          exact putAsk_slot id addr a b c d kind h h1 hz w
      · rw [if_neg (fun h' => h1 h'.1)]
        exact putAsk_kind id addr a b c d kind h h1 h2 w
  · rw [if_pos h]
    exact putAsk_size id addr a b c d kind h w
def GetAskP (l : List UInt8) (w : World) (e : Ending) (w' : World) : Prop :=
  ((∃ id addr a b c d k, AskD l (some (askC id addr a b c d k)) ∧ (putAskR id addr a b c d k).1 = bs l ∧ e = .returned (.tuple #[.agg (askC id addr a b c d k), .bool true])) ∨
   (e = .returned (.tuple #[.agg zAsk, .bool false]) ∧ (AskD l none ∨ ∃ id addr a b c d k, AskD l (some (askC id addr a b c d k)) ∧ (putAskR id addr a b c d k).1 ≠ bs l))) ∧ Below w.heap.size w w'
theorem askD_form {l : List UInt8} {x : Array Value} (h : AskD l (some x)) : ∃ id addr a b c d k, x = askC id addr a b c d k := by
  generalize ho : some x = o at h
  cases h with
  | bad => cases ho
  | text => cases ho
  | none => cases ho
  | more => cases ho
  | good h ha =>
    cases ho
    exact askR_form ha
theorem bytes_neq {s t : ByteArray} : (!(s.toList == t.toList)) = decide (s ≠ t) := by
  rw [Bool.eq_iff_iff]
  simp only [Bool.not_eq_true', beq_eq_false_iff_ne, decide_eq_true_eq, ByteArray.toList_eq]
  exact ⟨fun h e => h (by rw [e]), fun h e => h (ByteArray.ext (Array.toList_inj.1 e))⟩
set_option maxRecDepth 100000 in
set_option maxHeartbeats 1000000 in
theorem getAsk_any (l : List UInt8) (w : World) : Calls Tryd.prog 15 #[.string (bs l)] w (GetAskP l w) := by
  have HS := Lib.hid ((St.start (ag_emp w)).alloc (.cells zAsk 26))
  go_enter Tryd.func15, Tryd.ntmps15
  go_wp2_with fail
  refine (readAsk_any l _).mono ?_
  rintro e w1 ⟨o, hD, rfl, hb1⟩
  have HD := Lib.hid hD
  have HS1 : Hid (St empH w none_ empH _ [blk w1.heap.size (.cells zAsk 26), blk w.heap.size (.cells zAsk 26)]) := (HS.out.grow hb1).alloc (.cells zAsk 26)
  cases o with
  | none =>
    clear hD hb1 HS
    rw [show (none : Option (Array Value)).getD zAsk = zAsk from rfl, show (none : Option (Array Value)).isSome = false from rfl]
    go_wp2_with (first
      | (refine wpList_store_st (cs := zAsk) 0 HS1.out rfl rfl 26 (.tmp 4) (.tmp 11) rfl rfl rfl szAsk rfl (oneAsk _ _ _ _ _ _ _) ?_)
      | fail)
    intro w2 S2
    have HS2 := Lib.hid S2
    clear S2 HS1
    go_wp2_with (first
      | (refine wpList_load_st (cs := zAsk) 0 HS2.out rfl rfl 26 (.tmp 4) rfl rfl _ Tryd.underlying26 rfl szAsk ?_)
      | fail)
    refine (putAsk_all 0 ⟨#[]⟩ 0 0 0 0 0 _).mono ?_
    rintro e w3 ⟨rfl, hb3⟩
    have HS3 := Lib.hid (HS2.out.grow hb3)
    clear hb3 HS2
    go_wp2_with (first
      | (refine wpList_store_st (cs := zAsk) 1 HS3.out rfl rfl 26 (.tmp 2) (.tmp 25) rfl rfl rfl szAsk rfl (oneAsk _ _ _ _ _ _ _) ?_)
      | fail)
    intro w4 S4
    go_wp2_with fail
    exact post_cell2 0 S4 rfl Tryd.results15 rfl _ Tryd.underlying26 rfl szAsk rfl ⟨.inr ⟨rfl, .inl HD.out⟩, S4.below⟩
  | some x =>
    obtain ⟨id, addr, a, b, c, d, k, rfl⟩ := askD_form hD
    clear hD hb1 HS
    rw [show (some (askC id addr a b c d k)).getD zAsk = askC id addr a b c d k from rfl, show (some (askC id addr a b c d k)).isSome = true from rfl]
    go_wp2_with (first
      | (refine wpList_store_st (cs := askC id addr a b c d k) 0 HS1.out rfl rfl 26 (.tmp 4) (.tmp 11) rfl rfl rfl szAsk rfl (oneAsk _ _ _ _ _ _ _) ?_)
      | fail)
    intro w2 S2
    have HS2 := Lib.hid S2
    clear S2 HS1
    go_wp2_with (first
      | (refine wpList_load_st (cs := askC id addr a b c d k) 0 HS2.out rfl rfl 26 (.tmp 4) rfl rfl _ Tryd.underlying26 rfl szAsk ?_)
      | fail)
    refine (putAsk_all id addr a b c d k _).mono ?_
    rintro e w3 ⟨rfl, hb3⟩
    obtain ⟨t, ht⟩ : ∃ t, t = (putAskR id addr a b c d k).1 := ⟨_, rfl⟩
    rw [← ht]
    have HT := Lib.hid ht
    generalize (putAskR id addr a b c d k).2 = ok
    have HS3 := Lib.hid (HS2.out.grow hb3)
    clear hb3 HS2 ht
    by_cases he : t = bs l
    · have HE := Lib.hid he
      have e1 : (t.toList == (bs l).toList) = true := by rw [he]; simp
      clear he
      go_wp2_with (first
        | (refine wpList_load_st (cs := askC id addr a b c d k) 0 HS3.out rfl rfl 26 (.tmp 4) rfl rfl _ Tryd.underlying26 rfl szAsk ?_)
        | (refine wpList_store_st (cs := askC id addr a b c d k) 1 HS3.out rfl rfl 26 (.tmp 2) (.tmp 26) rfl rfl rfl szAsk rfl (oneAsk _ _ _ _ _ _ _) ?_)
        | fail)
      intro w4 S4
      go_wp2_with fail
      exact post_cell2 0 S4 rfl Tryd.results15 rfl _ Tryd.underlying26 rfl szAsk rfl ⟨.inl ⟨_, _, _, _, _, _, _, HD.out, HT.out ▸ HE.out, rfl⟩, S4.below⟩
    · have HE := Lib.hid he
      have e1 : (t.toList == (bs l).toList) = false := by
        rw [beq_eq_false_iff_ne]
        intro e
        rw [ByteArray.toList_eq, ByteArray.toList_eq] at e
        exact he (ByteArray.ext (Array.toList_inj.1 e))
      clear he
      go_wp2_with (first
        | (refine wpList_store_st (cs := zAsk) 1 HS3.out rfl rfl 26 (.tmp 2) (.tmp 25) rfl rfl rfl szAsk rfl (oneAsk _ _ _ _ _ _ _) ?_)
        | fail)
      intro w4 S4
      go_wp2_with fail
      exact post_cell2 0 S4 rfl Tryd.results15 rfl _ Tryd.underlying26 rfl szAsk rfl ⟨.inr ⟨rfl, .inr ⟨_, _, _, _, _, _, _, HD.out, HT.out ▸ HE.out⟩⟩, S4.below⟩
end Go.Proofs.YtfphlkkhpccpnaaDoor
