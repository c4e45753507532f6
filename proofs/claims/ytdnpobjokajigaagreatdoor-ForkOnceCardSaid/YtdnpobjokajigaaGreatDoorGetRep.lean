/-
  PutReply and GetReply, whole.
-/
import Derived.Test.YtdnpobjokajigaaGreatDoorPutR
import Derived.Test.YtdnpobjokajigaaGreatDoorPart9
namespace Go.Proofs.YtdnpobjokajigaaGreatDoor
open Go.RowKit Go.Proofs K

def putReplyR (kind id nonce a b c d : Int) (code : ByteArray) (e f g h : Int) : ByteArray × Bool :=
  if 24576 < code.size then (⟨#[]⟩, false)
  else if kind = 1 then (if e = 0 ∧ f = 0 ∧ g = 0 ∧ h = 0 then (replyB [numS id, numS nonce, wordS a b c d, code], true) else (⟨#[]⟩, false))
  else if kind = 2 then (if nonce = 0 ∧ (a = 0 ∧ b = 0 ∧ c = 0 ∧ d = 0) ∧ code.toList = [] then (replyB [numS id, wordS e f g h], true) else (⟨#[]⟩, false))
  else (⟨#[]⟩, false)
theorem putReply_all (kind id nonce a b c d : Int) (code : ByteArray) (e f g h : Int) (w : World) :
    Calls Tryz.prog 17 #[.int .i64 kind, .agg (replyC id nonce a b c d code e f g h)] w (RetV (.tuple #[.string (putReplyR kind id nonce a b c d code e f g h).1, .bool (putReplyR kind id nonce a b c d code e f g h).2]) w) := by
  unfold putReplyR
  by_cases hl : 24576 < code.size
  · rw [if_pos hl]
    exact putReply_long kind id nonce a b c d code e f g h hl w
  · rw [if_neg hl]
    have hl' : code.size ≤ 24576 := by omega
    by_cases h1 : kind = 1
    · rw [if_pos h1]
      by_cases hz : e = 0 ∧ f = 0 ∧ g = 0 ∧ h = 0
      · rw [if_pos hz]
        obtain ⟨rfl, rfl, rfl, rfl⟩ := hz
        exact putReply_one kind id nonce a b c d code hl' h1 w _ rfl
      · rw [if_neg hz]
        exact putReply_value kind id nonce a b c d code e f g h hl' h1 hz w
    · rw [if_neg h1]
      by_cases h2 : kind = 2
      · rw [if_pos h2]
        by_cases hz : nonce = 0 ∧ (a = 0 ∧ b = 0 ∧ c = 0 ∧ d = 0) ∧ code.toList = []
        · rw [if_pos hz]
          obtain ⟨rfl, ⟨rfl, rfl, rfl, rfl⟩, hz⟩ := hz
          have hz' : code = ⟨#[]⟩ := by
            rw [ByteArray.toList_eq] at hz
            exact ByteArray.ext (Array.toList_inj.1 hz)
          subst hz'
          exact putReply_two kind id e f g h h2 w _ rfl
        · rw [if_neg hz]
          exact putReply_account kind id nonce a b c d code e f g h hl' h2 hz w
      · rw [if_neg h2]
        exact putReply_kind kind id nonce a b c d code e f g h hl' h1 h2 w
def Sealed (l : List UInt8) : Prop := 4 ≤ l.length ∧ sumS (bs (l.drop 4)) = bs (l.take 4)
inductive ReplyG (kind : Int) (l : List UInt8) : Option (Array Value) → Prop
  | torn (h : ¬ Sealed l) : ReplyG kind l none
  | kind (h : kind ≠ 1) (h2 : kind ≠ 2) : ReplyG kind l none
  | read {o : Option (Array Value)} (h : Sealed l) (hk : kind = 1 ∨ kind = 2) (hD : ReplyD kind (l.drop 4) o) : ReplyG kind l o
def GetReplyP (kind : Int) (l : List UInt8) (w : World) (e : Ending) (w' : World) : Prop := ∃ o, ReplyG kind l o ∧ e = .returned (.tuple #[.agg (o.getD zReply), .bool o.isSome]) ∧ Below w.heap.size w w'
theorem replyD_form {kind : Int} {l : List UInt8} {o : Option (Array Value)} (h : ReplyD kind l o) : ∃ id nn a b c d code e f g h, o.getD zReply = replyC id nn a b c d code e f g h := by
  cases h with
  | good h ha =>
    obtain ⟨id, nn, a, b, c, d, code, e, f, g, h, rfl⟩ := replyR_form ha
    exact ⟨_, _, _, _, _, _, _, _, _, _, _, rfl⟩
  | _ => exact ⟨_, _, _, _, _, _, _, _, _, _, _, rfl⟩
theorem neq_list {s t : ByteArray} (h : s ≠ t) : (s.toList == t.toList) = false := by
  rw [beq_eq_false_iff_ne]
  intro e
  rw [ByteArray.toList_eq, ByteArray.toList_eq] at e
  exact h (ByteArray.ext (Array.toList_inj.1 e))
theorem eq_list {s t : ByteArray} (h : s = t) : (s.toList == t.toList) = true := by rw [h]; simp
set_option maxRecDepth 100000 in
set_option maxHeartbeats 2000000 in
theorem getReply_short (kind : Int) (l : List UInt8) (h : l.length < 4) (w : World) : Calls Tryz.prog 63 #[.int .i64 kind, .string (bs l)] w (GetReplyP kind l w) := by
  have HS := Lib.hid (((St.start (ag_emp w)).alloc (.cells #[.int .i64 kind] 3)).alloc' (.cells zReply 37) (w.heap.size + 1) (by simp))
  have h' : ((bs l).size : Int) < 4 := by rw [bs_size]; omega
  have HG : Hid (ReplyG kind l none) := .torn fun h2 => by have := h2.1; omega
  clear h
  go_enter Tryz.func63, Tryz.ntmps63
  go_wp2_with fail
  go_region
  go_wp2_with fail
  exact post_cell2 0 HS.out.drew rfl Tryz.results63 rfl _ Tryz.underlying37 rfl szReply rfl ⟨none, HG.out, rfl, HS.out.drew.below⟩
set_option maxRecDepth 100000 in
set_option maxHeartbeats 2000000 in
theorem getReply_long (kind : Int) (l : List UInt8) (h : 4 ≤ l.length) (hn : l.length ≤ 140737488355328) (w : World) : Calls Tryz.prog 63 #[.int .i64 kind, .string (bs l)] w (GetReplyP kind l w) := by
  obtain ⟨W, hW⟩ : ∃ W, W = (w.alloc (.cells #[.int .i64 kind] 3)).alloc (.cells zReply 37) := ⟨_, rfl⟩
  have HS : Hid (St empH w none_ empH W [blk (w.heap.size + 1) (.cells zReply 37), blk w.heap.size (.cells #[.int .i64 kind] 3)]) := by rw [hW]; exact ((St.start (ag_emp w)).alloc (.cells #[.int .i64 kind] 3)).alloc' (.cells zReply 37) (w.heap.size + 1) (by simp)
  have f0 : ∀ w', Below W.heap.size W w' → w'.cell? ⟨w.heap.size, 0, none⟩ = some (.int .i64 kind) := fun w' h => (HS.out.grow h).cell 1 rfl rfl
  have h' : ¬ ((bs l).size : Int) < 4 := by rw [bs_size]; omega
  have h4 : 4 ≤ (bs l).size := by rw [bs_size]; omega
  have hd : decide (((bs l).size : Int) < 4) = false := decide_eq_false h'
  have hN : (bs (l.drop 4)).size ≤ 140737488355328 := by rw [bs_size]; simp; omega
  have HN := Lib.hid hN
  have HL4 := Lib.hid h
  have HW := Lib.hid hW
  clear hW h hn hN
  go_enter Tryz.func63, Tryz.ntmps63
  go_wp2_with fail
  have eW := HW.out
  simp only [zReply, replyC] at eW
  rw [← eW]
  clear eW
  by_cases hs : sumS (bs (l.drop 4)) = bs (l.take 4)
  · have e1 := eq_list hs
    rw [← bs_take] at e1
    have HSL : Hid (Sealed l) := ⟨HL4.out, hs⟩
    clear hs
    by_cases hk1 : kind = 1
    · subst hk1
      have hY : yielded #[{ dst := some 0, op := Op.move (Operand.tmp 0), type := 0, pos := "", after := #[], guard := none }] #[undef] 0 = none := rfl
      simp [yielded] at hY
      first
        | (go_region_law (first
            | (go_simp; go_at_call 69; rw [bs_drop]; refine (retFrom (W := W) ?_ (wsum_any _ HN.out _)).mono ?_; (first | assumption | exact (Below.refl _ _).drew); rintro e w1 ⟨rfl, hb1⟩; have k0 := f0 _ hb1)))
        | (exact hY)
      have HS1 := Lib.hid (HS.out.grow hb1)
      clear hY f0 HS hb1
      obtain ⟨H5, hle, hk5, S5⟩ := HS1.out.keep 1 rfl
      have HK := Lib.hid hk5
      have HS5 : Hid (St empH w none_ H5 w1 [blk (w.heap.size + 1) (.cells zReply 37)]) := S5
      clear hle hk5 S5 HS1
      go_wp2_with fail
      rw [bs_drop]
      refine (readReply_any 1 (Hk := H5) w.heap.size HK.out (l.drop 4) _ HS5.out.ag).mono ?_
      rintro e w6 ⟨o, hD, rfl, hb6⟩
      have HG : Hid (ReplyG 1 l o) := .read HSL.out (.inl rfl) hD
      have HS6 := Lib.hid (HS5.out.grow hb6)
      obtain ⟨id, nn, a, b, c, d, code, e, f, g, h, hform⟩ := replyD_form (o := o) hD
      clear hD hb6 HS5
      rw [hform]
      have HF := Lib.hid hform
      clear hform
      go_wp2_with (first
        | (refine wpList_store_st (cs := replyC id nn a b c d code e f g h) 0 HS6.out rfl rfl 37 (.tmp 4) (.tmp 30) rfl rfl rfl szReply rfl (oneReply _ _ _ _ _ _ _ _ _ _ _) ?_)
        | fail)
      intro w7 S7
      go_wp2_with fail
      exact post_cell2 0 S7 rfl Tryz.results63 rfl _ Tryz.underlying37 rfl szReply rfl ⟨o, HG.out, by rw [HF.out]; rfl, S7.below⟩
    · by_cases hk2 : kind = 2
      · subst hk2
        clear hk1
        have hY : yielded #[{ dst := some 0, op := Op.move (Operand.tmp 0), type := 0, pos := "", after := #[], guard := none }] #[undef] 0 = none := rfl
        simp [yielded] at hY
        first
          | (go_region_law (first
              | (go_simp; go_at_call 69; rw [bs_drop]; refine (retFrom (W := W) ?_ (wsum_any _ HN.out _)).mono ?_; (first | assumption | exact (Below.refl _ _).drew); rintro e w1 ⟨rfl, hb1⟩; have k0 := f0 _ hb1)))
          | (exact hY)
        have HS1 := Lib.hid (HS.out.grow hb1)
        clear hY f0 HS hb1
        obtain ⟨H5, hle, hk5, S5⟩ := HS1.out.keep 1 rfl
        have HK := Lib.hid hk5
        have HS5 : Hid (St empH w none_ H5 w1 [blk (w.heap.size + 1) (.cells zReply 37)]) := S5
        clear hle hk5 S5 HS1
        go_wp2_with fail
        rw [bs_drop]
        refine (readReply_any 2 (Hk := H5) w.heap.size HK.out (l.drop 4) _ HS5.out.ag).mono ?_
        rintro e w6 ⟨o, hD, rfl, hb6⟩
        have HG : Hid (ReplyG 2 l o) := .read HSL.out (.inr rfl) hD
        have HS6 := Lib.hid (HS5.out.grow hb6)
        obtain ⟨id, nn, a, b, c, d, code, e, f, g, h, hform⟩ := replyD_form (o := o) hD
        clear hD hb6 HS5
        rw [hform]
        have HF := Lib.hid hform
        clear hform
        go_wp2_with (first
          | (refine wpList_store_st (cs := replyC id nn a b c d code e f g h) 0 HS6.out rfl rfl 37 (.tmp 4) (.tmp 30) rfl rfl rfl szReply rfl (oneReply _ _ _ _ _ _ _ _ _ _ _) ?_)
          | fail)
        intro w7 S7
        go_wp2_with fail
        exact post_cell2 0 S7 rfl Tryz.results63 rfl _ Tryz.underlying37 rfl szReply rfl ⟨o, HG.out, by rw [HF.out]; rfl, S7.below⟩
      · have HG : Hid (ReplyG kind l none) := .kind hk1 hk2
        have k3 : (kind != 1) = true := bne_iff_ne.2 hk1
        have k4 : (kind != 2) = true := bne_iff_ne.2 hk2
        have hY : yielded #[{ dst := some 0, op := Op.move (Operand.tmp 0), type := 0, pos := "", after := #[], guard := none }] #[undef] 0 = none := rfl
        simp [yielded] at hY
        first
          | (go_region_law (first
              | (go_simp; go_at_call 69; rw [bs_drop]; refine (retFrom (W := W) ?_ (wsum_any _ HN.out _)).mono ?_; (first | assumption | exact (Below.refl _ _).drew); rintro e w1 ⟨rfl, hb1⟩; have k0 := f0 _ hb1)))
          | (exact hY)
        have HS1 := Lib.hid (HS.out.grow hb1)
        clear hY f0 HS hb1
        go_wp2_with (first
          | (refine wpList_store_st (cs := zReply) 0 HS1.out rfl rfl 37 (.tmp 4) (.tmp 25) rfl rfl rfl szReply rfl (oneReply _ _ _ _ _ _ _ _ _ _ _) ?_)
          | fail)
        intro w4 S4
        go_wp2_with fail
        exact post_cell2 0 S4 rfl Tryz.results63 rfl _ Tryz.underlying37 rfl szReply rfl ⟨none, HG.out, rfl, S4.below⟩
  · have e1 := neq_list hs
    rw [← bs_take] at e1
    have HG : Hid (ReplyG kind l none) := .torn fun h2 => hs h2.2
    clear hs
    have hY : yielded #[{ dst := some 0, op := Op.move (Operand.tmp 0), type := 0, pos := "", after := #[], guard := none }] #[undef] 0 = none := rfl
    simp [yielded] at hY
    first
      | (go_region_law (first
          | (go_simp; go_at_call 69; rw [bs_drop]; refine (retFrom (W := W) ?_ (wsum_any _ HN.out _)).mono ?_; (first | assumption | exact (Below.refl _ _).drew); rintro e w1 ⟨rfl, hb1⟩; have k0 := f0 _ hb1)))
      | (exact hY)
    have HS1 := Lib.hid (HS.out.grow hb1)
    clear hY f0 HS hb1
    go_wp2_with (first
      | (refine wpList_store_st (cs := zReply) 0 HS1.out rfl rfl 37 (.tmp 4) (.tmp 25) rfl rfl rfl szReply rfl (oneReply _ _ _ _ _ _ _ _ _ _ _) ?_)
      | fail)
    intro w4 S4
    go_wp2_with fail
    exact post_cell2 0 S4 rfl Tryz.results63 rfl _ Tryz.underlying37 rfl szReply rfl ⟨none, HG.out, rfl, S4.below⟩
end Go.Proofs.YtdnpobjokajigaaGreatDoor
