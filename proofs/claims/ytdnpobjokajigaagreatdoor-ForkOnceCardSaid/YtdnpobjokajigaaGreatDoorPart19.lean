/-
  The document's own sizes.
  The document's own reading of items.
-/
import Derived.Test.YtdnpobjokajigaaGreatDoorPart18
import Derived.Test.YtdnpobjokajigaaGreatDoorPart5
import Derived.Laws.DeepStrings4
namespace Go.Proofs.YtdnpobjokajigaaGreatDoor
open Go.RowKit Go.Proofs K
set_option linter.unusedVariables false

def baseN (b : UInt8) : Nat := if 192 ≤ b.toNat then 192 else 128
/-- How many bytes stand ahead, and how many there are then. -/
def sizeO : List UInt8 → Option (Nat × Nat)
  | [] => none
  | b :: r => if b.toNat < 128 then some (0, 1) else match manyL (b.toNat - baseN b) r with
    | none => none
    | some (n, r2) => if n ≤ r2.length then some (1 + (r.length - r2.length), n) else none
def SizeP (l : List UInt8) (w : World) (e : Ending) (w' : World) : Prop := w' = w ∧ ∃ (a n : Nat) (ok : Bool), e = .returned (.tuple #[.int .i64 a, .int .i64 n, .bool ok]) ∧ (if ok then some (a, n) else none) = sizeO l
theorem valN_mono (l m : List UInt8) : valN l ≤ valN (l ++ m) := by
  unfold valN
  rw [List.foldl_append]
  generalize List.foldl (fun n b => n * 256 + b.toNat) 0 l = x
  induction m generalizing x with
  | nil => exact Nat.le_refl _
  | cons b m ih => exact Nat.le_trans (by omega) (ih (x * 256 + b.toNat))
theorem valN_take_le (l : List UInt8) {i k : Nat} (h : i ≤ k) : valN (l.take i) ≤ valN (l.take k) := by
  have e : l.take k = l.take i ++ (l.take k).drop i := by
    have := List.take_append_drop i (l.take k)
    rw [List.take_take, Nat.min_eq_left h] at this
    exact this.symm
  rw [e]
  exact valN_mono _ _
theorem bs_get (l : List UInt8) {i : Nat} (h : i < (bs l).size) : (bs l)[i] = l[i]'(by rw [bs_size] at h; exact h) := rfl
theorem sizeO_cons (b : UInt8) (r : List UInt8) : sizeO (b :: r) = if b.toNat < 128 then some (0, 1) else match manyL (b.toNat - baseN b) r with
    | none => none
    | some (n, r2) => if n ≤ r2.length then some (1 + (r.length - r2.length), n) else none := rfl
theorem size_post {l : List UInt8} {w : World} {a : Act} (x y : Nat) (ok : Bool) (h2 : a.tmps.getD 2 undef = .int .i64 x) (h3 : a.tmps.getD 3 undef = .int .i64 y) (h4 : a.tmps.getD 4 undef = .bool ok) (hd : a.defers = []) (ho : (if ok then some (x, y) else none) = sizeO l) :
    bodyPost Tryz.prog Tryz.f180 (SizeP l w) .ret a w := by
  refine bodyPost_ret (v := .tuple #[.int .i64 x, .int .i64 y, .bool ok]) ?_ hd ⟨rfl, x, y, ok, rfl, ho⟩
  rw [Array.getD_eq_getD_getElem?] at h2 h3 h4
  simp [results, Tryz.results180, go_sem]
  exact ⟨h2, h3, h4⟩
set_option maxRecDepth 100000 in
theorem size_nil (w : World) : Calls Tryz.prog 180 #[.string (bs [])] w (SizeP [] w) := by
  go_enter Tryz.func180, Tryz.ntmps180
  go_wp2_with fail
  exact size_post 0 0 false rfl rfl rfl rfl rfl
section
variable {b : UInt8} {r : List UInt8} {s : ByteArray}
set_option maxRecDepth 100000 in
theorem size_low (hs : s = bs (b :: r)) (hb : b.toNat < 128) (w : World) : Calls Tryz.prog 180 #[.string s] w (SizeP (b :: r) w) := by
  have h0 : 0 < s.size := by rw [hs, bs_size]; simp
  have hb0 : s[0] = b := by subst hs; rfl
  have hz : ((s.size : Int) == 0) = false := by rw [beq_eq_false_iff_ne]; omega
  have hb1 : (b.toNat : Int) < 128 := by omega
  have hb2 : ¬ (192 : Int) ≤ (b.toNat : Int) := by omega
  have hw : wrap64 (b.toNat : Int) = (b.toNat : Int) := by have := b.toNat_lt; unfold wrap64; omega
  have HO : Hid (sizeO (b :: r) = some (0, 1)) := Lib.hid (by rw [sizeO_cons, if_pos hb])
  clear hs hb
  go_enter Tryz.func180, Tryz.ntmps180
  go_wp2_with fail
  exact size_post 0 1 true rfl rfl rfl rfl HO.out.symm
theorem short_o (B : Nat) (hb : 128 ≤ b.toNat) (hB : B = baseN b) (hk : b.toNat - B ≤ 55) : sizeO (b :: r) = if b.toNat - B ≤ r.length then some (1, b.toNat - B) else none := by
  rw [sizeO_cons, if_neg (show ¬ b.toNat < 128 by omega), ← hB]
  unfold manyL
  rw [if_pos hk]
  simp only
  split
  · simp
  · rfl
set_option maxRecDepth 100000 in
theorem size_short (hs : s = bs (b :: r)) (hb : 128 ≤ b.toNat) (hk : b.toNat - baseN b ≤ 55) (hl : r.length ≤ 65536) (w : World) : Calls Tryz.prog 180 #[.string s] w (SizeP (b :: r) w) := by
  have h0 : 0 < s.size := by rw [hs, bs_size]; simp
  have hsz : (s.size : Int) - 1 = (r.length : Int) := by rw [hs, bs_size]; simp
  have hb0 : s[0] = b := by subst hs; rfl
  have hz : ((s.size : Int) == 0) = false := by rw [beq_eq_false_iff_ne]; omega
  have hb1 : ¬ (b.toNat : Int) < 128 := by omega
  have hb9 := b.toNat_lt
  have hw : wrap64 (b.toNat : Int) = (b.toNat : Int) := by unfold wrap64; omega
  by_cases h192 : 192 ≤ b.toNat
  · have hB : 192 = baseN b := by unfold baseN; rw [if_pos h192]
    rw [← hB] at hk
    have hb2 : (192 : Int) ≤ (b.toNat : Int) := by omega
    obtain ⟨k, hk0⟩ : ∃ k, b.toNat - 192 = k := ⟨_, rfl⟩
    have HO := Lib.hid (short_o (r := r) 192 hb hB hk)
    rw [hk0] at HO hk
    have hsub : (b.toNat : Int) - 192 = (k : Int) := by omega
    have hk' : (k : Int) ≤ 55 := by omega
    clear hs hb hB hk h192 hk0
    go_enter Tryz.func180, Tryz.ntmps180
    go_wp2_with fail
    refine size_post 1 k (decide (k ≤ r.length)) rfl rfl rfl rfl ?_
    rw [HO.out]
    by_cases h : k ≤ r.length
    · rw [if_pos h, if_pos (decide_eq_true h)]
    · rw [if_neg h, if_neg (by simp [h])]
  · have hB : 128 = baseN b := by unfold baseN; rw [if_neg h192]
    rw [← hB] at hk
    have hb2 : ¬ (192 : Int) ≤ (b.toNat : Int) := by omega
    obtain ⟨k, hk0⟩ : ∃ k, b.toNat - 128 = k := ⟨_, rfl⟩
    have HO := Lib.hid (short_o (r := r) 128 hb hB hk)
    rw [hk0] at HO hk
    have hsub : (b.toNat : Int) - 128 = (k : Int) := by omega
    have hk' : (k : Int) ≤ 55 := by omega
    clear hs hb hB hk h192 hk0
    go_enter Tryz.func180, Tryz.ntmps180
    go_wp2_with fail
    refine size_post 1 k (decide (k ≤ r.length)) rfl rfl rfl rfl ?_
    rw [HO.out]
    by_cases h : k ≤ r.length
    · rw [if_pos h, if_pos (decide_eq_true h)]
    · rw [if_neg h, if_neg (by simp [h])]
/-- A long one's size: its bytes are there, do not begin with 0, and are a number that is neither small nor too large. -/
def LongOk (m : Nat) (r : List UInt8) : Prop := m ≤ r.length ∧ r[0]? ≠ some 0 ∧ 55 < valN (r.take m) ∧ valN (r.take m) ≤ 65536 ∧ valN (r.take m) ≤ r.length - m
theorem long_many {k m : Nat} (hk : 55 < k) (hm : k - 55 = m) (hm8 : m ≤ 8) (h : m ≤ r.length) (h0 : r[0]? ≠ some 0) (h55 : 55 < valN (r.take m)) (h6 : valN (r.take m) ≤ 65536) : manyL k r = some (valN (r.take m), r.drop m) := by
  have h1 : smallOk ⟨(r.take m).toArray⟩ = true := by
    unfold smallOk
    have : Lib.hasPrefix (r.take m) [0] = false := by
      cases r with
      | nil => simp at h; omega
      | cons c t =>
        cases m with
        | zero => omega
        | succ m =>
          show ((0 : UInt8) == c && List.isPrefixOf [] _) = false
          have : ((0 : UInt8) == c) = false := beq_eq_false_iff_ne.2 fun e => h0 (by rw [← e]; rfl)
          rw [this]; rfl
    rw [this]
    simp [ByteArray.size]
    omega
  have h2 : smallR ⟨(r.take m).toArray⟩ = (valN (r.take m) : Int) := by
    unfold smallR
    rw [if_pos h1]
    exact smallV_val (by rw [List.length_take]; omega)
  unfold manyL
  rw [if_neg (by omega), hm, if_pos h]
  simp only
  rw [if_pos ⟨h1, by rw [h2]; omega, by rw [h2]; omega⟩, h2]
  rfl
theorem many_long {k m n : Nat} {r2 : List UInt8} (hk : 55 < k) (hm : k - 55 = m) (hm8 : m ≤ 8) (h : manyL k r = some (n, r2)) : m ≤ r.length ∧ r[0]? ≠ some 0 ∧ 55 < valN (r.take m) ∧ valN (r.take m) ≤ 65536 := by
  unfold manyL at h
  rw [if_neg (by omega), hm] at h
  split at h
  · rename_i hl
    simp only at h
    split at h
    · rename_i h3
      have h2 : smallR ⟨(r.take m).toArray⟩ = (valN (r.take m) : Int) := by
        unfold smallR
        rw [if_pos h3.1]
        exact smallV_val (by rw [List.length_take]; omega)
      rw [h2] at h3
      refine ⟨hl, fun e => ?_, by omega, by omega⟩
      have h1 := h3.1
      unfold smallOk at h1
      have : Lib.hasPrefix (r.take m) [0] = true := by
        cases r with
        | nil => cases e
        | cons c t =>
          cases m with
          | zero => omega
          | succ m =>
            have hc : c = 0 := by simpa using e
            subst hc
            cases t <;> rfl
      rw [this] at h1
      simp at h1
    · cases h
  · cases h
theorem long_o {B k m : Nat} (hb : 128 ≤ b.toNat) (hB : B = baseN b) (hk0 : b.toNat - B = k) (hk : 55 < k) (hm : k - 55 = m) (hm8 : m ≤ 8) : (LongOk m r → sizeO (b :: r) = some (1 + m, valN (r.take m))) ∧ (¬ LongOk m r → sizeO (b :: r) = none) := by
  rw [sizeO_cons, if_neg (show ¬ b.toNat < 128 by omega), ← hB, hk0]
  constructor
  · rintro ⟨h1, h2, h3, h4, h5⟩
    rw [long_many hk hm hm8 h1 h2 h3 h4]
    simp only
    rw [if_pos (by rw [List.length_drop]; exact h5), List.length_drop]
    congr 2
    omega
  · intro hn
    cases hmm : manyL k r with
    | none => rfl
    | some q =>
      obtain ⟨n, r2⟩ := q
      obtain ⟨h1, h2, h3, h4⟩ := many_long hk hm hm8 hmm
      rw [long_many hk hm hm8 h1 h2 h3 h4] at hmm
      cases hmm
      simp only
      rw [if_neg]
      intro h5
      rw [List.length_drop] at h5
      exact hn ⟨h1, h2, h3, h4, h5⟩
set_option maxRecDepth 100000 in
set_option maxHeartbeats 2000000 in
theorem size_long (hs : s = bs (b :: r)) (hb : 128 ≤ b.toNat) (hk : 55 < b.toNat - baseN b) (hl : r.length ≤ 65536) (w : World) : Calls Tryz.prog 180 #[.string s] w (SizeP (b :: r) w) := by
  have h0 : 0 < s.size := by rw [hs, bs_size]; simp
  have hsz : (s.size : Int) - 1 = (r.length : Int) := by rw [hs, bs_size]; simp
  have hb0 : s[0] = b := by subst hs; rfl
  have hz : ((s.size : Int) == 0) = false := by rw [beq_eq_false_iff_ne]; omega
  have hb1 : ¬ (b.toNat : Int) < 128 := by omega
  have hb9 := b.toNat_lt
  have hw : wrap64 (b.toNat : Int) = (b.toNat : Int) := by unfold wrap64; omega
  by_cases h192 : 192 ≤ b.toNat
  · have hB : 192 = baseN b := by unfold baseN; rw [if_pos h192]
    rw [← hB] at hk
    have hb2 : (192 : Int) ≤ (b.toNat : Int) := by omega
    obtain ⟨k, hk0⟩ : ∃ k, b.toNat - 192 = k := ⟨_, rfl⟩
    rw [hk0] at hk
    obtain ⟨m, hm⟩ : ∃ m, k - 55 = m := ⟨_, rfl⟩
    have hm8 : m ≤ 8 := by omega
    have HO := Lib.hid (long_o (r := r) hb hB hk0 (by omega) hm hm8)
    have hsub : (b.toNat : Int) - 192 = (k : Int) := by omega
    have hk' : ¬ (k : Int) ≤ 55 := by omega
    have hsub2 : (k : Int) - 55 = (m : Int) := by omega
    have hm1 : 1 ≤ m := by omega
    clear hb hB hk h192 hk0 hm
    by_cases hc : (s.size : Int) < 1 + (m : Int)
    · have hno := HO.out.2 fun h => by have := h.1; omega
      have HN := Lib.hid hno
      clear hs hno
      go_enter Tryz.func180, Tryz.ntmps180
      go_wp2_with fail
      exact size_post 0 0 false rfl rfl rfl rfl HN.out.symm
    · have h1s : 1 < s.size := by omega
      have hr0 : ∀ (i : Nat) (hi : i < r.length) (h : 1 + i < s.size), s[1 + i] = r[i] := fun i hi h => by
        subst hs
        rw [bs_get]
        simp [Nat.add_comm 1 i]
      have hr1 : s[1] = r[0]'(by omega) := hr0 0 (by omega) (by omega)
      have hget : r[0]? = some (r[0]'(by omega)) := List.getElem?_eq_getElem (by omega)
      by_cases hz1 : ((s[1].toNat : Int) == 0) = true
      · have hno := HO.out.2 fun h => h.2.1 (by
          rw [hget]
          congr 1
          rw [← hr1]
          rw [beq_iff_eq] at hz1
          exact UInt8.toNat_inj.1 (by have : s[1].toNat = 0 := by omega
                                      rw [this]; rfl))
        have HN := Lib.hid hno
        clear hs hno hr1 hget hr0
        go_enter Tryz.func180, Tryz.ntmps180
        go_wp2_with fail
        exact size_post 0 0 false rfl rfl rfl rfl HN.out.symm
      · have hz2 : ((s[1].toNat : Int) == 0) = false := by simpa using hz1
        have H0 : Hid (r[0]? ≠ some 0) := Lib.hid fun e => by
          rw [hget, ← hr1] at e
          rw [beq_eq_false_iff_ne] at hz2
          refine hz2 ?_
          rw [Option.some.inj e]
          rfl
        have HR := Lib.hid hr0
        have hrl : m ≤ r.length := by omega
        clear hs hr1 hget hr0 hz1
        go_enter Tryz.func180, Tryz.ntmps180
        go_wp2_with fail
        go_loop [8, 9] (fun n i => ∃ j : Nat, i = .int .i64 j ∧ j ≤ m ∧ n = .int .i64 ((valN (r.take j) : Nat) : Int) ∧ valN (r.take j) < 536870912) (fun _ i => m - (intOf i).toNat)
        case atStart => exact ⟨0, rfl, by omega, rfl, by simp [valN]⟩
        case round =>
          obtain ⟨j, rfl, hj, rfl, hjb⟩ := hrel
          by_cases hlt : j < m
          · have HM := Lib.hid (valN_take_le r hj)
            have hjr : j < r.length := by omega
            have hjs : 1 + j < s.size := by omega
            have HX : Hid (valN (r.take (j + 1)) = valN (r.take j) * 256 + s[1 + j].toNat) := Lib.hid (by
              rw [HR.out j hjr hjs, List.take_succ_eq_append_getElem hjr, valN_snoc])
            have hb8 := s[1 + j].toNat_lt
            have hw8 : wrap64 (s[1 + j].toNat : Int) = (s[1 + j].toNat : Int) := by unfold wrap64; omega
            by_cases hbig : (valN (r.take j) : Int) > 1048576
            · have HNO := Lib.hid (HO.out.2 fun h => by have := h.2.2.2.1; have := HM.out; omega)
              go_wp2_with fail
              exact size_post 0 0 false rfl rfl rfl rfl HNO.out.symm
            · have hwj : IntKind.i64.wrap (1 + (j : Int)) = ((1 + j : Nat) : Int) := by rw [IntWalk.i64_in _ (by omega)]; omega
              go_wp2_with fail
              go_round
              case rel => exact ⟨j + 1, by go_num, by omega, by rw [HX.out]; congr 1, by rw [HX.out]; omega⟩
              case measure => simp [intOf]; omega
          · obtain rfl : j = m := by omega
            by_cases h55 : ((valN (r.take j) : Nat) : Int) > 55
            · go_wp2_with fail
              refine size_post (1 + j) (valN (r.take j)) (decide (((valN (r.take j) : Nat) : Int) ≤ (r.length : Int) - (j : Int))) (by simp) rfl rfl rfl ?_
              by_cases hle : ((valN (r.take j) : Nat) : Int) ≤ (r.length : Int) - (j : Int)
              · rw [if_pos (decide_eq_true hle)]
                exact (HO.out.1 ⟨hrl, H0.out, by omega, by omega, by omega⟩).symm
              · rw [if_neg (by simp only [decide_eq_true_eq]; exact hle)]
                exact (HO.out.2 fun h => hle (by have := h.2.2.2.2; omega)).symm
            · have HNO := Lib.hid (HO.out.2 fun h => h55 (by have := h.2.2.1; omega))
              go_wp2_with fail
              exact size_post (1 + j) (valN (r.take j)) false (by simp) rfl rfl rfl HNO.out.symm
  · have hB : 128 = baseN b := by unfold baseN; rw [if_neg h192]
    rw [← hB] at hk
    have hb2 : ¬ (192 : Int) ≤ (b.toNat : Int) := by omega
    obtain ⟨k, hk0⟩ : ∃ k, b.toNat - 128 = k := ⟨_, rfl⟩
    rw [hk0] at hk
    obtain ⟨m, hm⟩ : ∃ m, k - 55 = m := ⟨_, rfl⟩
    have hm8 : m ≤ 8 := by omega
    have HO := Lib.hid (long_o (r := r) hb hB hk0 (by omega) hm hm8)
    have hsub : (b.toNat : Int) - 128 = (k : Int) := by omega
    have hk' : ¬ (k : Int) ≤ 55 := by omega
    have hsub2 : (k : Int) - 55 = (m : Int) := by omega
    have hm1 : 1 ≤ m := by omega
    clear hb hB hk h192 hk0 hm
    by_cases hc : (s.size : Int) < 1 + (m : Int)
    · have hno := HO.out.2 fun h => by have := h.1; omega
      have HN := Lib.hid hno
      clear hs hno
      go_enter Tryz.func180, Tryz.ntmps180
      go_wp2_with fail
      exact size_post 0 0 false rfl rfl rfl rfl HN.out.symm
    · have h1s : 1 < s.size := by omega
      have hr0 : ∀ (i : Nat) (hi : i < r.length) (h : 1 + i < s.size), s[1 + i] = r[i] := fun i hi h => by
        subst hs
        rw [bs_get]
        simp [Nat.add_comm 1 i]
      have hr1 : s[1] = r[0]'(by omega) := hr0 0 (by omega) (by omega)
      have hget : r[0]? = some (r[0]'(by omega)) := List.getElem?_eq_getElem (by omega)
      by_cases hz1 : ((s[1].toNat : Int) == 0) = true
      · have hno := HO.out.2 fun h => h.2.1 (by
          rw [hget]
          congr 1
          rw [← hr1]
          rw [beq_iff_eq] at hz1
          exact UInt8.toNat_inj.1 (by have : s[1].toNat = 0 := by omega
                                      rw [this]; rfl))
        have HN := Lib.hid hno
        clear hs hno hr1 hget hr0
        go_enter Tryz.func180, Tryz.ntmps180
        go_wp2_with fail
        exact size_post 0 0 false rfl rfl rfl rfl HN.out.symm
      · have hz2 : ((s[1].toNat : Int) == 0) = false := by simpa using hz1
        have H0 : Hid (r[0]? ≠ some 0) := Lib.hid fun e => by
          rw [hget, ← hr1] at e
          rw [beq_eq_false_iff_ne] at hz2
          refine hz2 ?_
          rw [Option.some.inj e]
          rfl
        have HR := Lib.hid hr0
        have hrl : m ≤ r.length := by omega
        clear hs hr1 hget hr0 hz1
        go_enter Tryz.func180, Tryz.ntmps180
        go_wp2_with fail
        go_loop [8, 9] (fun n i => ∃ j : Nat, i = .int .i64 j ∧ j ≤ m ∧ n = .int .i64 ((valN (r.take j) : Nat) : Int) ∧ valN (r.take j) < 536870912) (fun _ i => m - (intOf i).toNat)
        case atStart => exact ⟨0, rfl, by omega, rfl, by simp [valN]⟩
        case round =>
          obtain ⟨j, rfl, hj, rfl, hjb⟩ := hrel
          by_cases hlt : j < m
          · have HM := Lib.hid (valN_take_le r hj)
            have hjr : j < r.length := by omega
            have hjs : 1 + j < s.size := by omega
            have HX : Hid (valN (r.take (j + 1)) = valN (r.take j) * 256 + s[1 + j].toNat) := Lib.hid (by
              rw [HR.out j hjr hjs, List.take_succ_eq_append_getElem hjr, valN_snoc])
            have hb8 := s[1 + j].toNat_lt
            have hw8 : wrap64 (s[1 + j].toNat : Int) = (s[1 + j].toNat : Int) := by unfold wrap64; omega
            by_cases hbig : (valN (r.take j) : Int) > 1048576
            · have HNO := Lib.hid (HO.out.2 fun h => by have := h.2.2.2.1; have := HM.out; omega)
              go_wp2_with fail
              exact size_post 0 0 false rfl rfl rfl rfl HNO.out.symm
            · have hwj : IntKind.i64.wrap (1 + (j : Int)) = ((1 + j : Nat) : Int) := by rw [IntWalk.i64_in _ (by omega)]; omega
              go_wp2_with fail
              go_round
              case rel => exact ⟨j + 1, by go_num, by omega, by rw [HX.out]; congr 1, by rw [HX.out]; omega⟩
              case measure => simp [intOf]; omega
          · obtain rfl : j = m := by omega
            by_cases h55 : ((valN (r.take j) : Nat) : Int) > 55
            · go_wp2_with fail
              refine size_post (1 + j) (valN (r.take j)) (decide (((valN (r.take j) : Nat) : Int) ≤ (r.length : Int) - (j : Int))) (by simp) rfl rfl rfl ?_
              by_cases hle : ((valN (r.take j) : Nat) : Int) ≤ (r.length : Int) - (j : Int)
              · rw [if_pos (decide_eq_true hle)]
                exact (HO.out.1 ⟨hrl, H0.out, by omega, by omega, by omega⟩).symm
              · rw [if_neg (by simp only [decide_eq_true_eq]; exact hle)]
                exact (HO.out.2 fun h => hle (by have := h.2.2.2.2; omega)).symm
            · have HNO := Lib.hid (HO.out.2 fun h => h55 (by have := h.2.2.1; omega))
              go_wp2_with fail
              exact size_post (1 + j) (valN (r.take j)) false (by simp) rfl rfl rfl HNO.out.symm
end
theorem size_any (l : List UInt8) (hl : l.length ≤ 65536) (w : World) : Calls Tryz.prog 180 #[.string (bs l)] w (SizeP l w) := by
  cases l with
  | nil => exact size_nil w
  | cons b r =>
    have hl' : r.length ≤ 65536 := by rw [List.length_cons] at hl; omega
    by_cases h : b.toNat < 128
    · exact size_low rfl h w
    · by_cases hk : b.toNat - baseN b ≤ 55
      · exact size_short rfl (by omega) hk hl' w
      · exact size_long rfl (by omega) (by omega) hl' w
end Go.Proofs.YtdnpobjokajigaaGreatDoor

namespace Go.Proofs.YtdnpobjokajigaaGreatDoor
open Go.RowKit Go.Proofs K
set_option linter.unusedVariables false

theorem manyL_drop {f n : Nat} {l r : List UInt8} (h : manyL f l = some (n, r)) : r = l.drop (l.length - r.length) := by
  unfold manyL at h
  split at h
  · cases h; simp
  · split at h
    · rename_i hl
      simp only at h
      split at h
      · cases h
        rw [List.length_drop, show l.length - (l.length - (f - 55)) = f - 55 by omega]
      · cases h
    · cases h
theorem RdI.suffix {d : Nat} {l r : List UInt8} {i : It} (h : RdI d l (some (i, r))) : r = l.drop (l.length - r.length) := by
  cases h with
  | @one _ b r hd hb => simp
  | @text _ b r r2 n hd hb hb2 hm hn ht =>
    have h1 := manyL_drop hm
    have h2 := manyL_le hm
    rw [List.length_drop, List.length_cons, show r.length + 1 - (r2.length - n) = (r.length - r2.length + n) + 1 by omega, List.drop_succ_cons, ← List.drop_drop, ← h1]
  | @list _ b r r2 n l hd hb hm hn h =>
    have h1 := manyL_drop hm
    have h2 := manyL_le hm
    rw [List.length_drop, List.length_cons, show r.length + 1 - (r2.length - n) = (r.length - r2.length + n) + 1 by omega, List.drop_succ_cons, ← List.drop_drop, ← h1]
theorem base_at (b : UInt8) : (192 ≤ b.toNat → baseN b = 192) ∧ (b.toNat < 192 → baseN b = 128) := ⟨fun h => by unfold baseN; rw [if_pos h], fun h => by unfold baseN; rw [if_neg (by omega)]⟩
theorem none_of_size {d : Nat} {l : List UInt8} (h : sizeO l = none) : RdI d l none := by
  cases l with
  | nil => exact .nil
  | cons b r =>
    rw [sizeO_cons] at h
    split at h
    · cases h
    · rename_i hb
      by_cases h192 : 192 ≤ b.toNat
      · rw [(base_at b).1 h192] at h
        split at h
        · rename_i hm; exact .manyL h192 hm
        · rename_i n r2 hm
          split at h
          · cases h
          · rename_i hn; exact .cutL h192 hm (by omega)
      · rw [(base_at b).2 (by omega)] at h
        split at h
        · rename_i hm; exact .many (by omega) (by omega) hm
        · rename_i n r2 hm
          split at h
          · cases h
          · rename_i hn; exact .cut (by omega) (by omega) hm (by omega)
/-- What a size says. -/
theorem size_some {l : List UInt8} {a n : Nat} (h : sizeO l = some (a, n)) : ∃ b r, l = b :: r ∧ ((b.toNat < 128 ∧ a = 0 ∧ n = 1) ∨ (128 ≤ b.toNat ∧ ∃ r2, manyL (b.toNat - baseN b) r = some (n, r2) ∧ n ≤ r2.length ∧ a = 1 + (r.length - r2.length) ∧ (l.drop a).take n = r2.take n ∧ l.drop (a + n) = r2.drop n ∧ a + n + (r2.drop n).length = l.length)) := by
  cases l with
  | nil => cases h
  | cons b r =>
    rw [sizeO_cons] at h
    refine ⟨b, r, rfl, ?_⟩
    split at h
    · rename_i hb
      cases h
      exact .inl ⟨hb, rfl, rfl⟩
    · rename_i hb
      split at h
      · cases h
      · rename_i n' r2 hm
        split at h
        · rename_i hn
          cases h
          have h1 := manyL_drop hm
          have h2 := manyL_le hm
          have h3 : (b :: r).drop (1 + (r.length - r2.length)) = r2 := by
            rw [Nat.add_comm, List.drop_succ_cons]
            exact h1.symm
          refine .inr ⟨by omega, r2, hm, hn, rfl, by rw [h3], by rw [← List.drop_drop, h3], ?_⟩
          rw [List.length_drop, List.length_cons]
          omega
        · cases h
theorem bs_mid (l : List UInt8) (a n : Nat) : (bs l).extract a (a + n) = bs ((l.drop a).take n) := bytes_ext (by simp [bs, List.take_drop])
def zItem : Value := .agg #[.bool false, .string ⟨#[]⟩, .slice none 0 0]
def RTakeQ (d : Nat) (l : List UInt8) (H : Hs) (w : World) (e : Ending) (w' : World) : Prop :=
  (∃ i r x y z H', RdI d l (some (i, r)) ∧ e = .returned (.tuple #[.agg #[x, y, z], .int .i64 ((l.length - r.length : Nat) : Int), .bool true]) ∧ RepL H' [x, y, z] i.d ∧ St H w none_ H' w' []) ∨
  (RdI d l none ∧ e = .returned (.tuple #[zItem, .int .i64 0, .bool false]) ∧ St H w none_ H w' [])
def RTakeOk (N : Nat) : Prop := ∀ (l : List UInt8) (d : Nat) (H : Hs) (w : World), l.length < N → l.length ≤ 65536 → d ≤ 65 → Ag H w → Calls Tryz.prog 139 #[.string (bs l), .int .i64 d] w (RTakeQ d l H w)
theorem szRItem : (Tryz.prog.info? 155).map (·.size) = some 3 := by kernel_rfl
theorem infoRItem : (Tryz.prog.info? 155).map (fun i => (i.zero, i.size, i.bytes)) = some (some (.agg #[.bool false, .string ⟨#[]⟩, .slice none 0 0]), 3, 48) := by kernel_rfl
theorem post_cell3 {H0 H : Hs} {w0 w : World} {X : Nat → Prop} {ps : List Hp} {P : Program} {fn : Func} {R : Ending → World → Prop} {a : Act} {b : Nat} {cs : Array Value} {t : TypeId} {fr : Nat × Nat} (i : Nat) (S : St H0 w0 X H w ps) (hi : ps[i]? = some (blk b (.cells cs t fr))) {p q q2 : Tmp} {ty : TypeId} (hr : fn.results = #[.cell p ty, .tmp q, .tmp q2])
    (hp : a.tmps.getD p undef = .pointer (some ⟨b, 0, none⟩)) (d : TypeDesc) (hu : P.underlying ty = some d) (hd : (match d with | .struct _ | .array _ _ => true | _ => false) = true) (hs : (P.info? ty).map (·.size) = some cs.size)
    (hdf : a.defers = []) (hR : R (.returned (.tuple #[.agg cs, a.tmps.getD q undef, a.tmps.getD q2 undef])) w) : bodyPost P fn R .ret a w := by
  refine bodyPost_ret ?_ hdf hR
  have hp' : a.tmps[p]?.getD undef = .pointer (some ⟨b, 0, none⟩) := by simpa using hp
  simp [results, hr, hp', asAddr, run_loadVar_row w b t ty cs fr d (S.blk_at i hi) hu hd hs]
section
variable {H : Hs} {w : World}
set_option maxRecDepth 100000 in
set_option maxHeartbeats 2000000 in
theorem take_none (l : List UInt8) (d : Nat) (hl : l.length ≤ 65536) (hd2 : d ≤ 65) (hw : Ag H w) (h : 64 < d ∨ sizeO l = none) : Calls Tryz.prog 139 #[.string (bs l), .int .i64 d] w (RTakeQ d l H w) := by
  have HR : Hid (RdI d l none) := Lib.hid (h.elim (fun h => .deep h) none_of_size)
  have HS := Lib.hid ((St.start hw).alloc (.cells #[.bool false, .string ⟨#[]⟩, .slice none 0 0] 155))
  have HSZ := Lib.hid (size_any l hl)
  have H1 := Lib.hid h
  clear h hw
  go_enter Tryz.func139, Tryz.ntmps139
  go_wp2_with fail
  refine (HSZ.out _).mono ?_
  rintro z w1 ⟨rfl, a, n, ok, rfl, ho⟩
  by_cases hdd : 64 < d
  · have h64 : ((d : Int) > 64) = True := eq_true (by omega)
    have hk : ∀ b : Bool, ok = b → True := fun _ _ => trivial
    cases ok
    all_goals
      go_wp2_with (first
        | (refine wpList_store_st (cs := #[.bool false, .string ⟨#[]⟩, .slice none 0 0]) 0 HS.out rfl rfl 155 (.tmp 4) (.tmp 27) rfl rfl rfl szRItem rfl (oneItem _ _ _ _ _) ?_)
        | fail)
      intro w4 S4
      go_wp2_with fail
      exact post_cell3 0 S4 rfl Tryz.results139 rfl _ Tryz.underlying155 rfl szRItem rfl (.inr ⟨HR.out, rfl, S4.drop 0⟩)
  · have hok : ok = false := by
      rcases H1.out with h | h
      · exact absurd h hdd
      · rw [h] at ho
        cases ok
        · rfl
        · cases ho
    subst hok
    go_wp2_with (first
      | (refine wpList_store_st (cs := #[.bool false, .string ⟨#[]⟩, .slice none 0 0]) 0 HS.out rfl rfl 155 (.tmp 4) (.tmp 27) rfl rfl rfl szRItem rfl (oneItem _ _ _ _ _) ?_)
      | fail)
    intro w4 S4
    go_wp2_with fail
    exact post_cell3 0 S4 rfl Tryz.results139 rfl _ Tryz.underlying155 rfl szRItem rfl (.inr ⟨HR.out, rfl, S4.drop 0⟩)
set_option maxRecDepth 100000 in
set_option maxHeartbeats 2000000 in
theorem take_text (b : UInt8) (r : List UInt8) (d : Nat) (hl : (b :: r).length ≤ 65536) (hd : d ≤ 64) (hw : Ag H w) {a n : Nat} (h : sizeO (b :: r) = some (a, n)) (hb : b.toNat < 192) : Calls Tryz.prog 139 #[.string (bs (b :: r)), .int .i64 d] w (RTakeQ d (b :: r) H w) := by
  have HS := Lib.hid ((St.start hw).alloc (.cells #[.bool false, .string ⟨#[]⟩, .slice none 0 0] 155))
  have HSZ := Lib.hid (size_any (b :: r) hl)
  obtain ⟨l, hll⟩ : ∃ l, l = b :: r := ⟨_, rfl⟩
  obtain ⟨b', r', he, hc⟩ := size_some h
  cases he
  rw [← hll] at h hl HSZ hc ⊢
  have hsz : (bs l).size = l.length := bs_size l
  have han : a + n ≤ l.length := by
    rcases hc with ⟨_, rfl, rfl⟩ | ⟨_, r2, _, _, _, _, _, h9⟩
    · rw [hll]; simp
    · omega
  have h0 : 0 < (bs l).size := by rw [hsz, hll]; simp
  have hb0 : (bs l)[0] = b := by subst hll; rfl
  have hd64 : ¬ (d : Int) > 64 := by omega
  have hlt : (b.toNat : Int) < 192 := by omega
  obtain ⟨m, hm⟩ : ∃ m, m = a + n := ⟨_, rfl⟩
  have hbody : (bs l).extract a m = bs ((l.drop a).take n) := by rw [hm]; exact bs_mid l a n
  have hsum : (a : Int) + (n : Int) = (m : Int) := by omega
  have hs1 : (a : Int) ≤ (m : Int) := by omega
  have hs2 : (m : Int) ≤ ((bs l).size : Int) := by omega
  have hw64 : wrap64 (m : Int) = (m : Int) := by unfold wrap64; omega
  have hs3 : a ≤ m := by omega
  have hs4 : m ≤ (bs l).size := by omega
  have HH := Lib.hid (And.intro h (And.intro hc hll))
  have HL := Lib.hid hl
  obtain ⟨body, hbd⟩ : ∃ body, body = (l.drop a).take n := ⟨_, rfl⟩
  rw [← hbd] at hbody
  have hbl : body.length = n := by rw [hbd, List.length_take, List.length_drop]; omega
  -- what it is
  have HBAD : Hid ((a = 1 ∧ n = 1 ∧ ∃ c, body = [c] ∧ c.toNat < 128) → RdI d l none) := Lib.hid (by
    rintro ⟨rfl, rfl, c, hcc, hc8⟩
    rcases hc with ⟨h1, h2, _⟩ | ⟨h1, r2, h2, h3, h4, h5, h6, h7⟩
    · cases h2
    · rw [(base_at b).2 hb] at h2
      have h9 : r2.length = r.length := by have := manyL_le h2; omega
      have hb9 : b.toNat = 129 := by
        by_cases h55 : b.toNat - 128 ≤ 55
        · unfold manyL at h2
          rw [if_pos h55] at h2
          simp only [Option.some.injEq, Prod.mk.injEq] at h2
          omega
        · exfalso
          have h8 := (many_long (m := b.toNat - 128 - 55) (by omega) rfl (by omega) h2).2.2.1
          have h10 := long_many (r := r) (k := b.toNat - 128) (m := b.toNat - 128 - 55) (by omega) rfl (by omega) (many_long (by omega) rfl (by omega) h2).1 (many_long (by omega) rfl (by omega) h2).2.1 h8 (many_long (by omega) rfl (by omega) h2).2.2.2
          rw [h10] at h2
          simp only [Option.some.injEq, Prod.mk.injEq] at h2
          omega
      rw [hll]
      refine .bad hb9 h2 h3 ?_ hc8
      rw [← h5, ← hbd, hcc])
  have HGOOD : Hid (¬ (a = 1 ∧ n = 1 ∧ ∃ c, body = [c] ∧ c.toNat < 128) → ∃ rest, RdI d l (some (.text (bs body), rest)) ∧ m = l.length - rest.length) := Lib.hid (by
    intro hn
    rcases hc with ⟨h1, rfl, rfl⟩ | ⟨h1, r2, h2, h3, h4, h5, h6, h7⟩
    · refine ⟨r, ?_, ?_⟩
      · have : body = [b] := by rw [hbd, hll]; rfl
        rw [this, hll]
        exact .one hd h1
      · rw [hm, hll]; simp
    · refine ⟨r2.drop n, ?_, by rw [hm]; omega⟩
      have hbr : body = r2.take n := by rw [hbd]; exact h5
      rw [hbr, hll]
      rw [(base_at b).2 hb] at h2
      refine .text hd h1 hb h2 h3 ?_
      intro c hcc hc8 h129
      refine hn ⟨?_, ?_, c, by rw [hbr, hcc], hc8⟩
      · unfold manyL at h2
        rw [h129, if_pos (by decide)] at h2
        simp only [Option.some.injEq, Prod.mk.injEq] at h2
        rw [h4, ← h2.2]; omega
      · unfold manyL at h2
        rw [h129, if_pos (by decide)] at h2
        simp only [Option.some.injEq, Prod.mk.injEq] at h2
        omega)
  obtain ⟨bd, hbds⟩ : ∃ bd : ByteArray, bd = bs body := ⟨_, rfl⟩
  rw [← hbds] at hbody
  have HBS := Lib.hid hbds
  clear h hw hl hc hll hbd hm
  go_enter Tryz.func139, Tryz.ntmps139
  go_wp2_with fail
  refine (HSZ.out _).mono ?_
  rintro z w1 ⟨rfl, a', n', ok, rfl, ho⟩
  rw [HH.out.1] at ho
  cases ok with
  | false => cases ho
  | true =>
    cases ho
    by_cases ha1 : a = 1
    · by_cases hn1 : n = 1
      · obtain ⟨c, hcb⟩ : ∃ c, body = [c] := List.length_eq_one_iff.1 (hbl.trans hn1)
        have hbd0 : 0 < bd.size := by rw [hbds, bs_size, hcb]; simp
        have hbdc : bd[0] = c := by subst hbds hcb; rfl
        by_cases hc8 : c.toNat < 128
        · have HR := Lib.hid (HBAD.out ⟨ha1, hn1, c, hcb, hc8⟩)
          have e1 : ((a : Int) == 1) = true := by rw [beq_iff_eq]; omega
          have e2 : ((n : Int) == 1) = true := by rw [beq_iff_eq]; omega
          have e3 : (c.toNat : Int) < 128 := by omega
          clear ha1 hn1 hcb hc8 hbds
          go_wp2_with (first
            | (refine wpList_store_st (cs := #[.bool false, .string ⟨#[]⟩, .slice none 0 0]) 0 HS.out rfl rfl 155 (.tmp 4) (.tmp 48) rfl rfl rfl szRItem rfl (oneItem _ _ _ _ _) ?_)
            | fail)
          intro w4 S4
          go_wp2_with fail
          exact post_cell3 0 S4 rfl Tryz.results139 rfl _ Tryz.underlying155 rfl szRItem rfl (.inr ⟨HR.out, rfl, S4.drop 0⟩)
        · have hg := HGOOD.out (fun h => by obtain ⟨_, _, c', h1, h2⟩ := h; rw [hcb] at h1; cases h1; exact hc8 h2)
          have e1 : ((a : Int) == 1) = true := by rw [beq_iff_eq]; omega
          have e2 : ((n : Int) == 1) = true := by rw [beq_iff_eq]; omega
          have e3 : ¬ (c.toNat : Int) < 128 := by omega
          have HG := Lib.hid hg
          clear ha1 hn1 hcb hc8 hbds hg
          go_wp2_with (first
            | (refine wpList_store_st (cs := #[.bool false, .string bd, .slice none 0 0]) 0 HS.out rfl rfl 155 (.tmp 4) (.tmp 50) rfl rfl rfl szRItem rfl (oneItem _ _ _ _ _) ?_)
            | fail)
          intro w4 S4
          go_wp2_with fail
          obtain ⟨rest, h1, h2⟩ := HG.out
          refine post_cell3 0 S4 rfl Tryz.results139 rfl _ Tryz.underlying155 rfl szRItem rfl (.inl ⟨_, rest, .bool false, .string bd, .slice none 0 0, H, h1, ?_, ?_, S4.drop 0⟩)
          · rw [← h2]; rfl
          · rw [← HBS.out]; unfold It.d; exact .cons (.pl rfl) (.cons (.pl rfl) (.cons (.sl (Nat.le_refl _) (fun _ => rfl) rfl (.inl rfl) .nil) .nil))
      · have hg := HGOOD.out (fun h => hn1 h.2.1)
        have e1 : ((a : Int) == 1) = true := by rw [beq_iff_eq]; omega
        have e2 : ((n : Int) == 1) = false := by rw [beq_eq_false_iff_ne]; omega
        have HG := Lib.hid hg
        clear ha1 hn1 hbds hg
        go_wp2_with (first
          | (refine wpList_store_st (cs := #[.bool false, .string bd, .slice none 0 0]) 0 HS.out rfl rfl 155 (.tmp 4) (.tmp 50) rfl rfl rfl szRItem rfl (oneItem _ _ _ _ _) ?_)
          | fail)
        intro w4 S4
        go_wp2_with fail
        obtain ⟨rest, h1, h2⟩ := HG.out
        refine post_cell3 0 S4 rfl Tryz.results139 rfl _ Tryz.underlying155 rfl szRItem rfl (.inl ⟨_, rest, .bool false, .string bd, .slice none 0 0, H, h1, ?_, ?_, S4.drop 0⟩)
        · rw [← h2]; rfl
        · rw [← HBS.out]; unfold It.d; exact .cons (.pl rfl) (.cons (.pl rfl) (.cons (.sl (Nat.le_refl _) (fun _ => rfl) rfl (.inl rfl) .nil) .nil))
    · have hg := HGOOD.out (fun h => ha1 h.1)
      have e1 : ((a : Int) == 1) = false := by rw [beq_eq_false_iff_ne]; omega
      have HG := Lib.hid hg
      clear ha1 hbds hg
      go_wp2_with (first
        | (refine wpList_store_st (cs := #[.bool false, .string bd, .slice none 0 0]) 0 HS.out rfl rfl 155 (.tmp 4) (.tmp 50) rfl rfl rfl szRItem rfl (oneItem _ _ _ _ _) ?_)
        | fail)
      intro w4 S4
      go_wp2_with fail
      obtain ⟨rest, h1, h2⟩ := HG.out
      refine post_cell3 0 S4 rfl Tryz.results139 rfl _ Tryz.underlying155 rfl szRItem rfl (.inl ⟨_, rest, .bool false, .string bd, .slice none 0 0, H, h1, ?_, ?_, S4.drop 0⟩)
      · rw [← h2]; rfl
      · rw [← HBS.out]; unfold It.d; exact .cons (.pl rfl) (.cons (.pl rfl) (.cons (.sl (Nat.le_refl _) (fun _ => rfl) rfl (.inl rfl) .nil) .nil))
end
end Go.Proofs.YtdnpobjokajigaaGreatDoor
