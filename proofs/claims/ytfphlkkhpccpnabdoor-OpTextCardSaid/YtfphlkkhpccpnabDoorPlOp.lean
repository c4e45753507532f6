/-
  Jumps and texts of code behind other code: plain.
-/
import Derived.Test.YtfphlkkhpccpnabDoorOpText
namespace Go.Proofs.YtfphlkkhpccpnabDoor
open Go.RowKit Go.Proofs K
set_option linter.unusedVariables false

theorem getD_behind (P m : List UInt8) (i : Nat) : (P ++ m).getD (P.length + i) 0 = m.getD i 0 := by
  rw [List.getD_eq_getElem?_getD, List.getD_eq_getElem?_getD, List.getElem?_append_right (by omega), Nat.add_sub_cancel_left]
theorem nextI_behind (P m : List UInt8) (i : Nat) : nextI (P ++ m) (P.length + i) = P.length + nextI m i := by
  unfold nextI
  rw [getD_behind, List.length_append]
  omega
theorem eachL_behind {β γ : Type} (P m : List UInt8) (f : Nat → List β) (g : Nat → List γ) (h : γ → β) (hf : ∀ i, i < m.length → f (P.length + i) = (g i).map h) : ∀ (n i : Nat), m.length - i = n → i ≤ m.length → eachL f (P ++ m) (P.length + i) = (eachL g m i).map h := by
  intro n
  induction n using Nat.strongRecOn with
  | ind n ih =>
    intro i hn hi
    by_cases hlt : i < m.length
    · have h1 := nextI_gt hlt
      have h2 := nextI_le m i
      rw [eachL_step f (show P.length + i < (P ++ m).length by rw [List.length_append]; omega), eachL_step g hlt, nextI_behind, hf i hlt, List.map_append, ih (m.length - nextI m i) (by omega) (nextI m i) rfl h2]
    · obtain rfl : i = m.length := by omega
      have e := eachL_end f (P ++ m)
      rw [List.length_append] at e
      rw [e, eachL_end]
      rfl
theorem jF_behind (P m : List UInt8) (i : Nat) : jF (P ++ m) (P.length + i) = (jF m i).map (fun x => P.length + x) := by
  unfold jF
  rw [getD_behind]
  split <;> rfl
theorem dataL_behind (P m : List UInt8) (i : Nat) : dataL (P ++ m) (P.length + i) = dataL m i := by
  unfold dataL
  rw [nextI_behind, List.take_length_add_append, Nat.add_assoc, ← List.drop_drop, List.drop_left]
theorem tF_behind (P m : List UInt8) (i : Nat) : tF (P ++ m) (P.length + i) = (tF m i).map id := by
  unfold tF textOf
  rw [getD_behind, dataL_behind]
  rfl
/-- Behind a whole instruction: its places, and then those of what follows. -/
theorem each_whole {β : Type} (f : List UInt8 → Nat → List β) (h : Nat → β → β) (hf : ∀ P m i, f (P ++ m) (P.length + i) = (f m i).map (h P.length)) (b : UInt8) (D m : List UInt8) (hD : D.length = pushB8 b) :
    eachL (f (b :: D ++ m)) (b :: D ++ m) 0 = f (b :: D ++ m) 0 ++ (eachL (f m) m 0).map (h (D.length + 1)) := by
  have hl : 0 < (b :: D ++ m).length := by simp
  rw [eachL_step _ hl]
  have hn : nextI (b :: D ++ m) 0 = (b :: D).length + 0 := by
    unfold nextI
    have : (b :: D ++ m).getD 0 0 = b := rfl
    rw [this, ← hD, List.length_append, List.length_cons]
    omega
  rw [hn, eachL_behind (b :: D) m (f (b :: D ++ m)) (f m) (h (b :: D).length) (fun i _ => hf (b :: D) m i) m.length 0 (by omega) (by omega)]
  rfl
theorem jumps_whole (k : Nat) (hk : k ≤ 32) (b : UInt8) (hb : b.toNat = 95 + k) (D m : List UInt8) (hD : D.length = k) : jumpsL (b :: D ++ m) = (jumpsL m).map fun x => k + 1 + x := by
  unfold jumpsL
  rw [each_whole jF (fun n x => n + x) jF_behind b D m (by unfold pushB8; rw [if_neg (by omega)]; omega), hD]
  have : jF (b :: D ++ m) 0 = [] := by
    unfold jF
    rw [if_neg]
    show ¬ b.toNat = 91
    omega
  rw [this]
  rfl
theorem jumps_at (l : List UInt8) : ∀ (n i : Nat), l.length - i = n → ∀ x ∈ eachL (jF l) l i, x < l.length ∧ (l.getD x 0).toNat = 91 := by
  intro n
  induction n using Nat.strongRecOn with
  | ind n ih =>
    intro i hn x hx
    by_cases hlt : i < l.length
    · rw [eachL_step _ hlt, List.mem_append] at hx
      rcases hx with hx | hx
      · unfold jF at hx
        split at hx
        · rename_i h
          simp only [List.mem_singleton] at hx
          subst hx
          exact ⟨hlt, h⟩
        · cases hx
      · have := nextI_gt hlt
        exact ih (l.length - nextI l i) (by omega) (nextI l i) rfl x hx
    · unfold eachL at hx
      rw [show l.length - i = 0 by omega] at hx
      cases hx
theorem texts_whole (b : UInt8) (D m : List UInt8) (hD : D.length = pushB8 b) : textsL (b :: D ++ m) = textOf (b :: D ++ m) 0 :: textsL m := by
  unfold textsL
  rw [each_whole tF (fun _ x => x) tF_behind b D m hD]
  show [textOf (b :: D ++ m) 0] ++ _ = _
  rw [show (fun x : List UInt8 => x) = id from rfl, List.map_id]
  rfl
/-- What is told of a word that is pushed. -/
def insOf (wide : Bool) (x : Nat) : List UInt8 := if wide then [97, UInt8.ofNat (x / 256), UInt8.ofNat (x % 256)] else [96, UInt8.ofNat (x % 256)]
def lowOf (x : Nat) : List UInt8 := [xd (x / 16 % 16), xd (x % 16)]
def wantOf (wide : Bool) (x : Nat) : List UInt8 := if wide then [80, 85, 83, 72, 50, 32, 48, 120] ++ [xd (x / 4096)] ++ [xd (x / 256 % 16)] ++ lowOf x else [80, 85, 83, 72, 49, 32, 48, 120] ++ lowOf x
theorem texts_ins (wide : Bool) (x : Nat) (hx : x < 65536) (m : List UInt8) : textsL (insOf wide x ++ m) = wantOf wide x :: textsL m := by
  cases wide with
  | false =>
    show textsL (96 :: [UInt8.ofNat (x % 256)] ++ m) = _
    rw [texts_whole 96 [UInt8.ofNat (x % 256)] m rfl]
    congr 1
    unfold textOf
    have h1 : (96 :: [UInt8.ofNat (x % 256)] ++ m).getD 0 0 = 96 := rfl
    have h2 : dataL (96 :: [UInt8.ofNat (x % 256)] ++ m) 0 = [UInt8.ofNat (x % 256)] := by
      unfold dataL nextI
      rw [h1]
      have : min (0 + 1 + pushB8 96) (96 :: [UInt8.ofNat (x % 256)] ++ m).length = 2 := by
        rw [List.length_append]
        show min 2 (2 + m.length) = 2
        omega
      rw [this]
      rfl
    rw [h1, h2]
    have h3 : opOf (96 : UInt8).toNat = some (96, [80, 85, 83, 72, 49], 3, 0, 1) := by decide +kernel
    rw [h3]
    show [80, 85, 83, 72, 49] ++ ([32, 48, 120] ++ hexL [UInt8.ofNat (x % 256)]) = [80, 85, 83, 72, 49, 32, 48, 120] ++ lowOf x
    have h4 : (UInt8.ofNat (x % 256)).toNat = x % 256 := by rw [UInt8.toNat_ofNat']; omega
    simp only [hexL, List.flatMap_cons, List.flatMap_nil, h4, lowOf]
    rw [show x % 256 / 16 = x / 16 % 16 by omega, show x % 256 % 16 = x % 16 by omega]
    rfl
  | true =>
    show textsL (97 :: [UInt8.ofNat (x / 256), UInt8.ofNat (x % 256)] ++ m) = _
    rw [texts_whole 97 [UInt8.ofNat (x / 256), UInt8.ofNat (x % 256)] m rfl]
    congr 1
    unfold textOf
    have h1 : (97 :: [UInt8.ofNat (x / 256), UInt8.ofNat (x % 256)] ++ m).getD 0 0 = 97 := rfl
    have h2 : dataL (97 :: [UInt8.ofNat (x / 256), UInt8.ofNat (x % 256)] ++ m) 0 = [UInt8.ofNat (x / 256), UInt8.ofNat (x % 256)] := by
      unfold dataL nextI
      rw [h1]
      have : min (0 + 1 + pushB8 97) (97 :: [UInt8.ofNat (x / 256), UInt8.ofNat (x % 256)] ++ m).length = 3 := by
        rw [List.length_append]
        show min 3 (3 + m.length) = 3
        omega
      rw [this]
      rfl
    rw [h1, h2]
    have h3 : opOf (97 : UInt8).toNat = some (97, [80, 85, 83, 72, 50], 3, 0, 1) := by decide +kernel
    rw [h3]
    show [80, 85, 83, 72, 50] ++ ([32, 48, 120] ++ hexL [UInt8.ofNat (x / 256), UInt8.ofNat (x % 256)]) = [80, 85, 83, 72, 50, 32, 48, 120] ++ [xd (x / 4096)] ++ [xd (x / 256 % 16)] ++ lowOf x
    have h4 : (UInt8.ofNat (x % 256)).toNat = x % 256 := by rw [UInt8.toNat_ofNat']; omega
    have h5 : (UInt8.ofNat (x / 256)).toNat = x / 256 := by rw [UInt8.toNat_ofNat']; omega
    simp only [hexL, List.flatMap_cons, List.flatMap_nil, h4, h5, lowOf]
    rw [show x % 256 / 16 = x / 16 % 16 by omega, show x % 256 % 16 = x % 16 by omega, show x / 256 / 16 = x / 4096 by omega]
    rfl
theorem texts_all (wide : Bool) : ∀ (ws : List Nat), (∀ x ∈ ws, x < 65536) → textsL (ws.flatMap (insOf wide) ++ [1, 12]) = ws.map (wantOf wide) ++ [[65, 68, 68], [63, 48, 99]]
  | [], _ => by cases wide <;> decide +kernel
  | x :: ws, h => by
    rw [List.flatMap_cons, List.append_assoc, texts_ins wide x (h x (by simp)), texts_all wide ws fun y hy => h y (by simp [hy])]
    rfl
end Go.Proofs.YtfphlkkhpccpnabDoor
