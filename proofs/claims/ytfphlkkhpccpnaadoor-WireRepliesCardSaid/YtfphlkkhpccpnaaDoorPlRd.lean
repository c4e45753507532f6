/-
  Reading as a function; texts written are read: plain.
-/
import Derived.Test.YtfphlkkhpccpnaaDoorPlNum
import Derived.Test.YtfphlkkhpccpnaaDoorDec
import Derived.Test.YtfphlkkhpccpnaaDoorAsk
namespace Go.Proofs.YtfphlkkhpccpnaaDoor
open Go.RowKit Go.Proofs K

def rdLg (R : List UInt8 → Option (It × List UInt8)) : Nat → List UInt8 → Option (List It)
  | 0, l => if l = [] then some [] else none
  | g + 1, l => if l = [] then some [] else match R l with
    | none => none
    | some (i, r) => (rdLg R g r).map (i :: ·)
def isBad (b : UInt8) (l : List UInt8) : Bool := match l with | [c] => decide (c.toNat < 128) && decide (b.toNat = 129) | _ => false
def rdB (R : List UInt8 → Option (List It)) (d : Nat) : List UInt8 → Option (It × List UInt8)
  | [] => none
  | b :: r =>
    if 64 < d then none
    else if b.toNat < 128 then some (.text ⟨#[b]⟩, r)
    else if b.toNat < 192 then match manyL (b.toNat - 128) r with
      | none => none
      | some (n, r2) => if r2.length < n then none else if isBad b (r2.take n) then none else some (.text ⟨(r2.take n).toArray⟩, r2.drop n)
    else match manyL (b.toNat - 192) r with
      | none => none
      | some (n, r2) => if r2.length < n then none else match R (r2.take n) with
        | none => none
        | some l => some (.list l, r2.drop n)
def rdF : Nat → Nat → List UInt8 → Option (It × List UInt8)
  | 0 => fun _ _ => none
  | f + 1 => fun d l => rdB (fun l' => rdLg (rdF f (d + 1)) l'.length l') d l
theorem rdB_cons (R : List UInt8 → Option (List It)) (d : Nat) (b : UInt8) (r : List UInt8) : rdB R d (b :: r) =
    if 64 < d then none
    else if b.toNat < 128 then some (.text ⟨#[b]⟩, r)
    else if b.toNat < 192 then match manyL (b.toNat - 128) r with
      | none => none
      | some (n, r2) => if r2.length < n then none else if isBad b (r2.take n) then none else some (.text ⟨(r2.take n).toArray⟩, r2.drop n)
    else match manyL (b.toNat - 192) r with
      | none => none
      | some (n, r2) => if r2.length < n then none else match R (r2.take n) with
        | none => none
        | some l => some (.list l, r2.drop n) := rfl
theorem rdF_succ (f d : Nat) (l : List UInt8) : rdF (f + 1) d l = rdB (fun l' => rdLg (rdF f (d + 1)) l'.length l') d l := rfl
theorem rdF_cons (f d : Nat) (b : UInt8) (r : List UInt8) : rdF (f + 1) d (b :: r) = rdB (fun l' => rdLg (rdF f (d + 1)) l'.length l') d (b :: r) := rfl
theorem ite_none {α : Type} {p : Prop} [Decidable p] {o : Option α} (h : o = none) : (if p then none else o) = none := by rw [h]; split <;> rfl
theorem rdLg_of {f d : Nat} (hI : ∀ l o, l.length < f → RdI d l o → rdF f d l = o) : ∀ (g : Nat) (l : List UInt8) (o : Option (List It)), l.length ≤ g → l.length < f → RdL d l o → rdLg (rdF f d) g l = o := by
  intro g
  induction g with
  | zero =>
    intro l o hg hf h
    obtain rfl : l = [] := List.eq_nil_of_length_eq_zero (by omega)
    cases h with
    | nil => rfl
    | bad hl => exact absurd rfl hl
    | step hl => exact absurd rfl hl
  | succ g ih =>
    intro l o hg hf h
    unfold rdLg
    cases h with
    | nil => rfl
    | bad hl h => rw [if_neg hl, hI _ _ hf h]
    | step hl h t =>
      have hs := h.shorter
      rw [if_neg hl, hI _ _ hf h]
      show (rdLg _ g _).map _ = _
      rw [ih _ _ (by omega) (by omega) t]
theorem rdF_of : ∀ (f d : Nat) (l : List UInt8) (o : Option (It × List UInt8)), l.length < f → RdI d l o → rdF f d l = o := by
  intro f
  induction f with
  | zero => intro d l o h; omega
  | succ f ih =>
    intro d l o hf h
    cases h with
    | deep h =>
      cases l with
      | nil => rfl
      | cons b r => rw [rdF_cons, rdB_cons, if_pos h]
    | nil => rfl
    | @one _ b r hd hb => rw [rdF_cons, rdB_cons, if_neg (show ¬ 64 < d by omega), if_pos hb]
    | @many _ b r hb hb2 hm =>
      rw [rdF_cons, rdB_cons]
      refine ite_none ?_
      rw [if_neg (show ¬ b.toNat < 128 by omega), if_pos hb2, hm]
    | @cut _ b r r2 n hb hb2 hm hn =>
      rw [rdF_cons, rdB_cons]
      refine ite_none ?_
      rw [if_neg (show ¬ b.toNat < 128 by omega), if_pos hb2, hm]
      simp only
      rw [if_pos hn]
    | @bad _ b c r r2 n hb hm hn ht hc =>
      rw [rdF_cons, rdB_cons]
      refine ite_none ?_
      rw [if_neg (show ¬ b.toNat < 128 by omega), if_pos (show b.toNat < 192 by omega), hm]
      simp only
      rw [if_neg (show ¬ r2.length < n by omega), ht, if_pos]
      simp [isBad, hc, hb]
    | @text _ b r r2 n hd hb hb2 hm hn ht =>
      rw [rdF_cons, rdB_cons, if_neg (show ¬ 64 < d by omega), if_neg (show ¬ b.toNat < 128 by omega), if_pos hb2, hm]
      simp only
      rw [if_neg (show ¬ r2.length < n by omega), if_neg]
      unfold isBad
      split
      · rename_i c hc
        have := ht c hc
        simp only [Bool.and_eq_true, decide_eq_true_eq]
        exact fun h => this h.1 h.2
      · simp
    | @manyL _ b r hb hm =>
      rw [rdF_cons, rdB_cons]
      refine ite_none ?_
      rw [if_neg (show ¬ b.toNat < 128 by omega), if_neg (show ¬ b.toNat < 192 by omega), hm]
    | @cutL _ b r r2 n hb hm hn =>
      rw [rdF_cons, rdB_cons]
      refine ite_none ?_
      rw [if_neg (show ¬ b.toNat < 128 by omega), if_neg (show ¬ b.toNat < 192 by omega), hm]
      simp only
      rw [if_pos hn]
    | @badL _ b r r2 n hb hm hn h =>
      have h1 := manyL_le hm
      simp only [List.length_cons] at hf
      rw [rdF_cons, rdB_cons]
      refine ite_none ?_
      rw [if_neg (show ¬ b.toNat < 128 by omega), if_neg (show ¬ b.toNat < 192 by omega), hm]
      simp only
      rw [if_neg (show ¬ r2.length < n by omega), rdLg_of (fun l o hl h => ih _ l o hl h) _ _ _ (Nat.le_refl _) (by simp; omega) h]
    | @list _ b r r2 n l hd hb hm hn h =>
      have h1 := manyL_le hm
      simp only [List.length_cons] at hf
      rw [rdF_cons, rdB_cons, if_neg (show ¬ 64 < d by omega), if_neg (show ¬ b.toNat < 128 by omega), if_neg (show ¬ b.toNat < 192 by omega), hm]
      simp only
      rw [if_neg (show ¬ r2.length < n by omega), rdLg_of (fun l o hl h => ih _ l o hl h) _ _ _ (Nat.le_refl _) (by simp; omega) h]
/-- The bytes as one item, wholly. -/
def decF (l : List UInt8) : Option It := if 65536 < l.length then none else match rdF (l.length + 1) 0 l with
  | some (i, []) => some i
  | _ => none
theorem decF_of {l : List UInt8} {o : Option It} (h : DecR l o) : decF l = o := by
  unfold decF
  cases h with
  | long h => rw [if_pos h]
  | bad h hr => rw [if_neg (by omega), rdF_of _ _ _ _ (Nat.lt_succ_self _) hr]
  | more h hr hn =>
    rw [if_neg (by omega), rdF_of _ _ _ _ (Nat.lt_succ_self _) hr]
    rename_i r i
    cases r with
    | nil => exact absurd rfl hn
    | cons => rfl
  | good h hr => rw [if_neg (by omega), rdF_of _ _ _ _ (Nat.lt_succ_self _) hr]
end Go.Proofs.YtfphlkkhpccpnaaDoor
