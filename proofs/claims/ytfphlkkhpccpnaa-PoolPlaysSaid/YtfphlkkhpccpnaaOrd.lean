/-
  The order of the pool's list: it is strict, and total but for equal keys.
-/
import Derived.Test.YtfphlkkhpccpnaaCmp
import Derived.Shelf.SlSortCmp.WholeK
namespace Go.Proofs.Ytfphlkkhpccpnaa
open Go.RowKit Go.Proofs K

theorem bl_irrefl : ∀ (x : List UInt8), Op.bytesLess x x = false
  | [] => rfl
  | a :: x => by simp [Op.bytesLess, bl_irrefl x]
theorem bl_trans : ∀ (x y z : List UInt8), Op.bytesLess x y = true → Op.bytesLess y z = true → Op.bytesLess x z = true
  | _, [], _, h, _ => by simp [Op.bytesLess] at h
  | _, _ :: _, [], _, h => by simp [Op.bytesLess] at h
  | [], _ :: _, _ :: _, _, _ => rfl
  | a :: x, b :: y, c :: z, h, k => by
    simp only [Op.bytesLess, Bool.or_eq_true, Bool.and_eq_true, decide_eq_true_eq, beq_iff_eq] at h k ⊢
    rcases h with h | ⟨rfl, h⟩
    · rcases k with k | ⟨rfl, _⟩
      · exact .inl (UInt8.lt_trans h k)
      · exact .inl h
    · rcases k with k | ⟨rfl, k⟩
      · exact .inl k
      · exact .inr ⟨rfl, bl_trans x y z h k⟩
theorem bl_total : ∀ (x y : List UInt8), Op.bytesLess x y = false → Op.bytesLess y x = false → x = y
  | [], [], _, _ => rfl
  | [], _ :: _, h, _ => by simp [Op.bytesLess] at h
  | _ :: _, [], _, h => by simp [Op.bytesLess] at h
  | a :: x, b :: y, h, k => by
    simp only [Op.bytesLess, Bool.or_eq_false_iff, decide_eq_false_iff_not, Bool.and_eq_false_iff, beq_eq_false_iff_ne] at h k
    have e : a = b := UInt8.le_antisymm (UInt8.not_lt.1 k.1) (UInt8.not_lt.1 h.1)
    subst e
    rw [bl_total x y (h.2.resolve_left (fun h => h rfl)) (k.2.resolve_left (fun h => h rfl))]

theorem list_inj {x y : ByteArray} (h : x.toList = y.toList) : x = y := by
  rw [ByteArray.toList_eq, ByteArray.toList_eq] at h
  exact ByteArray.ext (Array.toList_inj.1 h)

/-- x stands ahead of y. -/
def ltT (x y : TxS) : Prop := ltB x.frm y.frm = true ∨ (x.frm = y.frm ∧ x.nonce < y.nonce)
theorem ltB_irrefl (x : ByteArray) : ltB x x = false := bl_irrefl _
theorem ltB_asym {x y : ByteArray} (h : ltB x y = true) : ltB y x = false := by
  cases hc : ltB y x with
  | false => rfl
  | true => exact absurd (bl_trans _ _ _ h hc) (by rw [bl_irrefl]; decide)
theorem cmpT_neg (x y : TxS) : cmpT x y < 0 ↔ ltT x y := by
  unfold cmpT orI cmpB cmpI ltT
  cases h : ltB x.frm y.frm with
  | true => simp
  | false =>
    by_cases e : x.frm = y.frm
    · rw [e]
      by_cases h1 : x.nonce < y.nonce
      · simp [h1]
      · by_cases h2 : x.nonce > y.nonce <;> simp [h1, h2]
    · have : ¬ (x.frm.toList = y.frm.toList) := fun h => e (list_inj h)
      simp [this, e]
theorem ltT_irrefl (x : TxS) : ¬ ltT x x := by
  rintro (h | ⟨_, h⟩)
  · rw [ltB_irrefl] at h; cases h
  · omega
theorem ltT_trans {x y z : TxS} (h : ltT x y) (k : ltT y z) : ltT x z := by
  rcases h with h | ⟨e, h⟩
  · rcases k with k | ⟨e, k⟩
    · exact .inl (bl_trans _ _ _ h k)
    · exact .inl (by rw [← e]; exact h)
  · rcases k with k | ⟨e', k⟩
    · exact .inl (by rw [e]; exact k)
    · exact .inr ⟨e.trans e', by omega⟩
theorem ltT_tri (x y : TxS) : ltT x y ∨ (x.frm = y.frm ∧ x.nonce = y.nonce) ∨ ltT y x := by
  unfold ltT
  cases h : ltB x.frm y.frm with
  | true => exact .inl (.inl rfl)
  | false =>
    cases k : ltB y.frm x.frm with
    | true => exact .inr (.inr (.inl rfl))
    | false =>
      have e : x.frm = y.frm := list_inj (bl_total _ _ h k)
      rcases Int.lt_trichotomy x.nonce y.nonce with h | h | h
      · exact .inl (.inr ⟨e, h⟩)
      · exact .inr (.inl ⟨e, h⟩)
      · exact .inr (.inr (.inr ⟨e.symm, h⟩))
theorem ltT_ntrans {x y z : TxS} (h : ¬ ltT x y) (k : ¬ ltT y z) : ¬ ltT x z := by
  intro hxz
  rcases ltT_tri x y with h1 | ⟨e1, e2⟩ | h1
  · exact h h1
  · refine k ?_
    unfold ltT at hxz ⊢
    rw [← e1, ← e2]
    exact hxz
  · exact k (ltT_trans h1 hxz)

/-- What is sorted: a transaction, and where its accesses lie. -/
abbrev El := TxS × (Option Addr × Nat × Nat)
instance : Inhabited El := ⟨(tx0, none, 0, 0)⟩
def El.sl (x : El) : Value := .slice x.2.1 x.2.2.1 x.2.2.2
def encEl (x : El) : List Value := (x.1.cells x.sl).toList
def cfEl (x y : El) : Int := cmpT x.1 y.1
theorem ltEl (x y : El) : ltOf cfEl x y = true ↔ ltT x.1 y.1 := by
  unfold ltOf cfEl
  rw [decide_eq_true_eq, cmpT_neg]
theorem ltEl_not (x y : El) : ltOf cfEl x y = false ↔ ¬ ltT x.1 y.1 := by
  rw [← ltEl]
  simp
theorem swoEl : Go.Sort.SWO (ltOf cfEl) where
  irrefl x := (ltEl_not x x).2 (ltT_irrefl x.1)
  trans x y z h k := (ltEl x z).2 (ltT_trans ((ltEl x y).1 h) ((ltEl y z).1 k))
  ntrans x y z h k := (ltEl_not x z).2 (ltT_ntrans ((ltEl_not x y).1 h) ((ltEl_not y z).1 k))
theorem encEl_length (x : El) : (encEl x).length = 19 := rfl
theorem encEl_one (x : El) : ∀ v ∈ encEl x, v.oneCell' = true := by
  intro v hv
  simp only [encEl, TxS.cells, El.sl, List.mem_cons, List.not_mem_nil, or_false] at hv
  rcases hv with rfl | rfl | rfl | rfl | rfl | rfl | rfl | rfl | rfl | rfl | rfl | rfl | rfl | rfl | rfl | rfl | rfl | rfl | rfl <;> rfl
theorem cmpLaysEl (blk off size : Nat) (w : World) : CmpLays Try.prog 20 #[] encEl 19 cfEl blk off size w := by
  intro m os dk _ x y
  refine (cmpT_any x.1 y.1 x.sl y.sl _).mono ?_
  rintro e w' ⟨rfl, p, rfl⟩
  exact ⟨rfl, p.n, p.os, rfl⟩
end Go.Proofs.Ytfphlkkhpccpnaa
