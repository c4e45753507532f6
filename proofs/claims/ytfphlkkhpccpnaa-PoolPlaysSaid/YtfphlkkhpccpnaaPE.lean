/-
  The document's own encoding, for the pool.
-/
import Derived.Test.YtfphlkkhpccpnaaK
import Derived.Test.YtfphlkkhpccpnaaMake
import Derived.Test.YtfphlkkhpccpnaaArg
import Derived.Test.YtfphlkkhpccpnaaProg
import Derived.KernelRfl
import Derived.Outline
import Derived.Deep.LoopGhost
import Derived.Laws.BytesArg
import Derived.RegionTactic
import Derived.BigRegion
import Derived.Lib.Builder
import Derived.Lib.AppendStr
import Derived.Lib.UnsafeStr
import Derived.Laws.Externs
import Derived.Deep.RegionWith
import Derived.Deep.RegionHeld3
import Derived.Laws.StructEq
import Derived.Lib.ConvBytes
import Derived.Laws.Closers25b
import Derived.Laws.Bits64b
import Derived.Deep.RegionLaw
import Derived.IntWalk
import Derived.Tactics2
import Derived.Defers
import Derived.Recover
import Derived.Laws.Pointers
import Derived.Deep.MidRow
import Derived.Lib.Strings
import Derived.Lib.TrimByte
import Derived.Laws.Strings3
namespace Go.Proofs.Ytfphlkkhpccpnaa
open Go.RowKit Go.Proofs K
/-- A value is handed back, all old memory is as it was. -/
def RetV (v : Value) (w : World) (e : Ending) (w' : World) : Prop := e = .returned v ∧ Below w.heap.size w w'
end Go.Proofs.Ytfphlkkhpccpnaa
namespace Go.Proofs.Ytfphlkkhpccpnaa
open Go.RowKit Go.Proofs K
/-- A word's part of 64 bits, the lowest first; its byte i, the lowest first. -/
def lim (a b c d : Int) (k : Nat) : Int := match k with | 0 => d | 1 => c | 2 => b | 3 => a | _ => 0
def wbyte (a b c d : Int) (i : Nat) : Int := lim a b c d (i / 8) / 2 ^ (i % 8 * 8) % 256
def W64 (a : Int) : Prop := 0 ≤ a ∧ a < 18446744073709551616
/-- A word's bytes, the highest first. -/
def wordL (a b c d : Int) : List Int := (List.range 32).map fun j => wbyte a b c d (31 - j)
def wordS (a b c d : Int) : ByteArray := strOfNums (wordL a b c d)
theorem wordL_at (a b c d : Int) {j : Nat} (h : j < 32) : (wordL a b c d).getD j 0 = wbyte a b c d (31 - j) := by simp [wordL, h]
end Go.Proofs.Ytfphlkkhpccpnaa
namespace Go.Proofs.Ytfphlkkhpccpnaa
open Go.RowKit Go.Proofs K
def nbyte (n : Int) (i : Nat) : Int := n / 2 ^ (8 * i) % 256
/-- A number's eight bytes, the highest first; those of them that count. -/
def nbL (n : Int) : List Int := (List.range 8).map fun j => nbyte n (7 - j)
def nbS (n : Int) : ByteArray := strOfNums (nbL n)
def numL (n : Int) : List UInt8 := Lib.trimLeftB (nbS n).data.toList 0
def numS (n : Int) : ByteArray := ⟨(numL n).toArray⟩
end Go.Proofs.Ytfphlkkhpccpnaa
namespace Go.Proofs.Ytfphlkkhpccpnaa
open Go.RowKit Go.Proofs K
theorem numL_len (n : Int) : (numL n).length ≤ 8 := by
  unfold numL Lib.trimLeftB
  exact Nat.le_trans (List.dropWhile_sublist _).length_le (by simp [nbS, strOfNums, nbL])
/-- What stands ahead of n bytes. -/
def aheadL (base n : Nat) : List UInt8 := if n ≤ 55 then [UInt8.ofNat (base + n)] else UInt8.ofNat (base + 55 + (numL (n : Int)).length) :: numL (n : Int)
def aheadS (base n : Nat) : ByteArray := ⟨(aheadL base n).toArray⟩
theorem bytes_ext {a b : ByteArray} (h : a.data.toList = b.data.toList) : a = b := ByteArray.ext (Array.toList_inj.1 h)
theorem data_append (a b : ByteArray) : (a ++ b).data.toList = a.data.toList ++ b.data.toList := by
  rw [ByteArray.data_append, Array.toList_append]
theorem cat_one (x : Int) (n : Int) : strOfNums [x] ++ numS n = ⟨(UInt8.ofNat x.toNat :: numL n).toArray⟩ := bytes_ext (by rw [data_append]; rfl)
/-- An item: a text, or a list. -/
inductive It where
  | text (s : ByteArray)
  | list (l : List It)
mutual
def It.d : It → List D
  | .text s => [.v (.bool false), .v (.string s), .sl 3 0 []]
  | .list l => [.v (.bool true), .v (.string ⟨#[]⟩), .sl 3 l.length (itsD l)]
def itsD : List It → List D
  | [] => []
  | i :: l => i.d ++ itsD l
end
theorem It.d_length (i : It) : i.d.length = 3 := by cases i <;> simp [It.d]
theorem itsD_flat : ∀ l : List It, itsD l = l.flatMap It.d
  | [] => by simp [itsD]
  | i :: l => by rw [itsD, List.flatMap_cons, itsD_flat l]
/-- Its bytes. -/
def textL (s : ByteArray) : List UInt8 := match s.data.toList with | [c] => if c < 128 then [c] else aheadL 128 1 ++ [c] | l => aheadL 128 l.length ++ l
mutual
def It.enc : It → List UInt8
  | .text s => textL s
  | .list l => aheadL 192 (encL l).length ++ encL l
def encL : List It → List UInt8
  | [] => []
  | i :: l => i.enc ++ encL l
end
theorem encL_flat : ∀ l : List It, encL l = l.flatMap It.enc
  | [] => by simp [encL]
  | i :: l => by rw [encL, List.flatMap_cons, encL_flat l]
theorem encL_take (l : List It) {k : Nat} (h : k < l.length) : encL (l.take (k + 1)) = encL (l.take k) ++ l[k].enc := by
  rw [encL_flat, encL_flat, List.take_succ_eq_append_getElem h, List.flatMap_append]
  simp
theorem encL_take_le (l : List It) (k : Nat) : (encL (l.take k)).length ≤ (encL l).length := by
  have h : encL l = encL (l.take k) ++ encL (l.drop k) := by rw [encL_flat, encL_flat, encL_flat, ← List.flatMap_append, List.take_append_drop]
  rw [h, List.length_append]
  omega
/-- What a list's k-th is, in memory. -/
theorem its_at {H : Hs} {cs : List Value} {l : List It} (h : RepL H cs (itsD l)) {k : Nat} (hk : k < l.length) : ∃ x y z, cs[k * 3]? = some x ∧ cs[k * 3 + 1]? = some y ∧ cs[k * 3 + 2]? = some z ∧ RepL H [x, y, z] l[k].d := by
  rw [itsD_flat] at h
  have g : ∀ {j : Nat} {d : D}, l[k].d[j]? = some d → ∃ x, cs[k * 3 + j]? = some x ∧ RepV H x d := fun {j d} hd => h.get (by
    rw [flat_get It.d_length (List.getElem?_eq_getElem hk) (by have := (List.getElem?_eq_some_iff.1 hd).1; rw [It.d_length] at this; exact this)]
    exact hd)
  obtain ⟨d0, d1, d2, hd⟩ : ∃ d0 d1 d2, l[k].d = [d0, d1, d2] := by
    cases l[k] with
    | text s => exact ⟨_, _, _, rfl⟩
    | list l => exact ⟨_, _, _, rfl⟩
  rw [hd] at g ⊢
  obtain ⟨x, hx, rx⟩ := g (j := 0) rfl
  obtain ⟨y, hy, ry⟩ := g (j := 1) rfl
  obtain ⟨z, hz, rz⟩ := g (j := 2) rfl
  exact ⟨x, y, z, hx, hy, hz, .cons rx (.cons ry (.cons rz .nil))⟩
theorem it_cells {H : Hs} {x y z : Value} : ∀ {i : It}, RepL H [x, y, z] i.d → ∃ p s A n c, x = .bool p ∧ y = .string s ∧ z = .slice A n c
  | .text s, h => by
    obtain ⟨_, e, h⟩ := RepL.pl_inv h
    cases e
    obtain ⟨_, e, h⟩ := RepL.pl_inv h
    cases e
    obtain ⟨_, _, e, h, _⟩ := h.cons_inv
    cases e
    obtain ⟨A, c, _, rfl, _⟩ := h.sl_inv
    exact ⟨_, _, _, _, _, rfl, rfl, rfl⟩
  | .list l, h => by
    obtain ⟨_, e, h⟩ := RepL.pl_inv h
    cases e
    obtain ⟨_, e, h⟩ := RepL.pl_inv h
    cases e
    obtain ⟨_, _, e, h, _⟩ := h.cons_inv
    cases e
    obtain ⟨A, c, _, rfl, _⟩ := h.sl_inv
    exact ⟨_, _, _, _, _, rfl, rfl, rfl⟩
end Go.Proofs.Ytfphlkkhpccpnaa
namespace Go.Proofs.Ytfphlkkhpccpnaa
open Go.RowKit Go.Proofs K
theorem text_cells {H : Hs} {x y z : Value} {s : ByteArray} (h : RepL H [x, y, z] (It.text s).d) : ∃ A c, x = .bool false ∧ y = .string s ∧ z = .slice A 0 c := by
  obtain ⟨_, e, h⟩ := RepL.pl_inv h
  cases e
  obtain ⟨_, e, h⟩ := RepL.pl_inv h
  cases e
  obtain ⟨_, _, e, h, _⟩ := h.cons_inv
  cases e
  obtain ⟨A, c, _, rfl, _⟩ := h.sl_inv
  exact ⟨A, c, rfl, rfl, rfl⟩
theorem list_cells {H : Hs} {x y z : Value} {l : List It} (h : RepL H [x, y, z] (It.list l).d) : ∃ A c, x = .bool true ∧ y = .string ⟨#[]⟩ ∧ z = .slice A l.length c ∧ RepV H (.slice A l.length c) (.sl 3 l.length (itsD l)) := by
  obtain ⟨_, e, h⟩ := RepL.pl_inv h
  cases e
  obtain ⟨_, e, h⟩ := RepL.pl_inv h
  cases e
  obtain ⟨_, _, e, h, _⟩ := h.cons_inv
  cases e
  obtain ⟨A, c, _, rfl, _⟩ := h.sl_inv
  exact ⟨A, c, rfl, rfl, rfl, h⟩
/-- The two ways of a text. -/
theorem textL_one {s : ByteArray} (h : s.size = 1) (h2 : s[0].toNat < 128) : textL s = s.data.toList := by
  obtain ⟨⟨l⟩⟩ := s
  match l, h with
  | [c], _ => 
    have : c < 128 := h2
    simp [textL, this]
theorem textL_big {s : ByteArray} (h : s.size = 1) (h2 : ¬ s[0].toNat < 128) : textL s = aheadL 128 1 ++ s.data.toList := by
  obtain ⟨⟨l⟩⟩ := s
  match l, h with
  | [c], _ => 
    have : ¬ c < 128 := h2
    simp [textL, this]
theorem textL_other {s : ByteArray} (h : s.size ≠ 1) : textL s = aheadL 128 s.size ++ s.data.toList := by
  obtain ⟨⟨l⟩⟩ := s
  match l, h with
  | [], _ => rfl
  | [c], h => exact absurd rfl h
  | a :: b :: l, _ => rfl
theorem aheadL_len (base n : Nat) : (aheadL base n).length ≤ 9 := by
  unfold aheadL
  split
  · simp
  · have := numL_len (n : Int)
    simp
    omega
theorem aheadS_size (base n : Nat) : (aheadS base n).size = (aheadL base n).length := by simp [aheadS, ByteArray.size]
end Go.Proofs.Ytfphlkkhpccpnaa
namespace Go.Proofs.Ytfphlkkhpccpnaa
open Go.RowKit Go.Proofs K
mutual
/-- An item of which each list is short. -/
def It.short : It → Prop
  | .text _ => True
  | .list l => l.length ≤ 1099511627776 ∧ shortL l
def shortL : List It → Prop
  | [] => True
  | i :: l => i.short ∧ shortL l
end
def It.bytes (i : It) : ByteArray := ⟨i.enc.toArray⟩
end Go.Proofs.Ytfphlkkhpccpnaa
namespace Go.Proofs.Ytfphlkkhpccpnaa
open Go.RowKit Go.Proofs K
theorem oneItem (p : Bool) (s : ByteArray) (A : Option Addr) (n c : Nat) : (#[.bool p, .string s, .slice A n c] : Array Value).all (·.oneCell') = true := by simp [Value.oneCell']
end Go.Proofs.Ytfphlkkhpccpnaa
namespace Go.Proofs.Ytfphlkkhpccpnaa
open Go.RowKit Go.Proofs K
/-- The number that bytes are. -/
def sstep (n : Int) (b : UInt8) : Int := bits BinOp.or IntKind.u64 (IntKind.u64.wrap (n * 256)) (IntKind.u64.wrap (b.toNat : Int))
def smallV (l : List UInt8) : Int := l.foldl sstep 0
/-- What Small tells of a text. -/
def smallOk (s : ByteArray) : Bool := decide (s.size ≤ 8) && !Lib.hasPrefix s.data.toList [0]
def smallR (s : ByteArray) : Int := if smallOk s then smallV s.data.toList else 0
section
variable {H0 H : Hs} {w0 w : World} {X : Nat → Prop} {ps : List Hp} {p : Nat} {s : ByteArray}
/-- How many bytes there are, behind a first one: none: it throws. -/
def manyL (f : Nat) (l : List UInt8) : Option (Nat × List UInt8) :=
  if f ≤ 55 then some (f, l)
  else if f - 55 ≤ l.length then
    let t : ByteArray := ⟨(l.take (f - 55)).toArray⟩
    if smallOk t = true ∧ 55 < smallR t ∧ smallR t ≤ 65536 then some ((smallR t).toNat, l.drop (f - 55)) else none
  else none
end
end Go.Proofs.Ytfphlkkhpccpnaa
namespace Go.Proofs.Ytfphlkkhpccpnaa
open Go.RowKit Go.Proofs K
/-- The value of bytes, the highest first. -/
def valN (l : List UInt8) : Nat := l.foldl (fun n b => n * 256 + b.toNat) 0
theorem valN_zero : ∀ (l : List UInt8), valN (l.dropWhile (· == 0)) = valN l
  | [] => rfl
  | b :: l => by
    rw [List.dropWhile_cons]
    split
    · rename_i h
      rw [valN_zero l]
      have h' : b = 0 := by simpa using h
      subst h'
      rfl
    · rfl
theorem nbS_list (n : Int) : (nbS n).data.toList = (nbL n).map fun x => UInt8.ofNat x.toNat := by simp [nbS, strOfNums]
theorem valN_nb {n : Nat} (h : n < 18446744073709551616) : valN (nbS (n : Int)).data.toList = n := by
  have e : ∀ x : Nat, (UInt8.ofNat ((x : Int) % 256).toNat).toNat = x % 256 := fun x => by
    rw [UInt8.toNat_ofNat']
    omega
  have q : ∀ i : Nat, ((n : Int) / 2 ^ (8 * i)) = ((n / 2 ^ (8 * i) : Nat) : Int) := fun i => by simp
  rw [nbS_list]
  simp only [nbL, List.map_map, valN, List.foldl_map, nbyte, q, Function.comp_def, e]
  simp [List.range_succ]
  omega
/-- A number's bytes are read as the number. -/
theorem valN_num {n : Nat} (h : n < 18446744073709551616) : valN (numL (n : Int)) = n := by
  unfold numL Lib.trimLeftB
  rw [valN_zero, valN_nb h]
theorem dropWhile_head {l : List UInt8} : Lib.hasPrefix (l.dropWhile (· == 0)) [0] = false := by
  induction l with
  | nil => rfl
  | cons b l ih =>
    rw [List.dropWhile_cons]
    split
    · exact ih
    · rename_i h
      show ((0 : UInt8) == b && List.isPrefixOf [] l) = false
      have h' : ((0 : UInt8) == b) = false := by
        rw [beq_eq_false_iff_ne]
        intro e
        exact h (by rw [← e]; exact beq_self_eq_true _)
      rw [h']
      rfl
end Go.Proofs.Ytfphlkkhpccpnaa
namespace Go.Proofs.Ytfphlkkhpccpnaa.K
open Go.RowKit
end Go.Proofs.Ytfphlkkhpccpnaa.K
namespace Go.Proofs.Ytfphlkkhpccpnaa
open Go.RowKit Go.Proofs K
mutual
/-- Of bytes an item is read, and what is left; or none. -/
inductive RdI : Nat → List UInt8 → Option (It × List UInt8) → Prop
  | deep {d : Nat} {l : List UInt8} (h : 64 < d) : RdI d l none
  | nil {d : Nat} : RdI d [] none
  | one {d : Nat} {b : UInt8} {r : List UInt8} (hd : d ≤ 64) (hb : b.toNat < 128) : RdI d (b :: r) (some (.text ⟨#[b]⟩, r))
  | many {d : Nat} {b : UInt8} {r : List UInt8} (hb : 128 ≤ b.toNat) (hb2 : b.toNat < 192) (hm : manyL (b.toNat - 128) r = none) : RdI d (b :: r) none
  | cut {d : Nat} {b : UInt8} {r r2 : List UInt8} {n : Nat} (hb : 128 ≤ b.toNat) (hb2 : b.toNat < 192) (hm : manyL (b.toNat - 128) r = some (n, r2)) (hn : r2.length < n) : RdI d (b :: r) none
  | bad {d : Nat} {b c : UInt8} {r r2 : List UInt8} {n : Nat} (hb : b.toNat = 129) (hm : manyL (b.toNat - 128) r = some (n, r2)) (hn : n ≤ r2.length) (ht : r2.take n = [c]) (hc : c.toNat < 128) : RdI d (b :: r) none
  | text {d : Nat} {b : UInt8} {r r2 : List UInt8} {n : Nat} (hd : d ≤ 64) (hb : 128 ≤ b.toNat) (hb2 : b.toNat < 192) (hm : manyL (b.toNat - 128) r = some (n, r2)) (hn : n ≤ r2.length)
      (ht : ∀ c, r2.take n = [c] → c.toNat < 128 → b.toNat ≠ 129) : RdI d (b :: r) (some (.text ⟨(r2.take n).toArray⟩, r2.drop n))
  | manyL {d : Nat} {b : UInt8} {r : List UInt8} (hb : 192 ≤ b.toNat) (hm : manyL (b.toNat - 192) r = none) : RdI d (b :: r) none
  | cutL {d : Nat} {b : UInt8} {r r2 : List UInt8} {n : Nat} (hb : 192 ≤ b.toNat) (hm : manyL (b.toNat - 192) r = some (n, r2)) (hn : r2.length < n) : RdI d (b :: r) none
  | badL {d : Nat} {b : UInt8} {r r2 : List UInt8} {n : Nat} (hb : 192 ≤ b.toNat) (hm : manyL (b.toNat - 192) r = some (n, r2)) (hn : n ≤ r2.length) (h : RdL (d + 1) (r2.take n) none) : RdI d (b :: r) none
  | list {d : Nat} {b : UInt8} {r r2 : List UInt8} {n : Nat} {l : List It} (hd : d ≤ 64) (hb : 192 ≤ b.toNat) (hm : manyL (b.toNat - 192) r = some (n, r2)) (hn : n ≤ r2.length) (h : RdL (d + 1) (r2.take n) (some l)) : RdI d (b :: r) (some (.list l, r2.drop n))
inductive RdL : Nat → List UInt8 → Option (List It) → Prop
  | nil {d : Nat} : RdL d [] (some [])
  | bad {d : Nat} {l : List UInt8} (hl : l ≠ []) (h : RdI d l none) : RdL d l none
  | step {d : Nat} {l r : List UInt8} {i : It} {o : Option (List It)} (hl : l ≠ []) (h : RdI d l (some (i, r))) (t : RdL d r o) : RdL d l (o.map (i :: ·))
end
def bs (l : List UInt8) : ByteArray := ⟨l.toArray⟩
theorem bs_size (l : List UInt8) : (bs l).size = l.length := by simp [bs, ByteArray.size]
end Go.Proofs.Ytfphlkkhpccpnaa
namespace Go.Proofs.Ytfphlkkhpccpnaa
open Go.RowKit Go.Proofs K
theorem retFrom {P : Program} {f : FuncId} {args : Array Value} {v : Value} {W w : World} (hb : Below W.heap.size W w) (h : Calls P f args w (RetV v w)) : Calls P f args w (RetV v W) :=
  h.mono fun _ _ ⟨a, b⟩ => ⟨a, hb.trans (b.mono hb.size)⟩
/-- Rows of items that are texts. -/
def textC (s : ByteArray) : List Value := [.bool false, .string s, .slice none 0 0]
def textsC (l : List ByteArray) : List Value := l.flatMap textC
theorem texts_rep (H : Hs) : ∀ l : List ByteArray, RepL H (textsC l) (itsD (l.map It.text))
  | [] => by
    unfold textsC itsD
    exact .nil
  | s :: l => by
    rw [textsC, List.flatMap_cons, List.map_cons, itsD]
    refine RepL.append ?_ (texts_rep H l)
    unfold It.d
    exact .cons (.pl rfl) (.cons (.pl rfl) (.cons (.sl (Nat.le_refl _) (fun _ => rfl) rfl (.inl rfl) .nil) .nil))
end Go.Proofs.Ytfphlkkhpccpnaa
namespace Go.Proofs.Ytfphlkkhpccpnaa
open Go.RowKit Go.Proofs K
theorem sizeL (s : ByteArray) : s.data.toList.length = s.size := by rw [Array.length_toList]; rfl
theorem textL_ge (s : ByteArray) : s.size ≤ (textL s).length := by
  have : s.size = s.data.toList.length := (sizeL s).symm
  unfold textL
  split
  · rename_i c hc; rw [this, hc]; split <;> (first | exact Nat.le_refl _ | (rw [List.length_append]; exact Nat.le_add_left _ _))
  · simp
theorem manyL_ext {f n : Nat} {l r : List UInt8} (h : manyL f l = some (n, r)) (x : List UInt8) : manyL f (l ++ x) = some (n, r ++ x) := by
  unfold manyL at h ⊢
  split at h
  · rename_i hf
    cases h
    rw [if_pos hf]
  · rename_i hf
    rw [if_neg hf]
    split at h
    · rename_i hl
      rw [if_pos (by rw [List.length_append]; omega), List.take_append_of_le_length hl, List.drop_append_of_le_length hl]
      simp only at h ⊢
      split at h
      · rename_i h3
        cases h
        rw [if_pos h3]
      · cases h
    · cases h
theorem RdI.ext {d : Nat} {l r : List UInt8} {i : It} (h : RdI d l (some (i, r))) (x : List UInt8) : RdI d (l ++ x) (some (i, r ++ x)) := by
  cases h with
  | one hd hb => exact .one hd hb
  | text hd hb hb2 hm hn ht =>
    rw [← List.take_append_of_le_length (l₂ := x) hn] at ht ⊢
    rw [← List.drop_append_of_le_length (l₂ := x) hn]
    exact .text hd hb hb2 (manyL_ext hm x) (by rw [List.length_append]; omega) ht
  | list hd hb hm hn h =>
    rw [← List.take_append_of_le_length (l₂ := x) hn] at h
    rw [← List.drop_append_of_le_length (l₂ := x) hn]
    exact .list hd hb (manyL_ext hm x) (by rw [List.length_append]; omega) h
end Go.Proofs.Ytfphlkkhpccpnaa
namespace Go.Proofs.Ytfphlkkhpccpnaa
open Go.RowKit Go.Proofs K
theorem Row.drop {H : Hs} {b o : Nat} {cs : List Value} (h : Row H (some ⟨b, o, none⟩) cs) (n : Nat) (hn : n ≤ cs.length) : Row H (some ⟨b, o + n, none⟩) (cs.drop n) := by
  rcases h with rfl | ⟨b', o', cur, t, fr, hA, hb, h⟩
  · exact .inl (by simp)
  · cases hA
    refine .inr ⟨b, o + n, cur, t, fr, rfl, hb, fun j u hu => ?_⟩
    rw [Nat.add_assoc]
    exact h (n + j) u (by rw [← hu, List.getElem?_drop])
end Go.Proofs.Ytfphlkkhpccpnaa
namespace Go.Proofs.Ytfphlkkhpccpnaa
open Go.RowKit Go.Proofs K
set_option linter.unusedVariables false
def bytesN (n : Nat) : List UInt8 := if h : n = 0 then [] else bytesN (n / 256) ++ [UInt8.ofNat (n % 256)]
theorem bytesN_zero : bytesN 0 = [] := by unfold bytesN; rfl
theorem bytesN_pos {n : Nat} (h : 0 < n) : bytesN n = bytesN (n / 256) ++ [UInt8.ofNat (n % 256)] := by
  conv => lhs; unfold bytesN
  rw [dif_neg (by omega)]
theorem valN_snoc (l : List UInt8) (b : UInt8) : valN (l ++ [b]) = valN l * 256 + b.toNat := by unfold valN; rw [List.foldl_append]; rfl
def Clean (l : List UInt8) : Prop := ∀ b r, l = b :: r → b ≠ 0
theorem valN_pos : ∀ {l : List UInt8}, Clean l → l ≠ [] → 0 < valN l := by
  intro l
  induction hn : l.length using Nat.strongRecOn generalizing l with
  | ind n ih =>
    intro hc hl
    rcases List.eq_nil_or_concat l with h | ⟨l', b, h⟩
    · exact absurd h hl
    · rw [List.concat_eq_append] at h
      subst h
      rw [valN_snoc]
      by_cases h' : l' = []
      · subst h'
        have hb := hc b [] rfl
        have : b.toNat ≠ 0 := fun h0 => hb (UInt8.toNat_inj.1 (by simpa using h0))
        omega
      · have := ih l'.length (by rw [← hn]; simp) rfl (fun c r e => hc c (r ++ [b]) (by rw [e]; rfl)) h'
        omega
theorem bytesN_val : ∀ (n : Nat) (l : List UInt8), l.length ≤ n → Clean l → bytesN (valN l) = l := by
  intro n
  induction n with
  | zero =>
    intro l hl _
    obtain rfl := List.eq_nil_of_length_eq_zero (l := l) (by omega)
    exact bytesN_zero
  | succ n ih =>
    intro l hl hc
    rcases List.eq_nil_or_concat l with h | ⟨l', b, h⟩
    · subst h; exact bytesN_zero
    · rw [List.concat_eq_append] at h
      subst h
      have hb := b.toNat_lt
      have hc' : Clean l' := fun c r e => hc c (r ++ [b]) (by rw [e]; rfl)
      have hp := valN_pos hc (by simp)
      rw [valN_snoc] at hp ⊢
      rw [bytesN_pos hp, show (valN l' * 256 + b.toNat) / 256 = valN l' by omega, show (valN l' * 256 + b.toNat) % 256 = b.toNat by omega, ih l' (by rw [List.length_append, List.length_singleton] at hl; omega) hc']
      congr 2
      exact UInt8.toNat_inj.1 (by simp)
theorem clean_of {l : List UInt8} (h : Lib.hasPrefix l [0] = false) : Clean l := fun b r e hb => by
  subst e hb
  have : Lib.hasPrefix (0 :: r) [0] = true := by cases r <;> rfl
  rw [this] at h
  cases h
theorem bytesN_num {n : Nat} (h : n < 18446744073709551616) : bytesN n = numL (n : Int) := by
  have := bytesN_val _ (numL (n : Int)) (Nat.le_refl _) (clean_of dropWhile_head)
  rw [valN_num h] at this
  exact this
set_option maxRecDepth 100000 in
theorem rbytes_any (n : Nat) (hn : n < 18446744073709551616) (w : World) : Calls Try.prog 51 #[.int .u64 n] w (RetV (.string (numS n)) w) := by
  have HB := Lib.hid (bytesN_num hn)
  have hlen : (bytesN n).length ≤ 8 := by rw [HB.out]; exact numL_len _
  go_enter Try.func51, Try.ntmps51
  go_wp2_with fail
  go_loopw [0, 3] (fun x s wr => ∃ (m : Nat) (l : List UInt8), x = .int .u64 m ∧ m ≤ n ∧ s = .string (bs l) ∧ Hid (bytesN n = bytesN m ++ l) ∧ Hid (Below w.heap.size w wr)) (fun x _ _ => (intOf x).toNat)
  case atStart => exact ⟨n, [], rfl, Nat.le_refl _, rfl, Lib.hid (by simp), Lib.hid (Below.refl _ _)⟩
  case round =>
    obtain ⟨m, l, rfl, hm, rfl, HL, HW⟩ := hrel
    by_cases h0 : 0 < m
    · have hl8 : l.length ≤ 8 := by
        have := congrArg List.length HL.out
        rw [List.length_append] at this
        omega
      have hconv := run_convert_bytes_arg (wr.alloc (.cells #[.int .u8 ((m : Int) % 256)] 5)) 39 5 Try.underlying39 Try.underlying5 wr.heap.size 0 1 1 [(m : Int) % 256] rfl (fun i hi => by
        rw [cell_of_row _ _ _ _ _ _ (heap_alloc_new wr _)]
        rcases (by omega : i = 0) with e; rw [e]; rfl) 9 Try.underlying9
      have hcat : (strOfNums [(m : Int) % 256]).size + (bs l).size ≤ 9223372036854775807 := by rw [bs_size, show (strOfNums [(m : Int) % 256]).size = 1 from rfl]; omega
      have hcatF : (9223372036854775807 < (strOfNums [(m : Int) % 256]).size + (bs l).size) = False := eq_false (by omega)
      go_wp2_with fail
      go_roundw
      case rel =>
        refine ⟨m / 256, UInt8.ofNat (m % 256) :: l, by go_num, by omega, ?_, Lib.hid ?_, Lib.hid (HW.out.alloc HW.out.size _)⟩
        · have e : ((m : Int) % 256).toNat = m % 256 := by omega
          exact congrArg Value.string (bytes_ext (by rw [data_append, strOfNums_data]; simp only [List.map_cons, List.map_nil, e]; rfl))
        · rw [HL.out, bytesN_pos h0, List.append_assoc]; rfl
      case measure => simp [intOf]; omega
    · obtain rfl : m = 0 := by omega
      have hfin : l = numL n := by
        have := HL.out
        rw [bytesN_zero, List.nil_append, HB.out] at this
        exact this.symm
      have HF := Lib.hid hfin
      clear hfin
      go_wp2_with fail
      go_ret
      exact ⟨by rw [HF.out]; rfl, HW.out⟩
set_option maxRecDepth 100000 in
theorem rhead_any (base n : Nat) (hb : base ≤ 192) (hn : n ≤ 140737488355328) (w : World) : Calls Try.prog 52 #[.int .i64 base, .int .i64 n] w (RetV (.string (aheadS base n)) w) := by
  by_cases h : n ≤ 55
  · have hconv := run_convert_bytes_arg (w.alloc (.cells #[.int .u8 ((base : Int) + n)] 5)) 39 5 Try.underlying39 Try.underlying5 w.heap.size 0 1 1 [(base : Int) + n] rfl (fun i hi => by
      rw [cell_of_row _ _ _ _ _ _ (heap_alloc_new w _)]
      obtain rfl : i = 0 := by omega
      rfl) 9 Try.underlying9
    go_enter Try.func52, Try.ntmps52
    go_wp2
    go_ret
    refine ⟨?_, (Below.refl _ _).alloc (Nat.le_refl _) _⟩
    rw [aheadS, aheadL, if_pos h]
    rfl
  · go_enter Try.func52, Try.ntmps52
    go_wp2_with fail
    refine (rbytes_any n (by omega) _).mono ?_
    rintro e w1 ⟨rfl, hb1⟩
    have hl := numL_len (n : Int)
    have hsz : (numS (n : Int)).size = (numL (n : Int)).length := by simp [numS, ByteArray.size]
    have hs8 : (numS (n : Int)).size ≤ 8 := by omega
    have hconv := run_convert_bytes_arg (w1.alloc (.cells #[.int .u8 ((base : Int) + 55 + (numS (n : Int)).size)] 5)) 39 5 Try.underlying39 Try.underlying5 w1.heap.size 0 1 1 [(base : Int) + 55 + (numS (n : Int)).size] rfl (fun i hi => by
      rw [cell_of_row _ _ _ _ _ _ (heap_alloc_new w1 _)]
      obtain rfl : i = 0 := by omega
      rfl) 9 Try.underlying9
    have hcat : (strOfNums [(base : Int) + 55 + (numS (n : Int)).size]).size + (numS (n : Int)).size ≤ 9223372036854775807 := by rw [strOfNums_size]; simp; omega
    have hcatF : (9223372036854775807 < (strOfNums [(base : Int) + 55 + (numS (n : Int)).size]).size + (numS (n : Int)).size) = False := eq_false (by omega)
    have HZ := Lib.hid hsz
    clear hsz
    go_wp2_with fail
    go_ret
    refine ⟨?_, hb1.alloc hb1.size _⟩
    rw [HZ.out, cat_one, aheadS, aheadL, if_neg h]
    congr 6
theorem rhead128 (n : Nat) (hn : n ≤ 140737488355328) (w : World) : Calls Try.prog 52 #[.int .i64 128, .int .i64 n] w (RetV (.string (aheadS 128 n)) w) := rhead_any 128 n (by decide) hn w
theorem rhead192 (n : Nat) (hn : n ≤ 140737488355328) (w : World) : Calls Try.prog 52 #[.int .i64 192, .int .i64 n] w (RetV (.string (aheadS 192 n)) w) := rhead_any 192 n (by decide) hn w
end Go.Proofs.Ytfphlkkhpccpnaa
namespace Go.Proofs.Ytfphlkkhpccpnaa
open Go.RowKit Go.Proofs K
set_option linter.unusedVariables false
/-- Encoding an item gives its bytes. -/
def REncOk (i : It) : Prop := ∀ (H : Hs) (w : World) (x y z : Value), Ag H w → RepL H [x, y, z] i.d → i.enc.length ≤ 1099511627776 → Calls Try.prog 39 #[.agg #[x, y, z]] w (RetV (.string i.bytes) w)
theorem bytes_text (s : ByteArray) : (It.text s).bytes = ⟨(textL s).toArray⟩ := by simp [It.bytes, It.enc]
set_option maxRecDepth 100000 in
set_option maxHeartbeats 1000000 in
theorem renc_text (s : ByteArray) : REncOk (.text s) := by
  intro H w x y z hw hr hl
  obtain ⟨A, c, rfl, rfl, rfl⟩ := text_cells hr
  have hs := textL_ge s
  rw [It.enc] at hl
  have HT := Lib.hid (bytes_text s)
  have HC : Hid (∀ w1, Below (w.alloc (.cells #[.bool false, .string s, .slice A 0 c] 83)).heap.size (w.alloc (.cells #[.bool false, .string s, .slice A 0 c] 83)) w1 → w1.cell? ⟨w.heap.size, 1, none⟩ = some (.string s)) := Lib.hid fun w1 hb => by
    rw [hb.cell (p := ⟨w.heap.size, 1, none⟩) (by simp), cell_of_row _ _ _ _ _ _ (heap_alloc_new w _)]
    rfl
  have hcat : (aheadS 128 s.size).size + s.size ≤ 9223372036854775807 := by
    have := aheadL_len 128 s.size
    rw [aheadS_size]
    omega
  have hcatF : (9223372036854775807 < (aheadS 128 s.size).size + s.size) = False := eq_false (by omega)
  have HHD := Lib.hid (rhead128 s.size (by omega))
  by_cases h1 : s.size = 1
  · have h0 : 0 < s.size := by omega
    by_cases h2 : s[0].toNat < 128
    · have HL := Lib.hid (textL_one h1 h2)
      have e1 : ((s.size : Int) == 1) = true := by rw [beq_iff_eq]; omega
      have h2' : ((s[0].toNat : Nat) : Int) < 128 := by omega
      clear h1 h2
      go_enter Try.func39, Try.ntmps39
      go_wp2_with fail
      go_ret
      exact ⟨by rw [HT.out, HL.out]; rfl, (Below.refl _ _).alloc (Nat.le_refl _) _⟩
    · have HL : Hid (textL s = aheadL 128 s.size ++ s.data.toList) := Lib.hid (by have := textL_big h1 h2; rw [h1]; exact this)
      have HFIN : Hid (aheadS 128 s.size ++ s = ⟨(textL s).toArray⟩) := Lib.hid (bytes_ext (by rw [data_append, HL.out]; rfl))
      have e1 : ((s.size : Int) == 1) = true := by rw [beq_iff_eq]; omega
      have h2' : ¬ ((s[0].toNat : Nat) : Int) < 128 := by omega
      clear h1 h2
      go_enter Try.func39, Try.ntmps39
      go_wp2_with fail
      go_region_law (first
        | (go_simp; go_at_call 52; refine (retFrom (W := w.alloc (.cells #[.bool false, .string s, .slice A 0 c] 83)) ?_ (HHD.out _)).mono ?_; (first | assumption | exact (Below.refl _ _).drew); rintro e w1 ⟨rfl, hb1⟩; have k1 := HC.out w1 hb1))
      all_goals
        go_wp2_with fail
        go_ret
        refine ⟨?_, ?_⟩
        · rw [HT.out, ← HFIN.out]; rfl
        · exact ((Below.refl _ _).alloc (Nat.le_refl _) _).trans (hb1.mono (by simp))
  · have HL := Lib.hid (textL_other h1)
    have HFIN : Hid (aheadS 128 s.size ++ s = ⟨(textL s).toArray⟩) := Lib.hid (bytes_ext (by rw [data_append, HL.out]; rfl))
    have e1 : ((s.size : Int) == 1) = false := by rw [beq_eq_false_iff_ne]; omega
    clear h1
    go_enter Try.func39, Try.ntmps39
    go_wp2_with fail
    go_region_law (first
      | (go_simp; go_at_call 52; refine (retFrom (W := w.alloc (.cells #[.bool false, .string s, .slice A 0 c] 83)) ?_ (HHD.out _)).mono ?_; (first | assumption | exact (Below.refl _ _).drew); rintro e w1 ⟨rfl, hb1⟩; have k1 := HC.out w1 hb1))
    all_goals
      go_wp2_with fail
      go_ret
      refine ⟨?_, ?_⟩
      · rw [HT.out, ← HFIN.out]; rfl
      · exact ((Below.refl _ _).alloc (Nat.le_refl _) _).trans (hb1.mono (by simp))
end Go.Proofs.Ytfphlkkhpccpnaa
namespace Go.Proofs.Ytfphlkkhpccpnaa
open Go.RowKit Go.Proofs K
set_option linter.unusedVariables false
set_option maxRecDepth 100000 in
set_option maxHeartbeats 4000000 in
theorem renc_list (l : List It) (hall : ∀ i ∈ l, REncOk i) (hl : l.length ≤ 1099511627776) : REncOk (.list l) := by
  intro H w x y z hw hr hn
  obtain ⟨A, c, rfl, rfl, rfl, hz⟩ := list_cells hr
  obtain ⟨A', c', cs, he, hnc, hA, hlen, hR, hD⟩ := hz.sl_inv
  obtain ⟨rfl, rfl⟩ : A = A' ∧ c = c' := by simpa using he
  have hn2 : (aheadL 192 (encL l).length).length + (encL l).length ≤ 1099511627776 := by
    unfold It.enc at hn
    rw [List.length_append] at hn
    omega
  have HS := Lib.hid ((St.start hw).alloc (.cells #[.bool true, .string ⟨#[]⟩, .slice A l.length c] 83))
  have HR := Lib.hid hR
  have HD := Lib.hid hD
  have HALL := Lib.hid hall
  clear hr hz he hn hR hD hall hlen hA hw
  go_enter Try.func39, Try.ntmps39
  go_wp2_with fail
  go_loopw [3, 4] (fun s i wr => ∃ k : Nat, i = .int .i64 k ∧ k ≤ l.length ∧ s = .string (bs (encL (l.take k))) ∧ Hid (St H w none_ H wr [blk w.heap.size (.cells #[.bool true, .string ⟨#[]⟩, .slice A l.length c] 83)])) (fun _ i _ => l.length - (intOf i).toNat)
  case atStart => exact ⟨0, rfl, by omega, rfl, HS⟩
  case round =>
    clear HS
    obtain ⟨k, rfl, hk, rfl, HS⟩ := hrel
    have c2 : wr.cell? ⟨w.heap.size, 2, none⟩ = some (.slice A l.length c) := HS.out.cell 0 rfl rfl
    by_cases hlt : k < l.length
    · obtain ⟨x, y, z, hx, hy, hz, hxyz⟩ := its_at HD.out hlt
      obtain ⟨p, s, A', n', c', rfl, rfl, rfl⟩ := it_cells hxyz
      have HX := Lib.hid hxyz
      clear hxyz
      obtain ⟨b0, o, rfl, hb0, hcell⟩ := HR.out.cells HS.out.ag (by rintro rfl; simp at hx)
      have h0 := hcell _ _ hx
      have h1 := hcell _ _ hy
      have h2 := hcell _ _ hz
      rw [← Nat.add_assoc] at h1 h2
      clear hcell hx hy hz
      have hle := encL_take_le l (k + 1)
      have he := encL_take l hlt
      have hsz : (bs (encL (l.take k))).size = (encL (l.take k)).length := bs_size _
      have hsz2 : l[k].bytes.size = l[k].enc.length := by simp [It.bytes, ByteArray.size]
      have hb1 : l[k].enc.length ≤ 1099511627776 := by
        rw [he, List.length_append] at hle
        omega
      have hcat : (bs (encL (l.take k))).size + l[k].bytes.size ≤ 9223372036854775807 := by
        rw [he, List.length_append] at hle
        omega
      have hcatF : (9223372036854775807 < (bs (encL (l.take k))).size + l[k].bytes.size) = False := eq_false (by omega)
      have HE : Hid (bs (encL (l.take k)) ++ l[k].bytes = bs (encL (l.take (k + 1)))) := Lib.hid (by
        rw [he]
        exact bytes_ext (by rw [data_append]; rfl))
      have HB1 := Lib.hid hb1
      clear he hsz hsz2 hle hb1
      go_wp2_with fail
      refine (HALL.out _ (List.getElem_mem hlt) H _ _ _ _ HS.out.ag HX.out HB1.out).mono ?_
      rintro e w2 ⟨rfl, hb2⟩
      have HS2 := Lib.hid (HS.out.grow hb2)
      clear HS hb2
      go_wp2_with fail
      go_roundw
      case rel => exact ⟨k + 1, by go_num, by omega, by rw [HE.out], HS2⟩
      case measure => simp [intOf]; omega
    · obtain rfl : k = l.length := by omega
      rw [List.take_length]
      have hsz : (bs (encL l)).size = (encL l).length := bs_size _
      have hsz2 : (aheadS 192 (encL l).length).size = (aheadL 192 (encL l).length).length := aheadS_size _ _
      have hcat : (aheadS 192 (encL l).length).size + (bs (encL l)).size ≤ 9223372036854775807 := by omega
      have hcatF : (9223372036854775807 < (aheadS 192 (encL l).length).size + (bs (encL l)).size) = False := eq_false (by omega)
      have HHD := Lib.hid (rhead192 (encL l).length (by omega))
      have HSZ := Lib.hid hsz
      have HFIN : Hid (aheadS 192 (encL l).length ++ bs (encL l) = (It.list l).bytes) := Lib.hid (bytes_ext (by rw [data_append]; simp [It.bytes, It.enc, aheadS, bs]))
      clear hsz hsz2
      go_wp2_with fail
      rw [HSZ.out]
      refine (HHD.out _).mono ?_
      rintro e w2 ⟨rfl, hb2⟩
      have HB := Lib.hid (HS.out.grow hb2)
      clear HS hb2
      go_wp2_with fail
      go_ret
      refine ⟨?_, HB.out.below⟩
      rw [← HFIN.out]; rfl
mutual
theorem renc_ok : ∀ i : It, i.short → REncOk i
  | .text s, _ => renc_text s
  | .list l, h => renc_list l (rencs_ok l h.2) h.1
theorem rencs_ok : ∀ l : List It, shortL l → ∀ i ∈ l, REncOk i
  | [], _, i, hi => by simp at hi
  | x :: l, h, i, hi => by
    rcases List.mem_cons.1 hi with e | hi
    · rw [e]; exact renc_ok x h.1
    · exact rencs_ok l h.2 i hi
end
end Go.Proofs.Ytfphlkkhpccpnaa
namespace Go.Proofs.Ytfphlkkhpccpnaa
open Go.RowKit Go.Proofs K
set_option linter.unusedVariables false
theorem infoInt : (Try.prog.info? 3).map (fun i => (i.zero, i.size, i.bytes)) = some (some (.int .i64 0), 1, 8) := by kernel_rfl
def digA0 (a b c d : Int) (k : Nat) : Int := (wrap64 (lim a b c d (k / 8) / 2 ^ (8 * (k % 8)))).tmod 256
def digs (a b c d : Int) (n : Nat) : List Value := (List.range n).map fun k => .int .i64 (digA0 a b c d k)
theorem digs_succ (a b c d : Int) (n : Nat) : digs a b c d (n + 1) = digs a b c d n ++ [.int .i64 (digA0 a b c d n)] := by simp [digs, List.range_succ]
theorem digA0_bd (a b c d : Int) (k : Nat) : -256 < digA0 a b c d k ∧ digA0 a b c d k < 256 := by
  unfold digA0
  generalize wrap64 _ = x
  have h1 := Int.tmod_lt_of_pos x (show (0 : Int) < 256 by decide)
  have h2 : (x.tmod 256) = -((-x).tmod 256) := by rw [Int.neg_tmod]; omega
  have h3 := Int.tmod_lt_of_pos (-x) (show (0 : Int) < 256 by decide)
  omega
theorem lim_bd {a b c d : Int} (ha : W64 a) (hb : W64 b) (hc : W64 c) (hd : W64 d) (k : Nat) : 0 ≤ lim a b c d k ∧ lim a b c d k < 18446744073709551616 := by
  unfold lim
  unfold W64 at ha hb hc hd
  split <;> omega
theorem digA0_mod (a b c d : Int) (k : Nat) (ha : W64 a) (hb : W64 b) (hc : W64 c) (hd : W64 d) : digA0 a b c d k % 256 = wbyte a b c d k := by
  have hl := lim_bd ha hb hc hd (k / 8)
  unfold digA0 wbyte
  rw [Nat.mul_comm 8]
  have h1 : 0 ≤ lim a b c d (k / 8) / 2 ^ (k % 8 * 8) ∧ lim a b c d (k / 8) / 2 ^ (k % 8 * 8) < 18446744073709551616 :=
    ⟨Int.ediv_nonneg hl.1 (Int.pow_nonneg (by decide)), Int.lt_of_le_of_lt (Int.ediv_le_self _ hl.1) hl.2⟩
  generalize lim a b c d (k / 8) / 2 ^ (k % 8 * 8) = y at *
  have h2 := Int.mul_tdiv_add_tmod (wrap64 y) 256
  generalize (wrap64 y).tmod 256 = t at *
  generalize (wrap64 y).tdiv 256 = q at *
  unfold wrap64 at h2
  omega
/-- The first k of them made whole. -/
def digm (a b c d : Int) (k : Nat) : List Value := (List.range 32).map fun j => .int .i64 (if j < k then wbyte a b c d j else digA0 a b c d j)
theorem digm_at (a b c d : Int) (k : Nat) {j : Nat} (h : j < 32) : (digm a b c d k)[j]? = some (.int .i64 (if j < k then wbyte a b c d j else digA0 a b c d j)) := by simp [digm, h]
theorem digm_set (a b c d : Int) {k : Nat} (h : k < 32) : (digm a b c d k).set k (.int .i64 (wbyte a b c d k)) = digm a b c d (k + 1) := by
  apply List.ext_getElem?
  intro j
  rw [List.getElem?_set]
  by_cases hj : j < 32
  · rw [digm_at _ _ _ _ _ hj, digm_at _ _ _ _ _ hj]
    by_cases e : k = j
    · rw [if_pos e, if_pos (by simp [digm]; omega), if_pos (by omega), e]
    · rw [if_neg e]
      by_cases h2 : j < k
      · rw [if_pos h2, if_pos (by omega)]
      · rw [if_neg h2, if_neg (by omega)]
  · have e1 : ∀ k, (digm a b c d k)[j]? = none := fun k => List.getElem?_eq_none (by simp [digm]; omega)
    rw [e1, e1, if_neg (by omega)]
set_option maxRecDepth 100000 in
set_option maxHeartbeats 2000000 in
theorem digits1 (a b c d : Int) (ha : W64 a) (hb : W64 b) (hc : W64 c) (hd0 : W64 d) (w : World) : Calls Try.prog 58 #[.agg #[.int .u64 a, .int .u64 b, .int .u64 c, .int .u64 d]] w (fun e w' => ∃ v, e = .returned v ∧ St empH w none_ empH w' [own 3 1 v 32 (digm a b c d 32)]) := by
  have HS : Hid (St empH w none_ empH _ [own 3 1 (.slice none 0 0) 0 (digs a b c d 0), blk (w.heap.size + 1) (.cells #[.int .u64 d, .int .u64 c, .int .u64 b, .int .u64 a] 26)]) := ((((St.start (ag_emp w)).alloc (.cells #[.int .u64 a, .int .u64 b, .int .u64 c, .int .u64 d] 28)).alloc' (.cells #[.int .u64 d, .int .u64 c, .int .u64 b, .int .u64 a] 26) (w.heap.size + 1) (by simp)).pick 0 rfl |>.drop 1).own_nil
  obtain ⟨i0, hi0, hz0, hz1, hz2⟩ := info_parts infoInt
  have HLIM : Hid (∀ k, 0 ≤ lim a b c d k ∧ lim a b c d k < 18446744073709551616) := Lib.hid fun k => by
    exact lim_bd ha hb hc hd0 k
  go_enter Try.func58, Try.ntmps58
  go_wp2_with fail
  go_loopw [3, 5] (fun v i wr => ∃ (k : Nat) (A : Option Addr) (cp : Nat), i = .int .i64 k ∧ k ≤ 4 ∧ v = .slice A (8 * k) cp ∧ Hid (St empH w none_ empH wr [own 3 1 (.slice A (8 * k) cp) (8 * k) (digs a b c d (8 * k)), blk (w.heap.size + 1) (.cells #[.int .u64 d, .int .u64 c, .int .u64 b, .int .u64 a] 26)])) (fun _ i _ => 4 - (intOf i).toNat)
  case atStart => exact ⟨0, none, 0, rfl, by omega, rfl, HS⟩
  case round =>
    clear HS
    obtain ⟨k, A, cp, rfl, hk, rfl, HS⟩ := hrel
    by_cases hlt : k < 4
    · have hd4 : decide ((k : Int) < 4) = true := by simp; omega
      go_wp2_with fail
      go_loopg [3, 6] 8 (fun g v i wr => ∃ (m : Nat) (A : Option Addr) (cp : Nat), i = .int .i64 m ∧ m + g = 8 ∧ v = .slice A (8 * k + m) cp ∧ Hid (St empH w none_ empH wr [own 3 1 (.slice A (8 * k + m) cp) (8 * k + m) (digs a b c d (8 * k + m)), blk (w.heap.size + 1) (.cells #[.int .u64 d, .int .u64 c, .int .u64 b, .int .u64 a] 26)]))
      case atStart => exact ⟨0, A, cp, rfl, by omega, rfl, HS⟩
      case round =>
        clear HS
        obtain ⟨m, A, cp, rfl, hm, rfl, HS⟩ := hrel
        by_cases hlt2 : m < 8
        · have hl := HLIM.out k
          have hc1 : wr.cell? ⟨w.heap.size + 1, k, none⟩ = some (.int .u64 (lim a b c d k)) := by
            refine HS.out.cell 1 rfl ?_
            rcases (by omega : k = 0 ∨ k = 1 ∨ k = 2 ∨ k = 3) with e | e | e | e <;> rw [e] <;> rfl
          have HS1 := Lib.hid (HS.out.alloc (.cells #[.int .i64 ((wrap64 (lim a b c d k / 2 ^ (8 * m))).tmod 256)] 3))
          have hdg : (wrap64 (lim a b c d k / 2 ^ (8 * m))).tmod 256 = digA0 a b c d (8 * k + m) := by
            unfold digA0
            rw [show (8 * k + m) / 8 = k by omega, show (8 * k + m) % 8 = m by omega]
          have HDG := Lib.hid hdg
          clear HS hdg
          go_wp2_with (first
            | (at_builtin; refine wpList_append_st 1 3 HS1.out rfl rfl _ _ 40 rfl i0 _ 8 Try.underlying40 hi0 hz0 hz1 hz2 rfl (by decide) rfl ⟨wr.heap.size, 0, none⟩ 1 1 [.int .i64 ((wrap64 (lim a b c d k / 2 ^ (8 * m))).tmod 256)] rfl rfl (fun j u hj => ?_) (by simp [Value.oneCell']) (by unfold maxLen; omega) (by omega) ?_)
            | fail)
          · rw [Addr.add_lit, Nat.zero_add, cell_of_row _ _ _ _ _ _ (HS1.out.blk_at 0 rfl)]
            simpa using hj
          intro A2 c2 w2 S2
          rw [HDG.out, ← digs_succ] at S2
          have HS2 : Hid (St empH w none_ empH w2 [own 3 1 (.slice A2 (8 * k + (m + 1)) c2) (8 * k + (m + 1)) (digs a b c d (8 * k + (m + 1))), blk (w.heap.size + 1) (.cells #[.int .u64 d, .int .u64 c, .int .u64 b, .int .u64 a] 26)]) := S2.drop 1
          clear S2 HS1
          go_wp2_with fail
          go_roundg (8 - (m + 1))
          case rel => exact ⟨m + 1, A2, c2, by go_num, by omega, rfl, HS2⟩
          case measure => omega
        · obtain rfl : m = 8 := by omega
          go_wp2_with fail
          go_roundw
          case rel => exact ⟨k + 1, A, cp, by go_num, by omega, rfl, HS⟩
          case measure => simp [intOf]; omega
    · obtain rfl : k = 4 := by omega
      go_wp2_with fail
      go_loopw [7] (fun i wr => ∃ (k : Nat), i = .int .i64 k ∧ k ≤ 32 ∧ Hid (St empH w none_ empH wr [own 3 1 (.slice A 32 cp) 32 (digm a b c d k)])) (fun i _ => 32 - (intOf i).toNat)
      case atStart => exact ⟨0, rfl, by omega, HS.out.drop 1⟩
      case round =>
        clear HS
        obtain ⟨j, rfl, hj, HS⟩ := hrel
        by_cases hlt3 : j < 32
        · obtain ⟨g, rfl, hg⟩ := HS.out.ownForm 0 rfl (by decide)
          have hc0 : wr.cell? ⟨g, j, none⟩ = some (.int .i64 (digA0 a b c d j)) := by rw [HS.out.ownCell 0 rfl j (by omega), digm_at _ _ _ _ _ hlt3, if_neg (by omega)]
          have hf0 : wr.frozen? ⟨g, j, none⟩ = false := HS.out.ownFrozen 0 rfl j
          have hd := digA0_bd a b c d j
          have hw1 : wrap64 (digA0 a b c d j + 256) = digA0 a b c d j + 256 := by unfold wrap64; omega
          go_wp2_with fail
          go_roundw
          case rel =>
            have S := HS.out.setOwn 0 rfl j (.int .i64 (digA0 a b c d j % 256))
            rw [show (.int .i64 (digA0 a b c d j % 256) : Value) = .int .i64 (wbyte a b c d j) by rw [digA0_mod a b c d j ha hb hc hd0], digm_set a b c d hlt3] at S
            exact ⟨j + 1, by go_num, by omega, by rw [show (.int .i64 (digA0 a b c d j % 256) : Value) = .int .i64 (wbyte a b c d j) by rw [digA0_mod a b c d j ha hb hc hd0]]; exact S⟩
          case measure => simp [intOf]; omega
        · obtain rfl : j = 32 := by omega
          go_wp2_with fail
          go_ret
          exact ⟨_, rfl, HS.out⟩
theorem madeZeros : (madeCells #[Value.int .u8 0] 32).toList = List.replicate 32 (.int .u8 0) := toList_madeCells_one _ _
def wrow (a b c d : Int) (k : Nat) : List Value := (List.range 32).map fun j => .int .u8 (if j < k then wbyte a b c d (31 - j) else 0)
theorem wrow_at (a b c d : Int) (k : Nat) {j : Nat} (h : j < 32) : (wrow a b c d k)[j]? = some (.int .u8 (if j < k then wbyte a b c d (31 - j) else 0)) := by simp [wrow, h]
theorem wrow_set (a b c d : Int) {k : Nat} (h : k < 32) : (wrow a b c d k).set k (.int .u8 (wbyte a b c d (31 - k))) = wrow a b c d (k + 1) := by
  apply List.ext_getElem?
  intro j
  rw [List.getElem?_set]
  by_cases hj : j < 32
  · rw [wrow_at _ _ _ _ _ hj, wrow_at _ _ _ _ _ hj]
    by_cases e : k = j
    · rw [if_pos e, if_pos (by simp [wrow]; omega), if_pos (by omega), e]
    · rw [if_neg e]
      by_cases h2 : j < k
      · rw [if_pos h2, if_pos (by omega)]
      · rw [if_neg h2, if_neg (by omega)]
  · have e1 : ∀ k, (wrow a b c d k)[j]? = none := fun k => List.getElem?_eq_none (by simp [wrow]; omega)
    rw [e1, e1, if_neg (by omega)]
theorem wrow_zero (a b c d : Int) : List.replicate 32 (Value.int .u8 0) = wrow a b c d 0 := by
  apply List.ext_getElem?
  intro j
  by_cases hj : j < 32
  · rw [wrow_at _ _ _ _ _ hj, List.getElem?_replicate, if_pos hj, if_neg (by omega)]
  · rw [List.getElem?_eq_none (by simp; omega), List.getElem?_eq_none (by simp [wrow]; omega)]
theorem info_u8R : (Try.prog.info? 5).map (fun i => (i.zero, i.size, i.bytes)) = some (some (.int .u8 0), 1, 1) := by kernel_rfl
set_option maxRecDepth 100000 in
set_option maxHeartbeats 2000000 in
theorem rwbytes_any (a b c d : Int) (ha : W64 a) (hb : W64 b) (hc : W64 c) (hd : W64 d) (w : World) : Calls Try.prog 50 #[.agg #[.int .u64 a, .int .u64 b, .int .u64 c, .int .u64 d]] w (RetV (.string (wordS a b c d)) w) := by
  have HDG := Lib.hid (digits1 a b c d ha hb hc hd)
  have HS := Lib.hid ((St.start (ag_emp w)).alloc (.cells #[.int .u64 a, .int .u64 b, .int .u64 c, .int .u64 d] 28))
  obtain ⟨i0, hi0, hz0, hz1, hz2⟩ := info_parts info_u8R
  have HBD : Hid (∀ k, 0 ≤ wbyte a b c d k ∧ wbyte a b c d k < 256) := Lib.hid fun k => by unfold wbyte; omega
  go_enter Try.func50, Try.ntmps50
  go_wp2_with fail
  refine (HDG.out _).mono ?_
  rintro z w1 ⟨v, rfl, S1⟩
  have HS1 := Lib.hid (HS.out.more S1)
  clear S1 HS
  go_wp2_with (first
    | (refine wpList_makeFull_st (size := 1) (c := 32) HS1.out rfl 5 39 (.const (.int .i64 32)) (.const (.int .i64 32)) rfl i0 (.int .u8 0) 1 rfl rfl Try.underlying39 hi0 hz0 hz1 hz2 (by decide) (by decide) ?_)
    | fail)
  intro w2 S2
  rw [madeZeros, wrow_zero a b c d] at S2
  obtain ⟨g0, hg0, hg1⟩ : ∃ A cp, v = .slice A 32 cp := by
    rcases S2.own_at 1 rfl with ⟨_, ⟨rfl, h0⟩ | ⟨g, cap, cur, rfl, _⟩⟩
    · cases h0
    · exact ⟨_, _, rfl⟩
  subst hg1
  obtain ⟨g, rfl, hg⟩ := S2.ownForm 1 rfl (by decide)
  have HS2 : Hid (St empH w none_ empH w2 [own 5 1 (.slice (some ⟨w1.heap.size, 0, none⟩) 32 32) 32 (wrow a b c d 0), own 3 1 (.slice (some ⟨g, 0, none⟩) 32 hg0) 32 (digm a b c d 32)]) := S2.drop 2
  clear S2 HS1
  go_wp2_with fail
  go_loopw [5] (fun i wr => ∃ k : Nat, i = .int .i64 k ∧ k ≤ 32 ∧ Hid (St empH w none_ empH wr [own 5 1 (.slice (some ⟨w1.heap.size, 0, none⟩) 32 32) 32 (wrow a b c d k), own 3 1 (.slice (some ⟨g, 0, none⟩) 32 hg0) 32 (digm a b c d 32)])) (fun i _ => 32 - (intOf i).toNat)
  case atStart => exact ⟨0, rfl, by omega, HS2⟩
  case round =>
    clear HS2
    obtain ⟨k, rfl, hk, HS⟩ := hrel
    by_cases hlt : k < 32
    · have hi1 : (31 : Int) - k = ((31 - k : Nat) : Int) := by omega
      have hi2 : ((31 - k : Nat) : Int) < 32 := by omega
      have hi3 : (0 : Int) ≤ ((31 - k : Nat) : Int) := by omega
      have hc1 : wr.cell? ⟨g, 31 - k, none⟩ = some (.int .i64 (wbyte a b c d (31 - k))) := by rw [HS.out.ownCell 1 rfl (31 - k) (by omega), digm_at _ _ _ _ _ (by omega), if_pos (by omega)]
      have hc2 : wr.cell? ⟨w1.heap.size, k, none⟩ = some (.int .u8 0) := by rw [HS.out.ownCell 0 rfl k (by omega), wrow_at _ _ _ _ _ hlt, if_neg (by omega)]
      have hf2 : wr.frozen? ⟨w1.heap.size, k, none⟩ = false := HS.out.ownFrozen 0 rfl k
      have hbd := HBD.out (31 - k)
      have hb1 := hbd.1
      have hb2 := hbd.2
      go_wp2_with fail
      go_roundw
      case rel =>
        have S := HS.out.setOwn 0 rfl k (.int .u8 (wbyte a b c d (31 - k)))
        rw [wrow_set a b c d hlt] at S
        exact ⟨k + 1, by go_num, by omega, S⟩
      case measure => simp [intOf]; omega
    · obtain rfl : k = 32 := by omega
      have hconv := run_convert_bytes_arg wr 39 5 Try.underlying39 Try.underlying5 w1.heap.size 0 32 32 (wordL a b c d) rfl (fun i hi => by
        rw [Nat.zero_add, wordL_at _ _ _ _ hi, HS.out.ownCell 0 rfl i (by omega), wrow_at _ _ _ _ _ hi, if_pos (by omega)]) 9 Try.underlying9
      go_wp2_with fail
      go_ret
      exact ⟨rfl, HS.out.below⟩
end Go.Proofs.Ytfphlkkhpccpnaa
