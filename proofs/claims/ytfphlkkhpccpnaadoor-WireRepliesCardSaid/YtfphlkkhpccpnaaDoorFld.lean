/-
  A list's fields, one by one.
-/
import Derived.Test.YtfphlkkhpccpnaaDoorDec
namespace Go.Proofs.YtfphlkkhpccpnaaDoor
open Go.RowKit Go.Proofs K

def refusedV : Value := .iface 106 (.agg #[])
def refusedC : List PanicEntry := [{ v := refusedV, recovered := false }]
def PanF (H0 H : Hs) (w0 : World) (X : Nat → Prop) (qs : List Hp) (e : Ending) (w' : World) : Prop := e = .panicked refusedC ∧ St H0 w0 X H w' qs
def fldO (v : Value) : Obj := .cells #[v] 130
/-- What is left of a list. -/
def NextP (l : List It) (H0 H : Hs) (w0 : World) (X : Nat → Prop) (q : Nat) (qs : List Hp) (e : Ending) (w' : World) : Prop :=
  match l with
  | [] => PanF H0 H w0 X qs e w'
  | i :: l' => ∃ x y z v', e = .returned (.agg #[x, y, z]) ∧ RepL H [x, y, z] i.d ∧ RepV H v' (.sl 3 l'.length (itsD l')) ∧ St H0 w0 X H w' (blk q (fldO v') :: qs)
theorem Row.drop {H : Hs} {b o : Nat} {cs : List Value} (h : Row H (some ⟨b, o, none⟩) cs) (n : Nat) (hn : n ≤ cs.length) : Row H (some ⟨b, o + n, none⟩) (cs.drop n) := by
  rcases h with rfl | ⟨b', o', cur, t, fr, hA, hb, h⟩
  · exact .inl (by simp)
  · cases hA
    refine .inr ⟨b, o + n, cur, t, fr, rfl, hb, fun j u hu => ?_⟩
    rw [Nat.add_assoc]
    exact h (n + j) u (by rw [← hu, List.getElem?_drop])
section
variable {H0 H : Hs} {w0 w : World} {X : Nat → Prop} {ps : List Hp} {q : Nat}
theorem next_none (S : St H0 w0 X H w ps) (i : Nat) {v : Value} (hi : ps[i]? = some (blk q (fldO v))) (hv : RepV H v (.sl 3 0 (itsD []))) :
    Calls Tryd.prog 76 #[.pointer (some ⟨q, 0, none⟩)] w (PanF H0 H w0 X (ps.eraseIdx i)) := by
  have hp : ∀ w, (Instr.panic (.iface 106 (.agg #[]))).run Tryd.prog w = .halt (.panic (.iface 106 (.agg #[]))) w := fun _ => rfl
  obtain ⟨A, c, cs, rfl, _⟩ := hv.sl_inv
  have c0 : w.cell? ⟨q, 0, none⟩ = some (.slice A 0 c) := S.cell i hi rfl
  have hq : q < w.heap.size := S.blk_lt i hi
  have HS := Lib.hid ((S.drop i).alloc (.cells #[.bool false, .string ⟨#[]⟩, .slice none 0 0] 76))
  clear S hv
  go_enter Tryd.func76, Tryd.ntmps76
  go_wp2
  exact bodyPost_pan rfl ⟨rfl, HS.out.drop 0⟩
set_option maxRecDepth 100000 in
theorem next_some (S : St H0 w0 X H w ps) (i : Nat) {v : Value} {x : It} {l : List It} (hi : ps[i]? = some (blk q (fldO v))) (hv : RepV H v (.sl 3 (x :: l).length (itsD (x :: l)))) (hl : l.length ≤ 65536) :
    Calls Tryd.prog 76 #[.pointer (some ⟨q, 0, none⟩)] w (NextP (x :: l) H0 H w0 X q (ps.eraseIdx i)) := by
  obtain ⟨A, c, cs, rfl, hnc, hA, hlen, hr, hd⟩ := hv.sl_inv
  obtain ⟨x0, x1, x2, h0, h1, h2, hx⟩ := its_at hd (k := 0) (by simp)
  obtain ⟨p, s, A', n', c', rfl, rfl, rfl⟩ := it_cells hx
  obtain ⟨b0, o, rfl, hb0, hcell⟩ := hr.cells S.ag (by rintro rfl; simp at h0)
  have k0 := hcell _ _ h0
  have k1 := hcell _ _ h1
  have k2 := hcell _ _ h2
  simp only [Nat.zero_mul, Nat.zero_add, Nat.add_zero] at k0 k1 k2
  have hcl : 3 ≤ cs.length := by rw [hd.len, itsD_length]; simp; omega
  have htl : RepL H (cs.drop 3) (itsD l) := by
    have h5 := hd
    rw [itsD] at h5
    obtain ⟨a, b, rfl, ha, hb⟩ := RepL.split h5
    have hla : a.length = 3 := by rw [ha.len, It.d_length]
    rw [List.drop_append_of_le_length (by omega), List.drop_of_length_le (by omega), List.nil_append]
    exact hb
  have HTL := Lib.hid (And.intro htl (And.intro (Row.drop hr 3 hcl) (And.intro hr hnc)))
  have HX := Lib.hid hx
  have c0 : w.cell? ⟨q, 0, none⟩ = some (.slice (some ⟨b0, o, none⟩) (l.length + 1) c) := S.cell i hi rfl
  have hq : q < w.heap.size := S.blk_lt i hi
  have f0 := S.frozen i hi 0
  have hc1 : l.length + 1 ≤ c := hnc
  have HS := Lib.hid S
  clear S hv hd hr hx hA hlen htl hcell h0 h1 h2
  by_cases hc : c = 1
  · subst hc
    obtain rfl : l = [] := List.eq_nil_of_length_eq_zero (by omega)
    go_enter Tryd.func76, Tryd.ntmps76
    go_wp2
    exact bodyPost_ret (v := .agg #[.bool p, .string s, .slice A' n' c']) (by simp [results, Tryd.results76, go_sem]) rfl ⟨_, _, _, _, rfl, HX.out, .sl (n := 0) (Nat.le_refl _) (fun e => by cases e) rfl (.inl rfl) .nil, ((((HS.out.setCell (j := 0) i hi (.slice (some ⟨b0, o, none⟩) 0 0)).alloc _).alloc _).drop 0).drop 0⟩
  · go_enter Tryd.func76, Tryd.ntmps76
    go_wp2
    exact bodyPost_ret (v := .agg #[.bool p, .string s, .slice A' n' c']) (by simp [results, Tryd.results76, go_sem]) rfl ⟨_, _, _, _, rfl, HX.out, .sl (by omega) (fun e => by cases e) (itsD_length l) HTL.out.2.1 HTL.out.1, ((((HS.out.setCell (j := 0) i hi (.slice (some ⟨b0, o + 3, none⟩) l.length (c - 1))).alloc _).alloc _).drop 0).drop 0⟩
end
end Go.Proofs.YtfphlkkhpccpnaaDoor
