/-
  The document's own GetAsk.
-/
import Derived.Test.YtdnpobjokajigaaGreatDoorPart20
import Derived.Test.YtdnpobjokajigaaGreatDoorPart21
import Derived.Test.YtdnpobjokajigaaGreatDoorPart11
import Derived.Test.YtdnpobjokajigaaGreatDoorPart9
namespace Go.Proofs.YtdnpobjokajigaaGreatDoor
open Go.RowKit Go.Proofs K
set_option linter.unusedVariables false

def itemsOf : It → List It
  | .text _ => []
  | .list l => l
def itS : It → ByteArray
  | .text s => s
  | .list _ => ⟨#[]⟩
def rNum : It → Int
  | .text s => smallR s
  | .list _ => 0
theorem rNum_bd (i : It) : W64 (rNum i) := by
  cases i with
  | text s => exact smallR_bd s
  | list l => exact (⟨by decide, by decide⟩ : W64 0)
theorem it_str {H : Hs} {x y z : Value} {i : It} (h : RepL H [x, y, z] i.d) : y = .string (itS i) := by
  cases i with
  | text s => obtain ⟨_, _, _, h2, _⟩ := text_cells h; exact h2
  | list l => obtain ⟨_, _, _, h2, _⟩ := list_cells h; exact h2
set_option maxRecDepth 100000 in
theorem rsmall_it {H : Hs} {x y z : Value} {i : It} (h : RepL H [x, y, z] i.d) (w : World) : Calls Tryz.prog 140 #[.agg #[x, y, z]] w (fun e w' => ∃ ok, e = .returned (.tuple #[.int .u64 (rNum i), .bool ok]) ∧ Below w.heap.size w w') := by
  cases i with
  | text s =>
    obtain ⟨A, c, rfl, rfl, rfl⟩ := text_cells h
    by_cases hs : s.size ≤ 140737488355328
    · exact (rsmall_text s A 0 c hs w).mono fun e w' h => ⟨_, h.1, h.2⟩
    · have l8 : ((s.size : Int) > 8) = True := eq_true (by omega)
      have HR : Hid (rNum (.text s) = 0) := Lib.hid (by
        have : smallOk s = false := by unfold smallOk; rw [decide_eq_false (by omega)]; rfl
        show smallR s = 0
        unfold smallR; rw [this]; rfl)
      clear hs
      go_enter Tryz.func140, Tryz.ntmps140
      go_wp2_with fail
      go_ret2
      exact ⟨false, by rw [HR.out]; rfl, (Below.refl _ _).alloc (Nat.le_refl _) _⟩
  | list l =>
    obtain ⟨A, c, rfl, rfl, rfl, _⟩ := list_cells h
    exact (rsmall_list _ A _ c w).mono fun e w' h => ⟨_, h.1, h.2⟩
/-- The slot that a text is: 0, if it is too long. -/
def ofW (s : ByteArray) (i : Nat) : Int := if s.size ≤ 32 then ofL s s.size i else 0
theorem rof_all (s : ByteArray) (w : World) : Calls Tryz.prog 141 #[.string s] w (fun e w' => ∃ ok, e = .returned (.tuple #[.agg #[.int .u64 (ofW s 3), .int .u64 (ofW s 2), .int .u64 (ofW s 1), .int .u64 (ofW s 0)], .bool ok]) ∧ Below w.heap.size w w') := by
  unfold ofW
  by_cases hs : s.size ≤ 32
  · simp only [if_pos hs]
    exact (rof_any s hs w).mono fun e w' h => ⟨_, h.1, h.2⟩
  · simp only [if_neg hs]
    exact (rof_no s (by omega) w).mono fun e w' h => ⟨_, h.1, h.2⟩
def kindR (n : Int) : Int := if n = 1 ∨ n = 2 then n else 0
def slotR (k : List It) (i : Nat) : Int := match k[3]? with | some x => ofW (itS x) i | none => 0
theorem ofL_bd (s : ByteArray) : ∀ (k i : Nat), W64 (ofL s k i)
  | 0, i => ⟨by simp [ofL], by simp [ofL]⟩
  | k + 1, i => by
    unfold ofL
    split
    · have h2 := bits_lo_u64 BinOp.or (ofL s k i) (IntKind.u64.wrap (IntKind.u64.wrap (lowB s k) * 2 ^ (k % 8 * 8)))
      have h3 := bits_hi_u64 BinOp.or (ofL s k i) (IntKind.u64.wrap (IntKind.u64.wrap (lowB s k) * 2 ^ (k % 8 * 8)))
      unfold W64
      omega
    · exact ofL_bd s k i
theorem slotR_bd (k : List It) (j : Nat) : W64 (slotR k j) := by
  unfold slotR
  split
  · unfold ofW
    split
    · exact ofL_bd _ _ _
    · exact ⟨by decide, by decide⟩
  · exact ⟨by decide, by decide⟩
/-- The ask that the document forms of a list's items. -/
def askRef (k : List It) (i0 i1 i2 : It) : Int × ByteArray × Int × Int × Int × Int × Int := (rNum i0, itS i2, slotR k 3, slotR k 2, slotR k 1, slotR k 0, kindR (rNum i1))
inductive RGetD (l : List UInt8) : Option (Array Value) → Prop
  | bad (h : DecR l none) : RGetD l none
  | few {i : It} (h : DecR l (some i)) (h3 : (itemsOf i).length < 3) : RGetD l none
  | other {i i0 i1 i2 : It} (h : DecR l (some i)) (h0 : (itemsOf i)[0]? = some i0) (h1 : (itemsOf i)[1]? = some i1) (h2 : (itemsOf i)[2]? = some i2)
      (hn : putAskR (rNum i0) (itS i2) (slotR (itemsOf i) 3) (slotR (itemsOf i) 2) (slotR (itemsOf i) 1) (slotR (itemsOf i) 0) (kindR (rNum i1)) ≠ (bs l, true)) : RGetD l none
  | good {i i0 i1 i2 : It} (h : DecR l (some i)) (h0 : (itemsOf i)[0]? = some i0) (h1 : (itemsOf i)[1]? = some i1) (h2 : (itemsOf i)[2]? = some i2)
      (hn : putAskR (rNum i0) (itS i2) (slotR (itemsOf i) 3) (slotR (itemsOf i) 2) (slotR (itemsOf i) 1) (slotR (itemsOf i) 0) (kindR (rNum i1)) = (bs l, true)) :
      RGetD l (some (askC (rNum i0) (itS i2) (slotR (itemsOf i) 3) (slotR (itemsOf i) 2) (slotR (itemsOf i) 1) (slotR (itemsOf i) 0) (kindR (rNum i1))))
def RGetQ (l : List UInt8) (w : World) (e : Ending) (w' : World) : Prop := ∃ o, RGetD l o ∧ e = .returned (.tuple #[.agg (o.getD zAsk), .bool o.isSome]) ∧ Below w.heap.size w w'
theorem szRAsk : (Tryz.prog.info? 158).map (·.size) = some 7 := by kernel_rfl
theorem list_of {H : Hs} {p : Bool} {s : ByteArray} {A : Option Addr} {n c : Nat} {i : It} (h : RepL H [.bool p, .string s, .slice A n c] i.d) : n = (itemsOf i).length ∧ RepV H (.slice A n c) (.sl 3 (itemsOf i).length (itsD (itemsOf i))) := by
  have key : ∀ (d1 d2 d3 : D), RepL H [.bool p, .string s, .slice A n c] [d1, d2, d3] → RepV H (.slice A n c) d3 := fun d1 d2 d3 h => by
    obtain ⟨_, _, e1, _, t1⟩ := h.cons_inv
    cases e1
    obtain ⟨_, _, e2, _, t2⟩ := t1.cons_inv
    cases e2
    obtain ⟨_, _, e3, h3, _⟩ := t2.cons_inv
    cases e3
    exact h3
  cases i with
  | text s =>
    unfold It.d at h
    have h3 := key _ _ _ h
    obtain ⟨_, _, _, e, _⟩ := h3.sl_inv
    cases e
    exact ⟨rfl, by unfold itemsOf itsD; exact h3⟩
  | list l =>
    unfold It.d at h
    have h3 := key _ _ _ h
    obtain ⟨_, _, _, e, _⟩ := h3.sl_inv
    cases e
    exact ⟨rfl, h3⟩
theorem Row.cellAt {H : Hs} {w : World} {b o : Nat} {cs : List Value} (h : Row H (some ⟨b, o, none⟩) cs) (hw : Ag H w) {j : Nat} {u : Value} (hu : cs[j]? = some u) : w.cell? ⟨b, o + j, none⟩ = some u := by
  obtain ⟨b', o', e, h⟩ := h.cell hw hu
  cases e
  exact h
set_option maxRecDepth 100000 in
set_option maxHeartbeats 4000000 in
theorem rgetAsk_any (l : List UInt8) (w : World) : Calls Tryz.prog 80 #[.string (bs l)] w (RGetQ l w) := by
  have HS := Lib.hid ((St.start (ag_emp w)).alloc (.cells zAsk 158))
  have HD := Lib.hid (rdecode_any l HS.out.ag)
  go_enter Tryz.func80, Tryz.ntmps80
  go_wp2_with fail
  refine HD.out.mono ?_
  rintro e w1 (⟨i, x, y, z, H1, hR, rfl, hrep, S1⟩ | ⟨n, hR, hn, rfl, S1⟩)
  · obtain ⟨p1, s1, A, n, c, rfl, rfl, rfl⟩ := it_cells hrep
    obtain ⟨hn, hV⟩ := list_of hrep
    obtain ⟨k, hk⟩ : ∃ k, k = itemsOf i := ⟨_, rfl⟩
    rw [← hk] at hn hV
    subst hn
    have HS2 := Lib.hid ((HS.out.more S1).alloc (.cells #[.bool p1, .string s1, .slice A k.length c] 155))
    have HR := Lib.hid hR
    have HK := Lib.hid hk
    by_cases h3 : k.length < 3
    · have hlt : ((k.length : Int) < 3) = True := eq_true (by omega)
      have HF := Lib.hid h3
      clear hR hrep hV S1 HS hk h3
      go_wp2_with (first
        | (refine wpList_store_st (cs := zAsk) 1 HS2.out rfl rfl 158 (.tmp 2) (.tmp 24) rfl rfl rfl szRAsk rfl (oneAsk _ _ _ _ _ _ _) ?_)
        | fail)
      intro w4 S4
      go_wp2_with fail
      exact post_cell2 0 S4 rfl Tryz.results80 rfl _ Tryz.underlying158 rfl szRAsk rfl ⟨none, .few HR.out (by rw [← HK.out]; exact HF.out), rfl, S4.below⟩
    · have hlt : ¬ ((k.length : Int) < 3) := by omega
      have hlt0 : (0 : Int) < (k.length : Int) := by omega
      have hd3 : decide ((k.length : Int) < 3) = false := decide_eq_false (by omega)
      have hlt1 : (1 : Int) < (k.length : Int) := by omega
      have hlt2 : (2 : Int) < (k.length : Int) := by omega
      obtain ⟨A', c', cs, he, hnc, hA, hlen, hrow, hrd⟩ := hV.sl_inv
      cases he
      obtain ⟨x0, y0, z0, hx0, hy0, hz0, hr0⟩ := its_at hrd (show 0 < k.length by omega)
      obtain ⟨x1, y1, z1, hx1, hy1, hz1, hr1⟩ := its_at hrd (show 1 < k.length by omega)
      obtain ⟨x2, y2, z2, hx2, hy2, hz2, hr2⟩ := its_at hrd (show 2 < k.length by omega)
      obtain ⟨i0, hi0⟩ : ∃ i0, i0 = k[0] := ⟨_, rfl⟩
      obtain ⟨i1, hi1⟩ : ∃ i1, i1 = k[1] := ⟨_, rfl⟩
      obtain ⟨i2, hi2⟩ : ∃ i2, i2 = k[2] := ⟨_, rfl⟩
      rw [← hi0] at hr0
      rw [← hi1] at hr1
      rw [← hi2] at hr2
      have hy2' := it_str hr2
      obtain ⟨q0, t0, A0, n0, c0, rfl, rfl, rfl⟩ := it_cells hr0
      obtain ⟨q1, t1, A1, n1, c1, rfl, rfl, rfl⟩ := it_cells hr1
      obtain ⟨b0, o, rfl, _⟩ := hrow.cell HS2.out.ag hx0
      have HI0 : Hid ((itemsOf i)[0]? = some i0) := Lib.hid (by rw [← hk, hi0]; exact List.getElem?_eq_getElem _)
      have HI1 : Hid ((itemsOf i)[1]? = some i1) := Lib.hid (by rw [← hk, hi1]; exact List.getElem?_eq_getElem _)
      have HI2 : Hid ((itemsOf i)[2]? = some i2) := Lib.hid (by rw [← hk, hi2]; exact List.getElem?_eq_getElem _)
      have HC : Hid (∀ wx, Ag H1 wx → wx.cell? ⟨b0, o, none⟩ = some (.bool q0) ∧ wx.cell? ⟨b0, o + 1, none⟩ = some (.string t0) ∧ wx.cell? ⟨b0, o + 2, none⟩ = some (.slice A0 n0 c0) ∧
          wx.cell? ⟨b0, o + 3, none⟩ = some (.bool q1) ∧ wx.cell? ⟨b0, o + 3 + 1, none⟩ = some (.string t1) ∧ wx.cell? ⟨b0, o + 3 + 2, none⟩ = some (.slice A1 n1 c1) ∧ wx.cell? ⟨b0, o + 6 + 1, none⟩ = some (.string (itS i2))) := Lib.hid fun wx hwx =>
        ⟨Row.cellAt hrow hwx hx0, Row.cellAt hrow hwx hy0, Row.cellAt hrow hwx hz0, Row.cellAt hrow hwx hx1, Row.cellAt hrow hwx hy1, Row.cellAt hrow hwx hz1, hy2' ▸ Row.cellAt hrow hwx hy2⟩
      have H3 : Hid (∀ x, k[3]? = some x → ∀ wx, Ag H1 wx → wx.cell? ⟨b0, o + 9 + 1, none⟩ = some (.string (itS x))) := Lib.hid fun x hx wx hwx => by
        obtain ⟨h4, rfl⟩ := List.getElem?_eq_some_iff.1 hx
        obtain ⟨x3, y3, z3, hx3, hy3, hz3, hr3⟩ := its_at hrd h4
        rw [it_str hr3] at hy3
        exact Row.cellAt hrow hwx hy3
      have HSM0 := Lib.hid (rsmall_it hr0)
      have HSM1 := Lib.hid (rsmall_it hr1)
      have HS3 := Lib.hid (HS2.out.alloc' (.cells #[.int .u64 0, .string (itS i2), .int .u64 0, .int .u64 0, .int .u64 0, .int .u64 0, .int .i64 0] 158) (w1.heap.size + 1) (by simp))
      obtain ⟨_, _, _, _, _, _, e26⟩ := HC.out _ HS2.out.ag
      obtain ⟨e30, e31, e32, _, _, _, _⟩ := HC.out _ HS3.out.ag
      clear hR hrep hV S1 HS hk h3 hrow hrd hx0 hy0 hz0 hx1 hy1 hz1 hx2 hy2 hz2 hr0 hr1 hr2 hi0 hi1 hi2 hy2' hlen hA hnc
      go_wp2_with fail
      refine (HSM0.out _).mono ?_
      rintro e w2 ⟨ok0, rfl, hb2⟩
      have S4 := HS3.out.grow hb2
      have d0 : w2.cell? ⟨w1.heap.size + 1, 0, none⟩ = some (.int .u64 0) := S4.cell 0 rfl rfl
      have g0 : w2.frozen? ⟨w1.heap.size + 1, 0, none⟩ = false := S4.frozen 0 rfl 0
      have HS5 : Hid (St empH w none_ H1 (w2.setCell ⟨w1.heap.size + 1, 0, none⟩ (.int .u64 (rNum i0))) [blk (w1.heap.size + 1) (.cells (askC (rNum i0) (itS i2) 0 0 0 0 0) 158), blk w1.heap.size (.cells #[.bool p1, .string s1, .slice (some ⟨b0, o, none⟩) k.length c] 155), blk w.heap.size (.cells zAsk 158)]) := S4.setCell (j := 0) 0 rfl (.int .u64 (rNum i0))
      have h52 : (w2.setCell ⟨w1.heap.size + 1, 0, none⟩ (.int .u64 (rNum i0))).cell? ⟨w1.heap.size, 2, none⟩ = some (.slice (some ⟨b0, o, none⟩) k.length c) := HS5.out.cell 1 rfl rfl
      obtain ⟨_, _, _, e53, e54, e55, _⟩ := HC.out _ HS5.out.ag
      clear S4 HS3 HS2 hb2 e26 e30 e31 e32
      go_wp2_with fail
      refine (HSM1.out _).mono ?_
      rintro e w3 ⟨ok1, rfl, hb3⟩
      have HS6 : Hid (St empH w none_ H1 w3 [blk (w1.heap.size + 1) (.cells (askC (rNum i0) (itS i2) 0 0 0 0 0) 158), blk w1.heap.size (.cells #[.bool p1, .string s1, .slice (some ⟨b0, o, none⟩) k.length c] 155), blk w.heap.size (.cells zAsk 158)]) := HS5.out.grow hb3
      clear HS5 hb3 d0 g0 h52 e53 e54 e55
      obtain ⟨WW, HWW⟩ : ∃ WW, Hid (WW = if rNum i1 = 1 ∨ rNum i1 = 2 then w3.setCell ⟨w1.heap.size + 1, 6, none⟩ (.int .i64 (rNum i1)) else w3) := ⟨_, rfl⟩
      have HS7 : Hid (St empH w none_ H1 WW [blk (w1.heap.size + 1) (.cells (askC (rNum i0) (itS i2) 0 0 0 0 (kindR (rNum i1))) 158), blk w1.heap.size (.cells #[.bool p1, .string s1, .slice (some ⟨b0, o, none⟩) k.length c] 155), blk w.heap.size (.cells zAsk 158)]) := Lib.hid (by
        have hw := HWW.out
        unfold kindR
        by_cases h12 : rNum i1 = 1 ∨ rNum i1 = 2
        · rw [if_pos h12] at hw ⊢
          rw [hw]
          exact HS6.out.setCell (j := 6) 0 rfl (.int .i64 (rNum i1))
        · rw [if_neg h12] at hw ⊢
          rw [hw]
          exact HS6.out)
      have hbdN := rNum_bd i1
      have d6 : w3.cell? ⟨w1.heap.size + 1, 6, none⟩ = some (.int .i64 0) := HS6.out.cell 0 rfl rfl
      have g6 : w3.frozen? ⟨w1.heap.size + 1, 6, none⟩ = false := HS6.out.frozen 0 rfl 6
      have h72 : WW.cell? ⟨w1.heap.size, 2, none⟩ = some (.slice (some ⟨b0, o, none⟩) k.length c) := HS7.out.cell 1 rfl rfl
      have HPA := Lib.hid (rputAsk_all (rNum i0) (itS i2) (slotR k 3) (slotR k 2) (slotR k 1) (slotR k 0) (kindR (rNum i1)) (rNum_bd i0) (slotR_bd k 3) (slotR_bd k 2) (slotR_bd k 1) (slotR_bd k 0))
      obtain ⟨t, ok, ht⟩ : ∃ t ok, putAskR (rNum i0) (itS i2) (slotR k 3) (slotR k 2) (slotR k 1) (slotR k 0) (kindR (rNum i1)) = (t, ok) := ⟨_, _, rfl⟩
      rw [ht] at HPA
      have HNO : Hid ((t, ok) ≠ (bs l, true) → RGetD l none) := Lib.hid fun h => .other HR.out HI0.out HI1.out HI2.out (by rw [← HK.out, ht]; exact h)
      have HYES : Hid ((t, ok) = (bs l, true) → RGetD l (some (askC (rNum i0) (itS i2) (slotR k 3) (slotR k 2) (slotR k 1) (slotR k 0) (kindR (rNum i1))))) := Lib.hid fun h => by
        have := RGetD.good HR.out HI0.out HI1.out HI2.out (by rw [← HK.out, ht]; exact h)
        rw [← HK.out] at this
        exact this
      clear ht
      by_cases hk1 : rNum i1 = 1
      · have hWW : w3.setCell ⟨w1.heap.size + 1, 6, none⟩ (.int .i64 (rNum i1)) = WW := by rw [HWW.out, if_pos (.inl hk1)]
        have m1 : (rNum i1 == 1) = true := beq_iff_eq.2 hk1
        have hw64 : wrap64 (rNum i1) = rNum i1 := by unfold wrap64; omega
        clear hk1
        by_cases h4 : 3 < k.length
        · have hlt3 : (3 : Int) < (k.length : Int) := by omega
          have e10 := H3.out k[3] (List.getElem?_eq_getElem h4) _ HS7.out.ag
          have hsl : ∀ j, slotR k j = ofW (itS k[3]) j := fun j => by unfold slotR; rw [List.getElem?_eq_getElem h4]
          obtain ⟨x3, hx3⟩ : ∃ x3, x3 = itS k[3] := ⟨_, rfl⟩
          rw [← hx3] at e10 hsl
          have hs3 := hsl 3
          have hs2 := hsl 2
          have hs1 := hsl 1
          have hs0 := hsl 0
          have HHS := Lib.hid (And.intro hs3 (And.intro hs2 (And.intro hs1 hs0)))
          clear h4 hsl hx3 hs3 hs2 hs1 hs0
          go_wp2_with fail
          refine (rof_all _ _).mono ?_
          rintro e w4 ⟨ok3, rfl, hb4⟩
          have HS8 := Lib.hid (HS7.out.grow hb4)
          clear hb4 HS7 h72 e10 d6 g6
          go_wp2_with (first
            | (refine wpList_mid_st (cs := #[.int .u64 (ofW x3 3), .int .u64 (ofW x3 2), .int .u64 (ofW x3 1), .int .u64 (ofW x3 0)]) (old := askC (rNum i0) (itS i2) 0 0 0 0 (kindR (rNum i1))) 0 HS8.out rfl rfl 24 (.tmp 70) (.tmp 68) rfl 2 rfl rfl szWord (by show (2 + 4 : Nat) ≤ 7; omega) (oneW _ _ _ _) ?_)
            | fail)
          intro w5 S5
          obtain ⟨hs3, hs2, hs1, hs0⟩ := HHS.out
          have HS9 : Hid (St empH w none_ H1 w5 [blk (w1.heap.size + 1) (.cells (askC (rNum i0) (itS i2) (slotR k 3) (slotR k 2) (slotR k 1) (slotR k 0) (kindR (rNum i1))) 158), blk w1.heap.size (.cells #[.bool p1, .string s1, .slice (some ⟨b0, o, none⟩) k.length c] 155), blk w.heap.size (.cells zAsk 158)]) := Lib.hid (by
            rw [hs3, hs2, hs1, hs0]
            exact S5)
          clear HS8 S5 hs3 hs2 hs1 hs0
          go_wp2_with (first
            | (refine wpList_load_st (cs := askC (rNum i0) (itS i2) (slotR k 3) (slotR k 2) (slotR k 1) (slotR k 0) (kindR (rNum i1))) 0 HS9.out rfl rfl 158 (.tmp 6) rfl rfl _ Tryz.underlying158 rfl szRAsk ?_)
            | fail)
          refine (HPA.out _).mono ?_
          rintro e w6 ⟨rfl, hb6⟩
          have HS10 := Lib.hid (HS9.out.grow hb6)
          clear HS9 hb6
          cases ok with
          | false =>
            go_wp2_with (first
              | (refine wpList_store_st (cs := zAsk) 2 HS10.out rfl rfl 158 (.tmp 2) (.tmp 83) rfl rfl rfl szRAsk rfl (oneAsk _ _ _ _ _ _ _) ?_)
              | fail)
            intro w7 S7
            go_wp2_with fail
            exact post_cell2 0 S7 rfl Tryz.results80 rfl _ Tryz.underlying158 rfl szRAsk rfl ⟨none, HNO.out (by simp), rfl, S7.below⟩
          | true =>
            by_cases he : t = bs l
            · have e1 := eq_list he
              have HE := Lib.hid he
              clear he
              go_wp2_with (first
                | (refine wpList_load_st (cs := askC (rNum i0) (itS i2) (slotR k 3) (slotR k 2) (slotR k 1) (slotR k 0) (kindR (rNum i1))) 0 HS10.out rfl rfl 158 (.tmp 6) rfl rfl _ Tryz.underlying158 rfl szRAsk ?_)
                | (refine wpList_store_st (cs := askC (rNum i0) (itS i2) (slotR k 3) (slotR k 2) (slotR k 1) (slotR k 0) (kindR (rNum i1))) 2 HS10.out rfl rfl 158 (.tmp 2) (.tmp 84) rfl rfl rfl szRAsk rfl (oneAsk _ _ _ _ _ _ _) ?_)
                | fail)
              intro w7 S7
              go_wp2_with fail
              exact post_cell2 0 S7 rfl Tryz.results80 rfl _ Tryz.underlying158 rfl szRAsk rfl ⟨_, HYES.out (by rw [HE.out]), rfl, S7.below⟩
            · have e1 := neq_list he
              have HE := Lib.hid he
              clear he
              go_wp2_with (first
                | (refine wpList_store_st (cs := zAsk) 2 HS10.out rfl rfl 158 (.tmp 2) (.tmp 83) rfl rfl rfl szRAsk rfl (oneAsk _ _ _ _ _ _ _) ?_)
                | fail)
              intro w7 S7
              go_wp2_with fail
              exact post_cell2 0 S7 rfl Tryz.results80 rfl _ Tryz.underlying158 rfl szRAsk rfl ⟨none, HNO.out (fun h => HE.out (Prod.mk.inj h).1), rfl, S7.below⟩
        · have hlt3 : ¬ (3 : Int) < (k.length : Int) := by omega
          have hsl : ∀ j, slotR k j = 0 := fun j => by unfold slotR; rw [List.getElem?_eq_none (by omega)]
          have hs3 := hsl 3
          have hs2 := hsl 2
          have hs1 := hsl 1
          have hs0 := hsl 0
          clear h4 hsl
          have HS9 : Hid (St empH w none_ H1 WW [blk (w1.heap.size + 1) (.cells (askC (rNum i0) (itS i2) (slotR k 3) (slotR k 2) (slotR k 1) (slotR k 0) (kindR (rNum i1))) 158), blk w1.heap.size (.cells #[.bool p1, .string s1, .slice (some ⟨b0, o, none⟩) k.length c] 155), blk w.heap.size (.cells zAsk 158)]) := Lib.hid (by
            rw [hs3, hs2, hs1, hs0]
            exact HS7.out)
          clear hs3 hs2 hs1 hs0
          go_wp2_with (first
            | (refine wpList_load_st (cs := askC (rNum i0) (itS i2) (slotR k 3) (slotR k 2) (slotR k 1) (slotR k 0) (kindR (rNum i1))) 0 HS9.out rfl rfl 158 (.tmp 6) rfl rfl _ Tryz.underlying158 rfl szRAsk ?_)
            | fail)
          refine (HPA.out _).mono ?_
          rintro e w6 ⟨rfl, hb6⟩
          have HS10 := Lib.hid (HS9.out.grow hb6)
          clear HS9 hb6
          cases ok with
          | false =>
            go_wp2_with (first
              | (refine wpList_store_st (cs := zAsk) 2 HS10.out rfl rfl 158 (.tmp 2) (.tmp 83) rfl rfl rfl szRAsk rfl (oneAsk _ _ _ _ _ _ _) ?_)
              | fail)
            intro w7 S7
            go_wp2_with fail
            exact post_cell2 0 S7 rfl Tryz.results80 rfl _ Tryz.underlying158 rfl szRAsk rfl ⟨none, HNO.out (by simp), rfl, S7.below⟩
          | true =>
            by_cases he : t = bs l
            · have e1 := eq_list he
              have HE := Lib.hid he
              clear he
              go_wp2_with (first
                | (refine wpList_load_st (cs := askC (rNum i0) (itS i2) (slotR k 3) (slotR k 2) (slotR k 1) (slotR k 0) (kindR (rNum i1))) 0 HS10.out rfl rfl 158 (.tmp 6) rfl rfl _ Tryz.underlying158 rfl szRAsk ?_)
                | (refine wpList_store_st (cs := askC (rNum i0) (itS i2) (slotR k 3) (slotR k 2) (slotR k 1) (slotR k 0) (kindR (rNum i1))) 2 HS10.out rfl rfl 158 (.tmp 2) (.tmp 84) rfl rfl rfl szRAsk rfl (oneAsk _ _ _ _ _ _ _) ?_)
                | fail)
              intro w7 S7
              go_wp2_with fail
              exact post_cell2 0 S7 rfl Tryz.results80 rfl _ Tryz.underlying158 rfl szRAsk rfl ⟨_, HYES.out (by rw [HE.out]), rfl, S7.below⟩
            · have e1 := neq_list he
              have HE := Lib.hid he
              clear he
              go_wp2_with (first
                | (refine wpList_store_st (cs := zAsk) 2 HS10.out rfl rfl 158 (.tmp 2) (.tmp 83) rfl rfl rfl szRAsk rfl (oneAsk _ _ _ _ _ _ _) ?_)
                | fail)
              intro w7 S7
              go_wp2_with fail
              exact post_cell2 0 S7 rfl Tryz.results80 rfl _ Tryz.underlying158 rfl szRAsk rfl ⟨none, HNO.out (fun h => HE.out (Prod.mk.inj h).1), rfl, S7.below⟩
      · by_cases hk2 : rNum i1 = 2
        · have hWW : w3.setCell ⟨w1.heap.size + 1, 6, none⟩ (.int .i64 (rNum i1)) = WW := by rw [HWW.out, if_pos (.inr hk2)]
          have m1 : (rNum i1 == 1) = false := beq_eq_false_iff_ne.2 hk1
          have m2 : (rNum i1 == 2) = true := beq_iff_eq.2 hk2
          have hw64 : wrap64 (rNum i1) = rNum i1 := by unfold wrap64; omega
          clear hk1 hk2
          by_cases h4 : 3 < k.length
          · have hlt3 : (3 : Int) < (k.length : Int) := by omega
            have e10 := H3.out k[3] (List.getElem?_eq_getElem h4) _ HS7.out.ag
            have hsl : ∀ j, slotR k j = ofW (itS k[3]) j := fun j => by unfold slotR; rw [List.getElem?_eq_getElem h4]
            obtain ⟨x3, hx3⟩ : ∃ x3, x3 = itS k[3] := ⟨_, rfl⟩
            rw [← hx3] at e10 hsl
            have hs3 := hsl 3
            have hs2 := hsl 2
            have hs1 := hsl 1
            have hs0 := hsl 0
            have HHS := Lib.hid (And.intro hs3 (And.intro hs2 (And.intro hs1 hs0)))
            clear h4 hsl hx3 hs3 hs2 hs1 hs0
            go_wp2_with fail
            refine (rof_all _ _).mono ?_
            rintro e w4 ⟨ok3, rfl, hb4⟩
            have HS8 := Lib.hid (HS7.out.grow hb4)
            clear hb4 HS7 h72 e10 d6 g6
            go_wp2_with (first
              | (refine wpList_mid_st (cs := #[.int .u64 (ofW x3 3), .int .u64 (ofW x3 2), .int .u64 (ofW x3 1), .int .u64 (ofW x3 0)]) (old := askC (rNum i0) (itS i2) 0 0 0 0 (kindR (rNum i1))) 0 HS8.out rfl rfl 24 (.tmp 70) (.tmp 68) rfl 2 rfl rfl szWord (by show (2 + 4 : Nat) ≤ 7; omega) (oneW _ _ _ _) ?_)
              | fail)
            intro w5 S5
            obtain ⟨hs3, hs2, hs1, hs0⟩ := HHS.out
            have HS9 : Hid (St empH w none_ H1 w5 [blk (w1.heap.size + 1) (.cells (askC (rNum i0) (itS i2) (slotR k 3) (slotR k 2) (slotR k 1) (slotR k 0) (kindR (rNum i1))) 158), blk w1.heap.size (.cells #[.bool p1, .string s1, .slice (some ⟨b0, o, none⟩) k.length c] 155), blk w.heap.size (.cells zAsk 158)]) := Lib.hid (by
              rw [hs3, hs2, hs1, hs0]
              exact S5)
            clear HS8 S5 hs3 hs2 hs1 hs0
            go_wp2_with (first
              | (refine wpList_load_st (cs := askC (rNum i0) (itS i2) (slotR k 3) (slotR k 2) (slotR k 1) (slotR k 0) (kindR (rNum i1))) 0 HS9.out rfl rfl 158 (.tmp 6) rfl rfl _ Tryz.underlying158 rfl szRAsk ?_)
              | fail)
            refine (HPA.out _).mono ?_
            rintro e w6 ⟨rfl, hb6⟩
            have HS10 := Lib.hid (HS9.out.grow hb6)
            clear HS9 hb6
            cases ok with
            | false =>
              go_wp2_with (first
                | (refine wpList_store_st (cs := zAsk) 2 HS10.out rfl rfl 158 (.tmp 2) (.tmp 83) rfl rfl rfl szRAsk rfl (oneAsk _ _ _ _ _ _ _) ?_)
                | fail)
              intro w7 S7
              go_wp2_with fail
              exact post_cell2 0 S7 rfl Tryz.results80 rfl _ Tryz.underlying158 rfl szRAsk rfl ⟨none, HNO.out (by simp), rfl, S7.below⟩
            | true =>
              by_cases he : t = bs l
              · have e1 := eq_list he
                have HE := Lib.hid he
                clear he
                go_wp2_with (first
                  | (refine wpList_load_st (cs := askC (rNum i0) (itS i2) (slotR k 3) (slotR k 2) (slotR k 1) (slotR k 0) (kindR (rNum i1))) 0 HS10.out rfl rfl 158 (.tmp 6) rfl rfl _ Tryz.underlying158 rfl szRAsk ?_)
                  | (refine wpList_store_st (cs := askC (rNum i0) (itS i2) (slotR k 3) (slotR k 2) (slotR k 1) (slotR k 0) (kindR (rNum i1))) 2 HS10.out rfl rfl 158 (.tmp 2) (.tmp 84) rfl rfl rfl szRAsk rfl (oneAsk _ _ _ _ _ _ _) ?_)
                  | fail)
                intro w7 S7
                go_wp2_with fail
                exact post_cell2 0 S7 rfl Tryz.results80 rfl _ Tryz.underlying158 rfl szRAsk rfl ⟨_, HYES.out (by rw [HE.out]), rfl, S7.below⟩
              · have e1 := neq_list he
                have HE := Lib.hid he
                clear he
                go_wp2_with (first
                  | (refine wpList_store_st (cs := zAsk) 2 HS10.out rfl rfl 158 (.tmp 2) (.tmp 83) rfl rfl rfl szRAsk rfl (oneAsk _ _ _ _ _ _ _) ?_)
                  | fail)
                intro w7 S7
                go_wp2_with fail
                exact post_cell2 0 S7 rfl Tryz.results80 rfl _ Tryz.underlying158 rfl szRAsk rfl ⟨none, HNO.out (fun h => HE.out (Prod.mk.inj h).1), rfl, S7.below⟩
          · have hlt3 : ¬ (3 : Int) < (k.length : Int) := by omega
            have hsl : ∀ j, slotR k j = 0 := fun j => by unfold slotR; rw [List.getElem?_eq_none (by omega)]
            have hs3 := hsl 3
            have hs2 := hsl 2
            have hs1 := hsl 1
            have hs0 := hsl 0
            clear h4 hsl
            have HS9 : Hid (St empH w none_ H1 WW [blk (w1.heap.size + 1) (.cells (askC (rNum i0) (itS i2) (slotR k 3) (slotR k 2) (slotR k 1) (slotR k 0) (kindR (rNum i1))) 158), blk w1.heap.size (.cells #[.bool p1, .string s1, .slice (some ⟨b0, o, none⟩) k.length c] 155), blk w.heap.size (.cells zAsk 158)]) := Lib.hid (by
              rw [hs3, hs2, hs1, hs0]
              exact HS7.out)
            clear hs3 hs2 hs1 hs0
            go_wp2_with (first
              | (refine wpList_load_st (cs := askC (rNum i0) (itS i2) (slotR k 3) (slotR k 2) (slotR k 1) (slotR k 0) (kindR (rNum i1))) 0 HS9.out rfl rfl 158 (.tmp 6) rfl rfl _ Tryz.underlying158 rfl szRAsk ?_)
              | fail)
            refine (HPA.out _).mono ?_
            rintro e w6 ⟨rfl, hb6⟩
            have HS10 := Lib.hid (HS9.out.grow hb6)
            clear HS9 hb6
            cases ok with
            | false =>
              go_wp2_with (first
                | (refine wpList_store_st (cs := zAsk) 2 HS10.out rfl rfl 158 (.tmp 2) (.tmp 83) rfl rfl rfl szRAsk rfl (oneAsk _ _ _ _ _ _ _) ?_)
                | fail)
              intro w7 S7
              go_wp2_with fail
              exact post_cell2 0 S7 rfl Tryz.results80 rfl _ Tryz.underlying158 rfl szRAsk rfl ⟨none, HNO.out (by simp), rfl, S7.below⟩
            | true =>
              by_cases he : t = bs l
              · have e1 := eq_list he
                have HE := Lib.hid he
                clear he
                go_wp2_with (first
                  | (refine wpList_load_st (cs := askC (rNum i0) (itS i2) (slotR k 3) (slotR k 2) (slotR k 1) (slotR k 0) (kindR (rNum i1))) 0 HS10.out rfl rfl 158 (.tmp 6) rfl rfl _ Tryz.underlying158 rfl szRAsk ?_)
                  | (refine wpList_store_st (cs := askC (rNum i0) (itS i2) (slotR k 3) (slotR k 2) (slotR k 1) (slotR k 0) (kindR (rNum i1))) 2 HS10.out rfl rfl 158 (.tmp 2) (.tmp 84) rfl rfl rfl szRAsk rfl (oneAsk _ _ _ _ _ _ _) ?_)
                  | fail)
                intro w7 S7
                go_wp2_with fail
                exact post_cell2 0 S7 rfl Tryz.results80 rfl _ Tryz.underlying158 rfl szRAsk rfl ⟨_, HYES.out (by rw [HE.out]), rfl, S7.below⟩
              · have e1 := neq_list he
                have HE := Lib.hid he
                clear he
                go_wp2_with (first
                  | (refine wpList_store_st (cs := zAsk) 2 HS10.out rfl rfl 158 (.tmp 2) (.tmp 83) rfl rfl rfl szRAsk rfl (oneAsk _ _ _ _ _ _ _) ?_)
                  | fail)
                intro w7 S7
                go_wp2_with fail
                exact post_cell2 0 S7 rfl Tryz.results80 rfl _ Tryz.underlying158 rfl szRAsk rfl ⟨none, HNO.out (fun h => HE.out (Prod.mk.inj h).1), rfl, S7.below⟩
        · have hWW : WW = w3 := by rw [HWW.out, if_neg (by omega)]
          have m1 : (rNum i1 == 1) = false := beq_eq_false_iff_ne.2 hk1
          have m2 : (rNum i1 == 2) = false := beq_eq_false_iff_ne.2 hk2
          clear hk1 hk2 HWW
          subst hWW
          by_cases h4 : 3 < k.length
          · have hlt3 : (3 : Int) < (k.length : Int) := by omega
            have e10 := H3.out k[3] (List.getElem?_eq_getElem h4) _ HS7.out.ag
            have hsl : ∀ j, slotR k j = ofW (itS k[3]) j := fun j => by unfold slotR; rw [List.getElem?_eq_getElem h4]
            obtain ⟨x3, hx3⟩ : ∃ x3, x3 = itS k[3] := ⟨_, rfl⟩
            rw [← hx3] at e10 hsl
            have hs3 := hsl 3
            have hs2 := hsl 2
            have hs1 := hsl 1
            have hs0 := hsl 0
            have HHS := Lib.hid (And.intro hs3 (And.intro hs2 (And.intro hs1 hs0)))
            clear h4 hsl hx3 hs3 hs2 hs1 hs0
            go_wp2_with fail
            refine (rof_all _ _).mono ?_
            rintro e w4 ⟨ok3, rfl, hb4⟩
            have HS8 := Lib.hid (HS7.out.grow hb4)
            clear hb4 HS7 h72 e10 d6 g6
            go_wp2_with (first
              | (refine wpList_mid_st (cs := #[.int .u64 (ofW x3 3), .int .u64 (ofW x3 2), .int .u64 (ofW x3 1), .int .u64 (ofW x3 0)]) (old := askC (rNum i0) (itS i2) 0 0 0 0 (kindR (rNum i1))) 0 HS8.out rfl rfl 24 (.tmp 70) (.tmp 68) rfl 2 rfl rfl szWord (by show (2 + 4 : Nat) ≤ 7; omega) (oneW _ _ _ _) ?_)
              | fail)
            intro w5 S5
            obtain ⟨hs3, hs2, hs1, hs0⟩ := HHS.out
            have HS9 : Hid (St empH w none_ H1 w5 [blk (w1.heap.size + 1) (.cells (askC (rNum i0) (itS i2) (slotR k 3) (slotR k 2) (slotR k 1) (slotR k 0) (kindR (rNum i1))) 158), blk w1.heap.size (.cells #[.bool p1, .string s1, .slice (some ⟨b0, o, none⟩) k.length c] 155), blk w.heap.size (.cells zAsk 158)]) := Lib.hid (by
              rw [hs3, hs2, hs1, hs0]
              exact S5)
            clear HS8 S5 hs3 hs2 hs1 hs0
            go_wp2_with (first
              | (refine wpList_load_st (cs := askC (rNum i0) (itS i2) (slotR k 3) (slotR k 2) (slotR k 1) (slotR k 0) (kindR (rNum i1))) 0 HS9.out rfl rfl 158 (.tmp 6) rfl rfl _ Tryz.underlying158 rfl szRAsk ?_)
              | fail)
            refine (HPA.out _).mono ?_
            rintro e w6 ⟨rfl, hb6⟩
            have HS10 := Lib.hid (HS9.out.grow hb6)
            clear HS9 hb6
            cases ok with
            | false =>
              go_wp2_with (first
                | (refine wpList_store_st (cs := zAsk) 2 HS10.out rfl rfl 158 (.tmp 2) (.tmp 83) rfl rfl rfl szRAsk rfl (oneAsk _ _ _ _ _ _ _) ?_)
                | fail)
              intro w7 S7
              go_wp2_with fail
              exact post_cell2 0 S7 rfl Tryz.results80 rfl _ Tryz.underlying158 rfl szRAsk rfl ⟨none, HNO.out (by simp), rfl, S7.below⟩
            | true =>
              by_cases he : t = bs l
              · have e1 := eq_list he
                have HE := Lib.hid he
                clear he
                go_wp2_with (first
                  | (refine wpList_load_st (cs := askC (rNum i0) (itS i2) (slotR k 3) (slotR k 2) (slotR k 1) (slotR k 0) (kindR (rNum i1))) 0 HS10.out rfl rfl 158 (.tmp 6) rfl rfl _ Tryz.underlying158 rfl szRAsk ?_)
                  | (refine wpList_store_st (cs := askC (rNum i0) (itS i2) (slotR k 3) (slotR k 2) (slotR k 1) (slotR k 0) (kindR (rNum i1))) 2 HS10.out rfl rfl 158 (.tmp 2) (.tmp 84) rfl rfl rfl szRAsk rfl (oneAsk _ _ _ _ _ _ _) ?_)
                  | fail)
                intro w7 S7
                go_wp2_with fail
                exact post_cell2 0 S7 rfl Tryz.results80 rfl _ Tryz.underlying158 rfl szRAsk rfl ⟨_, HYES.out (by rw [HE.out]), rfl, S7.below⟩
              · have e1 := neq_list he
                have HE := Lib.hid he
                clear he
                go_wp2_with (first
                  | (refine wpList_store_st (cs := zAsk) 2 HS10.out rfl rfl 158 (.tmp 2) (.tmp 83) rfl rfl rfl szRAsk rfl (oneAsk _ _ _ _ _ _ _) ?_)
                  | fail)
                intro w7 S7
                go_wp2_with fail
                exact post_cell2 0 S7 rfl Tryz.results80 rfl _ Tryz.underlying158 rfl szRAsk rfl ⟨none, HNO.out (fun h => HE.out (Prod.mk.inj h).1), rfl, S7.below⟩
          · have hlt3 : ¬ (3 : Int) < (k.length : Int) := by omega
            have hsl : ∀ j, slotR k j = 0 := fun j => by unfold slotR; rw [List.getElem?_eq_none (by omega)]
            have hs3 := hsl 3
            have hs2 := hsl 2
            have hs1 := hsl 1
            have hs0 := hsl 0
            clear h4 hsl
            have HS9 : Hid (St empH w none_ H1 WW [blk (w1.heap.size + 1) (.cells (askC (rNum i0) (itS i2) (slotR k 3) (slotR k 2) (slotR k 1) (slotR k 0) (kindR (rNum i1))) 158), blk w1.heap.size (.cells #[.bool p1, .string s1, .slice (some ⟨b0, o, none⟩) k.length c] 155), blk w.heap.size (.cells zAsk 158)]) := Lib.hid (by
              rw [hs3, hs2, hs1, hs0]
              exact HS7.out)
            clear hs3 hs2 hs1 hs0
            go_wp2_with (first
              | (refine wpList_load_st (cs := askC (rNum i0) (itS i2) (slotR k 3) (slotR k 2) (slotR k 1) (slotR k 0) (kindR (rNum i1))) 0 HS9.out rfl rfl 158 (.tmp 6) rfl rfl _ Tryz.underlying158 rfl szRAsk ?_)
              | fail)
            refine (HPA.out _).mono ?_
            rintro e w6 ⟨rfl, hb6⟩
            have HS10 := Lib.hid (HS9.out.grow hb6)
            clear HS9 hb6
            cases ok with
            | false =>
              go_wp2_with (first
                | (refine wpList_store_st (cs := zAsk) 2 HS10.out rfl rfl 158 (.tmp 2) (.tmp 83) rfl rfl rfl szRAsk rfl (oneAsk _ _ _ _ _ _ _) ?_)
                | fail)
              intro w7 S7
              go_wp2_with fail
              exact post_cell2 0 S7 rfl Tryz.results80 rfl _ Tryz.underlying158 rfl szRAsk rfl ⟨none, HNO.out (by simp), rfl, S7.below⟩
            | true =>
              by_cases he : t = bs l
              · have e1 := eq_list he
                have HE := Lib.hid he
                clear he
                go_wp2_with (first
                  | (refine wpList_load_st (cs := askC (rNum i0) (itS i2) (slotR k 3) (slotR k 2) (slotR k 1) (slotR k 0) (kindR (rNum i1))) 0 HS10.out rfl rfl 158 (.tmp 6) rfl rfl _ Tryz.underlying158 rfl szRAsk ?_)
                  | (refine wpList_store_st (cs := askC (rNum i0) (itS i2) (slotR k 3) (slotR k 2) (slotR k 1) (slotR k 0) (kindR (rNum i1))) 2 HS10.out rfl rfl 158 (.tmp 2) (.tmp 84) rfl rfl rfl szRAsk rfl (oneAsk _ _ _ _ _ _ _) ?_)
                  | fail)
                intro w7 S7
                go_wp2_with fail
                exact post_cell2 0 S7 rfl Tryz.results80 rfl _ Tryz.underlying158 rfl szRAsk rfl ⟨_, HYES.out (by rw [HE.out]), rfl, S7.below⟩
              · have e1 := neq_list he
                have HE := Lib.hid he
                clear he
                go_wp2_with (first
                  | (refine wpList_store_st (cs := zAsk) 2 HS10.out rfl rfl 158 (.tmp 2) (.tmp 83) rfl rfl rfl szRAsk rfl (oneAsk _ _ _ _ _ _ _) ?_)
                  | fail)
                intro w7 S7
                go_wp2_with fail
                exact post_cell2 0 S7 rfl Tryz.results80 rfl _ Tryz.underlying158 rfl szRAsk rfl ⟨none, HNO.out (fun h => HE.out (Prod.mk.inj h).1), rfl, S7.below⟩
  · have HS2 := Lib.hid ((HS.out.more S1).alloc (.cells #[.bool false, .string ⟨#[]⟩, .slice none 0 0] 155))
    have hn2 : (n != 0) = true := by rw [bne, hn]; rfl
    have HR := Lib.hid hR
    clear hR S1 HS hn
    simp only [zItem]
    go_wp2_with (first
      | (refine wpList_store_st (cs := zAsk) 1 HS2.out rfl rfl 158 (.tmp 2) (.tmp 24) rfl rfl rfl szRAsk rfl (oneAsk _ _ _ _ _ _ _) ?_)
      | fail)
    intro w4 S4
    go_wp2_with fail
    exact post_cell2 0 S4 rfl Tryz.results80 rfl _ Tryz.underlying158 rfl szRAsk rfl ⟨none, .bad HR.out, rfl, S4.below⟩
end Go.Proofs.YtdnpobjokajigaaGreatDoor
