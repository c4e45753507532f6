/-
  Jumps.
-/
import Derived.Test.YtfphlkkhpccpnabDoorOpEach
namespace Go.Proofs.YtfphlkkhpccpnabDoor
open Go.RowKit Go.Proofs K
set_option linter.unusedVariables false

def jF (l : List UInt8) (i : Nat) : List Nat := if (l.getD i 0).toNat = 91 then [i] else []
def jumpsL (l : List UInt8) : List Nat := eachL (jF l) l 0
def intV (n : Nat) : Value := .int .i64 n
theorem infoInt : (Tryd.prog.info? 3).map (fun i => (i.zero, i.size, i.bytes)) = some (some (.int .i64 0), 1, 8) := by kernel_rfl
theorem own_slice {H0 H : Hs} {w0 w : World} {X : Nat → Prop} {ps : List Hp} {e size n : Nat} {v : Value} {xs : List Value} (S : St H0 w0 X H w ps) (i : Nat) (hi : ps[i]? = some (own e size v n xs)) : ∃ A c, v = .slice A n c := by
  rcases (S.own_at i hi).2 with ⟨hv, h0⟩ | ⟨g, cap, cur, hv, _⟩
  · exact ⟨none, 0, by rw [h0]; exact hv⟩
  · exact ⟨_, _, hv⟩
/-- What Jumps holds while it goes through. -/
def JI (l : List UInt8) (w0 : World) (p q : Nat) (k : Nat) (w : World) : Prop :=
  ∃ xs v, St empH w0 none_ empH w [own 3 1 v xs.length (xs.map intV), blk q (.cells #[v] 24), blk p (.cells #[.string (bs l)] 9)] ∧ xs ++ eachL (jF l) l k = jumpsL l
theorem jF_len (l : List UInt8) (i : Nat) : (jF l i).length ≤ 1 := by unfold jF; split <;> simp
set_option maxRecDepth 100000 in
theorem jstep (l : List UInt8) (hl : l.length ≤ 1000) (w0 : World) (p q i : Nat) (d : ByteArray) (w : World) (hi : i < l.length) (h : JI l w0 p q i w) :
    Calls Tryd.prog 12 #[.int .i64 i, .string d, .pointer (some ⟨p, 0, none⟩), .pointer (some ⟨q, 0, none⟩)] w (EachP (JI l w0 p q) (nextI l i)) := by
  obtain ⟨xs, v, S, hx⟩ := h
  obtain ⟨A, c, rfl⟩ := own_slice S 0 rfl
  have HL : Hid (xs.length ≤ 1000) := Lib.hid (by
    have h1 := eachL_len (jF l) (jF_len l) l l.length 0 (by omega)
    have h2 : (xs ++ eachL (jF l) l i).length = (jumpsL l).length := by rw [hx]
    rw [List.length_append] at h2
    unfold jumpsL at h2
    omega)
  have hs := eachL_step (jF l) hi
  rw [hs] at hx
  have c1 : w.cell? ⟨p, 0, none⟩ = some (.string (bs l)) := S.cell 2 rfl rfl
  have c2 : w.cell? ⟨q, 0, none⟩ = some (.slice A xs.length c) := S.cell 1 rfl rfl
  have hsz : (bs l).size = l.length := bs_size l
  have hk2 : i < (bs l).size := by rw [hsz]; exact hi
  have HX := Lib.hid hx
  have HS := Lib.hid S
  obtain ⟨i0, hi0, hz0, hz1, hz2⟩ := info_parts infoInt
  clear hx S hs
  by_cases hj : (l.getD i 0).toNat = 91
  · have hb : ((((bs l)[i]'hk2).toNat : Int) == 91) = true := by rw [bs_at hk2, beq_iff_eq]; omega
    have HJ := Lib.hid (show jF l i = [i] by unfold jF; rw [if_pos hj])
    clear hj
    have HS1 := Lib.hid (HS.out.alloc (.cells #[.int .i64 i] 3))
    go_enter Tryd.func12, Tryd.ntmps12
    go_wp2_with (first
      | (at_builtin; refine wpList_append_st 1 3 HS1.out rfl rfl _ _ 24 rfl i0 _ 8 Tryd.underlying24 hi0 hz0 hz1 hz2 rfl (by decide) rfl ⟨w.heap.size, 0, none⟩ 1 1 [.int .i64 i] rfl rfl (fun j u hj => by
          rcases j with _ | j
          · cases hj; exact HS1.out.cell 0 rfl rfl
          · simp at hj) (by simp [Value.oneCell']) (by have := HL.out; unfold maxLen; omega) (by have := HL.out; omega) ?_)
      | fail)
    intro A' c' w2 S2
    have d1 : w2.cell? ⟨q, 0, none⟩ = some (.slice A xs.length c) := S2.cell 2 rfl rfl
    have f1 : w2.frozen? ⟨q, 0, none⟩ = false := S2.frozen 2 rfl 0
    have HS2 := Lib.hid S2
    clear S2 c1 c2
    go_wp2_with fail
    go_end0
    refine ⟨rfl, xs ++ [i], .slice A' (xs.length + 1) c', ?_, ?_⟩
    · have S3 := ((HS2.out.drop 1).setCell (j := 0) 1 rfl (.slice A' (xs.length + 1) c')).pick 1 rfl
      simpa [intV] using S3
    · rw [← HX.out, HJ.out, List.append_assoc]
  · have hb : ((((bs l)[i]'hk2).toNat : Int) == 91) = false := by rw [bs_at hk2, beq_eq_false_iff_ne]; omega
    have HJ := Lib.hid (show jF l i = [] by unfold jF; rw [if_neg hj])
    clear hj
    go_enter Tryd.func12, Tryd.ntmps12
    go_wp2_with fail
    go_end0
    exact ⟨rfl, xs, _, HS.out, by rw [← HX.out, HJ.out]; rfl⟩
/-- A slice of numbers that a call has made. -/
def IntsP (xs : List Nat) (w : World) (e : Ending) (w' : World) : Prop := ∃ v, e = .returned v ∧ St empH w none_ empH w' [own 3 1 v xs.length (xs.map intV)]
set_option maxRecDepth 100000 in
theorem jumps_any (l : List UInt8) (hl : l.length ≤ 1000) (w : World) : Calls Tryd.prog 6 #[.string (bs l)] w (IntsP (jumpsL l) w) := by
  have HS0 : Hid (St empH w none_ empH ((w.alloc (.cells #[.string (bs l)] 9)).alloc (.cells #[.slice none 0 0] 24)) [blk (w.heap.size + 1) (.cells #[.slice none 0 0] 24), blk w.heap.size (.cells #[.string (bs l)] 9)]) :=
    Lib.hid (((St.start (ag_emp w)).alloc _).alloc' _ _ (by simp))
  have HE := Lib.hid (each_any 12 callJ #[.pointer (some ⟨w.heap.size, 0, none⟩), .pointer (some ⟨w.heap.size + 1, 0, none⟩)] l hl (JI l w w.heap.size (w.heap.size + 1)) (fun i w2 hi h => jstep l hl w _ _ i _ w2 hi h) _ ⟨[], .slice none 0 0, HS0.out.own_nil, rfl⟩)
  clear hl
  go_enter Tryd.func6, Tryd.ntmps6
  go_wp2_with fail
  refine HE.out.mono ?_
  rintro e w2 ⟨rfl, xs, v, S, hx⟩
  rw [eachL_end, List.append_nil] at hx
  subst hx
  obtain ⟨A, c, rfl⟩ := own_slice S 0 rfl
  have c2 : w2.cell? ⟨w.heap.size + 1, 0, none⟩ = some (.slice A (jumpsL l).length c) := S.cell 1 rfl rfl
  have f2 : w2.frozen? ⟨w.heap.size + 1, 0, none⟩ = false := S.frozen 1 rfl 0
  have HS := Lib.hid S
  clear S HS0 HE
  go_wp2_with fail
  have S3 := HS.out.setCell (j := 0) 1 rfl (.slice A (jumpsL l).length c)
  have c3 : (w2.setCell ⟨w.heap.size + 1, 0, none⟩ (.slice A (jumpsL l).length c)).cell? ⟨w.heap.size + 1, 0, none⟩ = some (.slice A (jumpsL l).length c) := S3.cell 0 rfl rfl
  exact bodyPost_ret (v := .slice A (jumpsL l).length c) (by simp [results, Tryd.results6, go_sem, c3]) rfl ⟨_, rfl, (S3.drop 2).drop 0⟩
end Go.Proofs.YtfphlkkhpccpnabDoor
