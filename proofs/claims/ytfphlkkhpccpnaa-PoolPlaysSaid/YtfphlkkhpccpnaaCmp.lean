/-
  cmp.Compare, cmp.Or, and the order of the pool's list.
-/
import Derived.Test.YtfphlkkhpccpnaaTx
import Derived.Test.YtfphlkkhpccpnaaProg
import Derived.Laws.Cover1
import Derived.WalkSpells
import Derived.Deep.RegionWith
import Derived.Deep.RegionHeld3
import Derived.Sort.Grow
import Derived.Shelf.SlSortCmp.QuietGrown
import Derived.KernelRfl
namespace Go.Proofs.Ytfphlkkhpccpnaa
open Go.RowKit Go.Proofs K

def ltB (x y : ByteArray) : Bool := Op.bytesLess x.toList y.toList
def cmpB (x y : ByteArray) : Int := if ltB x y then -1 else if x.toList == y.toList then 0 else 1
def cmpI (x y : Int) : Int := if x < y then -1 else if x > y then 1 else 0

def orI (x y : Int) : Int := if x = 0 then y else x

def RetI (n : Int) (w : World) (e : Ending) (w' : World) : Prop := e = .returned (.int .i64 n) ∧ w' = w
set_option maxHeartbeats 400000 in
theorem cmpS_any (x y : ByteArray) (w : World) : Calls Try.prog 22 #[.string x, .string y] w (RetI (cmpB x y) w) := by
  go_enter Try.func22, Try.ntmps22
  go_wp2
  · have h : Op.bytesLess x.toList y.toList = true := by assumption
    go_ret
    exact ⟨by simp [cmpB, ltB, h], rfl⟩
  all_goals
    have h : Op.bytesLess x.toList y.toList = false := by assumption
    rename_i h2
    go_ret
    refine ⟨?_, rfl⟩
    simp only [Bool.not_eq_true', Bool.not_eq_false'] at h2
    simp [cmpB, ltB, h]
    simpa using h2
set_option maxHeartbeats 400000 in
theorem cmpN_any (x y : Int) (w : World) : Calls Try.prog 23 #[.int .u64 x, .int .u64 y] w (RetI (cmpI x y) w) := by
  go_enter Try.func23, Try.ntmps23
  go_wp2
  all_goals
    go_ret
    refine ⟨?_, rfl⟩
    simp_all [cmpI]
  rw [if_neg (by omega), if_neg (by omega)]
set_option maxHeartbeats 400000 in
theorem cmpOr_any (x y : Int) (b : Nat) (w : World) (h0 : w.cell? ⟨b, 0, none⟩ = some (.int .i64 x)) (h1 : w.cell? ⟨b, 1, none⟩ = some (.int .i64 y)) : Calls Try.prog 21 #[.slice (some ⟨b, 0, none⟩) 2 2] w (RetI (orI x y) w) := by
  go_enter Try.func21, Try.ntmps21
  go_wp2
  go_loopw [8] (fun i wr => ∃ k : Nat, i = .int .i64 k ∧ k ≤ 2 ∧ (0 < k → x = 0) ∧ (1 < k → y = 0) ∧ wr = w) (fun i _ => 2 - (intOf i).toNat)
  case atStart => exact ⟨0, rfl, by omega, by omega, by omega, rfl⟩
  case round =>
    obtain ⟨k, rfl, hk, hx, hy, rfl⟩ := hrel
    match k, hk with
    | 0, _ =>
      go_wp2
      · have h2 : (x != 0) = true := by assumption
        have h3 : x ≠ 0 := by simpa using h2
        go_ret
        exact ⟨by simp [orI, h3], rfl⟩
      · have h2 : (x != 0) = false := by assumption
        have h3 : x = 0 := by simpa using h2
        go_roundw
        case rel => exact ⟨1, rfl, by omega, fun _ => h3, by omega, by first | rfl | trivial⟩
        case measure => simp [intOf]
    | 1, _ =>
      go_wp2
      · have h2 : (y != 0) = true := by assumption
        go_ret
        exact ⟨by simp [orI, hx (by omega)], rfl⟩
      · have h2 : (y != 0) = false := by assumption
        have h3 : y = 0 := by simpa using h2
        go_roundw
        case rel => exact ⟨2, rfl, by omega, fun _ => hx (by omega), fun _ => h3, by first | rfl | trivial⟩
        case measure => simp [intOf]
    | 2, _ =>
      go_wp2
      go_ret
      exact ⟨by simp [orI, hx (by omega), hy (by omega)], rfl⟩

theorem cmpOr_new (x y : Int) (W : World) : Calls Try.prog 21 #[.slice (some ⟨W.heap.size, 0, none⟩) 2 2] (W.alloc (.cells #[.int .i64 x, .int .i64 y] 3)).drew (RetI (orI x y) (W.alloc (.cells #[.int .i64 x, .int .i64 y] 3)).drew) :=
  cmpOr_any x y _ _ ((cell_of_row (W.alloc _).drew _ _ _ _ (0, 0) (heap_alloc_new W _)).trans rfl) ((cell_of_row (W.alloc _).drew _ _ _ _ (0, 0) (heap_alloc_new W _)).trans rfl)

/-- How two that wait are compared. -/
def cmpT (x y : TxS) : Int := orI (cmpB x.frm y.frm) (cmpI x.nonce y.nonce)
def GrowI (n : Int) (w : World) (e : Ending) (w' : World) : Prop := e = .returned (.int .i64 n) ∧ ∃ p : GrownBy, w' = Go.Sort.grow (w.drewN p.n) p.os
def Gr (w w' : World) : Prop := ∃ p : GrownBy, w' = Go.Sort.grow (w.drewN p.n) p.os
theorem Gr.refl (w : World) : Gr w w := ⟨⟨0, #[]⟩, by rw [Go.Sort.grow_empty]; rfl⟩
theorem Gr.trans {w w' w'' : World} (h : Gr w w') (k : Gr w' w'') : Gr w w'' := by
  obtain ⟨p, rfl⟩ := h
  obtain ⟨q, rfl⟩ := k
  exact ⟨⟨p.n + q.n, p.os ++ q.os⟩, by show Go.Sort.grow (Go.Sort.grow ((w.drewN p.n).drewN q.n) p.os) q.os = _; rw [Go.Sort.grow_grow, World.drewN_drewN]⟩
theorem Gr.drew {w w' : World} (h : Gr w w') : Gr w w'.drew := by
  obtain ⟨p, rfl⟩ := h
  exact ⟨⟨p.n + 1, p.os⟩, rfl⟩
theorem Gr.alloc {w w' : World} (h : Gr w w') (o : Obj) : Gr w (w'.alloc o) := by
  obtain ⟨p, rfl⟩ := h
  exact ⟨⟨p.n, p.os ++ #[o]⟩, by rw [Go.Sort.alloc_eq_grow, Go.Sort.grow_grow]⟩
theorem Gr.below {w w' : World} (h : Gr w w') : Below w.heap.size w w' := by
  obtain ⟨p, rfl⟩ := h
  refine ⟨rfl, rfl, rfl, ?_, fun k hk => ?_⟩
  · show _ ≤ ((w.drewN p.n).heap ++ p.os).size
    rw [Array.size_append]
    exact Nat.le_add_right _ _
  · show (w.heap ++ p.os)[k]? = _
    rw [Array.getElem?_append_left hk]

theorem loadTx' (ev : Operand → Value) (dst : Option Tmp) (x : Operand) (t : TypeId) (pos : String) (after : Array Edge) (g : Option (Nat × Bool)) (w : World) : (execOp ev ⟨dst, .load 33 x, t, pos, after, g⟩).run Try.prog w = loadWhole Try.prog 19 ev ⟨dst, .load 33 x, t, pos, after, g⟩ w (ev x) :=
  exec_load_row 33 _ 19 Try.underlying33 rfl (by kernel_rfl) ev dst x t pos after g w

set_option maxRecDepth 100000 in
set_option maxHeartbeats 1000000 in
theorem cmpT_any (x y : TxS) (s s' : Value) (w : World) : Calls Try.prog 20 #[.agg (x.cells s), .agg (y.cells s')] w (GrowI (cmpT x y) w) := by
  obtain ⟨W, hW⟩ : ∃ W, W = (w.alloc (x.obj s)).alloc (y.obj s') := ⟨_, rfl⟩
  have g0 := Lib.hid (show Gr w W by rw [hW]; exact ((Gr.refl w).alloc _).alloc _)
  have S := Lib.hid (((St.start (ag_emp w)).alloc (x.obj s)).alloc' (y.obj s') (w.heap.size + 1) (by simp))
  rw [← hW] at S
  have fx1 : ∀ w', Gr W w' → w'.cell? ⟨w.heap.size, 1, none⟩ = some (.string x.frm) := fun w' h => cell_later h.below (S.out.cell 1 rfl rfl)
  have fx3 : ∀ w', Gr W w' → w'.cell? ⟨w.heap.size, 3, none⟩ = some (.int .u64 x.nonce) := fun w' h => cell_later h.below (S.out.cell 1 rfl rfl)
  have fy1 : ∀ w', Gr W w' → w'.cell? ⟨w.heap.size + 1, 1, none⟩ = some (.string y.frm) := fun w' h => cell_later h.below (S.out.cell 0 rfl rfl)
  have fy3 : ∀ w', Gr W w' → w'.cell? ⟨w.heap.size + 1, 3, none⟩ = some (.int .u64 y.nonce) := fun w' h => cell_later h.below (S.out.cell 0 rfl rfl)
  have HW := Lib.hid hW
  clear hW S
  simp only [TxS.cells]
  go_enter Try.func20, Try.ntmps20
  go_wp2_with fail
  have eW := HW.out
  simp only [TxS.obj, TxS.cells] at eW
  rw [← eW]
  clear eW
  go_region_held3 (fun w' => Gr W w') (repeat (first | assumption | exact Gr.refl _ | apply Gr.drew | apply Gr.alloc))
    (first
      | (go_at_call 22; refine (cmpS_any _ _ _).mono ?_; rintro e w4 ⟨rfl, rfl⟩)
      | (go_at_call 23; refine (cmpN_any _ _ _).mono ?_; rintro e w4 ⟨rfl, rfl⟩)
      | (go_at_call 21; refine (cmpOr_new _ _ _).mono ?_; rintro e w4 ⟨rfl, rfl⟩))
  all_goals
    rename_i hg
    have hg' := g0.out.trans hg
    clear fx1 fx3 fy1 fy3 hg
    go_wp2_with fail
    go_ret
    exact ⟨rfl, hg'⟩
end Go.Proofs.Ytfphlkkhpccpnaa
