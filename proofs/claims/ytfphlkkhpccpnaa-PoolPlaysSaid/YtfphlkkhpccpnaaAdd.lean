/-
  Add.
-/
import Derived.Test.YtfphlkkhpccpnaaGet
import Derived.Test.YtfphlkkhpccpnaaRight
import Derived.Deep.WholeRow
namespace Go.Proofs.Ytfphlkkhpccpnaa
open Go.RowKit Go.Proofs K

theorem loadTx (ev : Operand → Value) (dst : Option Tmp) (x : Operand) (t : TypeId) (pos : String) (after : Array Edge) (g : Option (Nat × Bool)) (w : World) :
    (execOp ev ⟨dst, .load 33 x, t, pos, after, g⟩).run Try.prog w = loadWhole Try.prog 19 ev ⟨dst, .load 33 x, t, pos, after, g⟩ w (ev x) :=
  exec_load_row 33 _ 19 Try.underlying33 rfl (by kernel_rfl) ev dst x t pos after g w
attribute [local go_sem ↓] loadTx
attribute [local go_sem] TxS.size_cells loadWhole_at

/-- What Add tells, and what waits behind it. -/
def addE (l : List TxS) (t : TxS) : Int := if !rightB t then 1 else if (l.find? (isKey (t.frm, t.nonce))).isSome then 18 else if l.length = 64 then 3 else 0
def addL (l : List TxS) (t : TxS) : List TxS := if addE l t = 0 then l ++ [t] else l
def AddP (p : Nat) (l : List TxS) (t : TxS) (F : Nat → Prop) (H : Hs) (w : World) (e : Ending) (w' : World) : Prop :=
  ∃ m' H', e = .returned (.int .i64 (addE l t)) ∧ Txs H' m' (addL l t) ∧ St H w F H' w' [poolP p m']

theorem add1 {l : List TxS} {t : TxS} (h : (!rightB t) = true) : addE l t = 1 := by simp [addE, h]
theorem add18 {l : List TxS} {t : TxS} (h : (!rightB t) = false) (h2 : (l.find? (isKey (t.frm, t.nonce))).isSome = true) : addE l t = 18 := by simp [addE, h, h2]
theorem add3 {l : List TxS} {t : TxS} (h : (!rightB t) = false) (h2 : (l.find? (isKey (t.frm, t.nonce))).isSome = false) (h3 : l.length = 64) : addE l t = 3 := by simp [addE, h, h2, h3]
theorem add0 {l : List TxS} {t : TxS} (h : (!rightB t) = false) (h2 : (l.find? (isKey (t.frm, t.nonce))).isSome = false) (h3 : ¬ l.length = 64) : addE l t = 0 := by simp [addE, h, h2, h3]
theorem add_no {p c : Nat} {m : List (Ky × Value)} {l : List TxS} {t : TxS} {F : Nat → Prop} {H : Hs} {w w4 : World} {a b d : Hp} {n : Int} (hl : Txs H m l) (S : St H w F H w4 [a, b, d, blk p (poolO c), mapP encK c m]) (hn : addE l t = n) (h0 : n ≠ 0) :
    AddP p l t F H w (.returned (.int .i64 n)) w4 := by
  subst hn
  exact ⟨m, H, rfl, by rw [addL, if_neg h0]; exact hl, shutPool (((S.drop 0).drop 0).drop 0)⟩

set_option maxRecDepth 100000 in
set_option maxHeartbeats 2000000 in
theorem add_any (p : Nat) (m : List (Ky × Value)) (l : List TxS) (t : TxS) (s : Value) (F : Nat → Prop) (Ha H : Hs) (w : World) (ha : Ag Ha w) (hFa : ∀ b, F b → Ha b = none) (hw : Ag H w) (hp : (poolP p m).holds F w) (hF : ∀ b, F b → b < w.heap.size ∧ H b = none) (hl : Txs H m l)
    (hs : RepV Ha s (accsD t.acc)) (ht : t.small) :
    Calls Try.prog 9 #[.pointer (some ⟨p, 0, none⟩), .agg (t.cells s)] w (AddP p l t F H w) := by
  obtain ⟨c, S0⟩ := openPool (St.begin hw hp hF) 0 rfl
  have S := Lib.hid ((S0.alloc (t.obj s)).alloc' (.cells #[.string t.frm, .int .u64 t.nonce] 61) (w.heap.size + 1) (by simp))
  obtain ⟨W, hW⟩ : ∃ W, W = (w.alloc (t.obj s)).alloc (.cells #[.string t.frm, .int .u64 t.nonce] 61) := ⟨_, rfl⟩
  rw [← hW] at S
  have fp : ∀ w', Below W.heap.size W w' → w'.cell? ⟨p, 0, none⟩ = some (.map (some c)) := fun w' h => cell_later h (S.out.cell 2 rfl rfl)
  have f0 : ∀ w', Below W.heap.size W w' → w'.cell? ⟨w.heap.size + 1, 0, none⟩ = some (.string t.frm) := fun w' h => cell_later h (S.out.cell 0 rfl rfl)
  have f1 : ∀ w', Below W.heap.size W w' → w'.cell? ⟨w.heap.size + 1, 1, none⟩ = some (.int .u64 t.nonce) := fun w' h => cell_later h (S.out.cell 0 rfl rfl)
  obtain ⟨x, hx, hx1, hx2⟩ : ∃ x : Array Value, (mlook m (t.frm, t.nonce)).getD (.agg (tx0.cells (.slice none 0 0))) = .agg x ∧ x.size = 19 ∧ x.all (·.oneCell') = true := by
    rcases hl.look (t.frm, t.nonce) with ⟨h1, h2⟩ | ⟨t, s, h1, h2, h3⟩
    · exact ⟨tx0.cells (.slice none 0 0), by rw [h1]; rfl, rfl, oneTx⟩
    · obtain ⟨A, c', _, rfl, _⟩ := h3.sl_inv
      exact ⟨_, by rw [h1]; rfl, rfl, oneTx⟩
  have fl : ∀ w', Below W.heap.size W w' → (Instr.lookup 57 (.map (some c)) (.agg #[.string t.frm, .int .u64 t.nonce]) true).run Try.prog w' =
      .ok (.tuple #[.agg x, .bool (mlook m (t.frm, t.nonce)).isSome]) w' := fun w' h => by
    obtain ⟨F2, ⟨_, o, ho, hm⟩, _⟩ := (S.out.grow h).step (i := 3) rfl
    rw [← hx]
    exact lookup_run keyOk Try.underlying57 ho hm (zeroTx _) (t.frm, t.nonce) true
  have hfind := Lib.hid (show (mlook m (t.frm, t.nonce)).isSome = (l.find? (isKey (t.frm, t.nonce))).isSome from by rcases hl.look (t.frm, t.nonce) with ⟨h1, h2⟩ | ⟨t, s, h1, h2, h3⟩ <;> rw [h1, h2] <;> rfl)
  have hmlen := Lib.hid hl.len
  have HL := Lib.hid hl
  have HT := Lib.hid hx
  have st2 : ∀ X : World, (storeCells ⟨X.heap.size, 0, none⟩ x.toList 0).run Try.prog ((X.alloc (.cells (tx0.cells (.slice none 0 0)) 33)).drew) = .ok () ((X.alloc (.cells x 33)).drew) :=
    fun X => run_storeCells_new (P := Try.prog) X.drew 33 (tx0.cells (.slice none 0 0)) x (by rw [hx1]; kernel_rfl) hx1.symm hx2
  have S3 : Hid (St H w F H ((W.alloc (.cells x 33)).drew) [blk W.heap.size (.cells x 33), blk (w.heap.size + 1) (.cells #[.string t.frm, .int .u64 t.nonce] 61), blk w.heap.size (t.obj s), blk p (poolO c), mapP encK c m]) :=
    (S.out.alloc' (.cells x 33) W.heap.size rfl).drew
  have HS := Lib.hid hs
  have hlen : t.acc.length ≤ 140737488355328 := by have := ht.acc; omega
  have HT2 := Lib.hid ht
  have HA := Lib.hid ha
  have HFA := Lib.hid hFa
  clear hx2 hs ht hl ha hFa
  have HW := Lib.hid hW
  clear hW hw hp hF S0 hx
  simp only [TxS.cells, tx0] at fl st2 ⊢
  go_enter Try.func9, Try.ntmps9
  go_wp2_with fail
  have eW := HW.out
  simp only [TxS.obj, TxS.cells] at eW
  rw [← eW]
  clear eW
  go_region_held3 (fun w' => Below W.heap.size W w') (repeat (first | assumption | exact Below.refl _ _ | apply Below.drew | (refine Below.alloc ?_ (by first | exact Nat.le_refl _ | exact Below.size (by assumption) | simp) _))) (fail)
  all_goals
    go_wp2_with (first
      | (refine wpList_load_st 2 S3.out rfl rfl 33 (.tmp 3) rfl rfl _ Try.underlying33 rfl szTx ?_)
      | (go_at_call 17; refine (right_any t s Ha H _ (S3.out.agOther HA.out HFA.out) S3.out.ag HS.out hlen).mono ?_; rintro e w4 ⟨rfl, S4'⟩; have S4 := Lib.hid (S3.out.more S4'); clear S4'; have h4p : w4.cell? ⟨p, 0, none⟩ = some (.map (some c)) := S4.out.cell 3 rfl rfl)
      | (refine wpList_maplen_st 4 S4.out rfl Try.underlying57 rfl _ rfl rfl ?_)
      | fail)
  all_goals first
    | (have e1 : (!rightB t) = true := by assumption
       go_ret
       exact add_no HL.out S4.out (add1 e1) (by decide))
    | (have e1 : (!rightB t) = false := by assumption
       have e2 : (mlook m (t.frm, t.nonce)).isSome = true := by assumption
       go_ret
       exact add_no HL.out S4.out (add18 e1 (hfind.out ▸ e2)) (by decide))
    | (have e1 : (!rightB t) = false := by assumption
       have e2 : (mlook m (t.frm, t.nonce)).isSome = false := by assumption
       have e3 : ((m.length : Int) == 64) = true := by assumption
       go_ret
       exact add_no HL.out S4.out (add3 e1 (hfind.out ▸ e2) (by have := hmlen.out; simp at e3; omega)) (by decide))
    | skip
  all_goals
    have e1 := Lib.hid (show (!rightB t) = false by assumption)
    have e2 := Lib.hid (show (mlook m (t.frm, t.nonce)).isSome = false by assumption)
    have e3 := Lib.hid (show ((m.length : Int) == 64) = false by assumption)
    clear fp f0 f1 fl st2 S3 h4p
    obtain ⟨F2, ⟨hc1, o, ho, hm⟩, hF2, _⟩ := S4.out.step (i := 4) rfl
    have hne : ∀ {b : Nat} {cs : Array Value} {ty : TypeId} (i : Nat), ([blk W.heap.size (.cells x 33), blk (w.heap.size + 1) (.cells #[.string t.frm, .int .u64 t.nonce] 61), blk w.heap.size (t.obj s), blk p (poolO c), mapP encK c m] : List Hp)[i]? = some (blk b (.cells cs ty)) → some b ≠ some c := by
      intro b cs ty i hi e
      cases e
      have := S4.out.blk_at i hi
      rw [ho] at this
      obtain ⟨es, ck, rfl, _⟩ := hm.ex
      cases this
    have gp : ∀ w', w4.grownBy w' (some c) → w'.cell? ⟨p, 0, none⟩ = some (.map (some c)) := fun w' h => h.cell (S4.out.cell 3 rfl rfl) (hne 3 rfl)
    have g0 : ∀ w', w4.grownBy w' (some c) → w'.cell? ⟨w.heap.size + 1, 0, none⟩ = some (.string t.frm) := fun w' h => h.cell (S4.out.cell 1 rfl rfl) (hne 1 rfl)
    have g1 : ∀ w', w4.grownBy w' (some c) → w'.cell? ⟨w.heap.size + 1, 1, none⟩ = some (.int .u64 t.nonce) := fun w' h => h.cell (S4.out.cell 1 rfl rfl) (hne 1 rfl)
    have gl : ∀ w', w4.grownBy w' (some c) → wholeAt w' w.heap.size = some (t.cells s) := fun w' h => wholeAt_of ((h.block _ (S4.out.blk_lt 2 rfl) (hne 2 rfl)).trans (S4.out.blk_at 2 rfl))
    obtain ⟨fo, hfo⟩ : ∃ fo : Value → Obj, ∀ v, (∀ w : World, w.heap[c]? = some o → (Instr.mapUpdate 57 (.map (some c)) (.agg #[.string t.frm, .int .u64 t.nonce]) v).run Try.prog w = .ok () { w with heap := w.heap.setIfInBounds c (fo v) }) ∧ IsMap encK (fo v) (put m (t.frm, t.nonce) v) :=
      ⟨fun v => Classical.choose (update_obj (c := c) keyOk Try.underlying57 hm (t.frm, t.nonce) v), fun v => Classical.choose_spec (update_obj (c := c) keyOk Try.underlying57 hm (t.frm, t.nonce) v)⟩
    have gu := fun v => (hfo v).1
    have HU := Lib.hid (fun v => (hfo v).2)
    have HO := Lib.hid ho
    clear hfo hm hF2 hc1 hne
    have hg0 : w4.grownBy w4.drew (some c) := ⟨rfl, rfl, rfl, Nat.le_refl _, fun _ _ _ => rfl⟩
    go_region_held3 (fun w' => w4.grownBy w' (some c)) (first | assumption | exact grown_set (by assumption) _)
      ((go_at_call 18; refine (clone18_of t s Ha H _ (S4.out.drew.agOther HA.out HFA.out) S4.out.drew.ag HS.out HT2.out).mono ?_; rintro e w5 ⟨s', H', Hn, rfl, hr5, S5', _, _, _⟩; have hg5 : w4.grownBy w5 (some c) := grown_drew (grown_of_below S5'.below c); have hc5 : w5.heap[c]? = some o := ((S5'.below.block c (Array.getElem?_eq_some_iff.1 ho).1).trans ho); have S5 := Lib.hid (S4.out.drew.more S5'); have HR5 := Lib.hid hr5; have HLE := Lib.hid S5'.le; clear S5' hr5))
    go_wp2_with fail
    go_ret
    have ha := add0 e1.out (hfind.out ▸ e2.out) (by have := hmlen.out; have := e3.out; simp at this; omega)
    exact ⟨_, H', congrArg (fun n => Ending.returned (.int .i64 n)) ha.symm, by rw [addL, if_pos ha]; exact (HL.out.le HLE.out).put HR5.out (by have := hfind.out ▸ e2.out; simpa using this), shutPool (((((S5.out.wroteMap 4 rfl (HU.out _)).pick 4 rfl).drop 2).drop 2).drop 2)⟩
end Go.Proofs.Ytfphlkkhpccpnaa
