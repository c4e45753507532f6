/-
  A deed, on both pools: they answer alike.
-/
import Derived.Test.YtfphlkkhpccpnaaDeed
import Derived.Deep.WholeRow
import Derived.BigFrame
namespace Go.Proofs.Ytfphlkkhpccpnaa.K
open Go.RowKit
section
variable {H0 H : Hs} {w0 w : World} {X : Nat → Prop} {ps : List Hp}
/-- A whole that lies in a block, loaded. -/
theorem wpList_loadBlk_st {P : Program} {ops : Array Oper} {rest : List Oper} {o : Oper} {a : Act} {Q : Exit → Act → World → Prop} {b q : Nat} {cs old : Array Value} {t : TypeId} {fr : Nat × Nat} (i : Nat) (S : St H0 w0 X H w ps) (hi : ps[i]? = some (blk b (.cells old t fr)))
    (hgd : o.guard = none) (ty : TypeId) (x : Operand) (ho : o.op = .load ty x) (hx : a.eval x = .pointer (some ⟨b, q, none⟩)) (d : TypeDesc)
    (hu : P.underlying ty = some d) (hd : (match d with | .struct _ | .array _ _ => true | _ => false) = true) (hs : (P.info? ty).map (·.size) = some cs.size) (hcs : ∀ j u, cs[j]? = some u → old[q + j]? = some u)
    (h : wpList P ops Q rest (a.put o.dst (.agg cs)) w) : wpList P ops Q (o :: rest) a w := by
  refine wpList_plain hgd fun K' hK => ?_
  have hr := run_loadVar_at (P := P) w ⟨b, q, none⟩ ty cs d (fun j u hj => by
    rw [Addr.add_lit]
    exact S.cell i hi (hcs j u hj)) hu hd hs
  unfold Oper.wp execOp
  simp only [ho, hx, Instr.loadAt, Instr.sureAddr, Sem.run_bind, Sem.run_pure, Result.andThen_ok, hr]
  exact hK _ _ h
end
end Go.Proofs.Ytfphlkkhpccpnaa.K
namespace Go.Proofs.Ytfphlkkhpccpnaa
open Go.RowKit Go.Proofs K
set_option linter.unusedVariables false

theorem wpList_load_gd {H0 H : Hs} {w0 w : World} {X : Nat → Prop} {ps : List Hp} {P : Program} {ops : Array Oper} {rest : List Oper} {o : Oper} {a : Act} {Q : Exit → Act → World → Prop} {b : Nat} {cs : Array Value} {t : TypeId} {fr : Nat × Nat} (i : Nat) (S : St H0 w0 X H w ps) (hi : ps[i]? = some (blk b (.cells cs t fr)))
    (ty : TypeId) (x : Operand) (ho : o.op = .load ty x) (hx : a.eval x = .pointer (some ⟨b, 0, none⟩)) (d : TypeDesc)
    (hu : P.underlying ty = some d) (hd : (match d with | .struct _ | .array _ _ => true | _ => false) = true) (hs : (P.info? ty).map (·.size) = some cs.size) (hw : Region.wanted o (yielded ops a.tmps) = true)
    (h : wpList P ops Q rest (a.put o.dst (.agg cs)) w) : wpList P ops Q (o :: rest) a w :=
  BigFrame.wpList_want hw fun _ hK => wp_load_row ty x ho b hx t cs fr d (S.blk_at i hi) hu hd hs (hK _ _ h)
def Both (l : List TxS) (p x : Nat) (H0 H : Hs) (w0 : World) (X : Nat → Prop) (ps : List Hp) (w' : World) : Prop :=
  ∃ m d A c H', Le H H' ∧ Alike l d ∧ Txs H' m l ∧ (∀ y ∈ d, RepV H' y.sl (accsD y.1.acc)) ∧ St H0 w0 X H' w' (poolP p m :: blk x (refO (.slice A d.length c)) :: own 33 19 (.slice A d.length c) d.length (d.flatMap encEl) :: ps)
def DoesS (l : List TxS) (p x : Nat) (H0 H : Hs) (w0 : World) (X : Nat → Prop) (ps : List Hp) (e : Ending) (w' : World) : Prop := e = .returned (.bool true) ∧ Both l p x H0 H w0 X ps w'
theorem got_same {l : List TxS} {d : List El} {H : Hs} (h : Alike l d) (hr : ∀ y ∈ d, RepV H y.sl (accsD y.1.acc)) (f : ByteArray) (n : Int) : ∃ A c, gotC d f n = (txGot l (f, n)).cells (.slice A (txGot l (f, n)).acc.length c) ∧ RepV H (.slice A (txGot l (f, n)).acc.length c) (accsD (txGot l (f, n)).acc) := by
  unfold gotC txGot
  have h1 := h.has f n
  cases hh : fhas d f n with
  | true =>
    obtain ⟨y, hy, hf⟩ := h.got hh
    rw [hy, hf]
    have h2 := hr y (List.mem_of_getElem? hy)
    obtain ⟨A, c, _, he, _⟩ := h2.sl_inv
    rw [he] at h2
    exact ⟨A, c, by simp only [Option.getD_some]; rw [he], h2⟩
  | false =>
    rw [hh] at h1
    have h2 : l.find? (isKey (f, n)) = none := by
      cases hf : l.find? (isKey (f, n)) with
      | none => rfl
      | some t => rw [hf] at h1; cases h1
    rw [h2]
    exact ⟨none, 0, rfl, rep_nil H⟩
theorem got_fits {l : List TxS} (h : Good l) (k : ByteArray × Int) : (txGot l k).fits := by
  unfold txGot
  cases hf : l.find? (isKey k) with
  | none => exact tx0_fits
  | some t => exact h.fits t (List.mem_of_find?_eq_some hf)
section
variable {H0 H : Hs} {w0 w : World} {X : Nat → Prop} {ps : List Hp} {p x : Nat}
theorem rdel_sub {d : List El} {f : ByteArray} {n : Int} {y : El} (h : y ∈ rdel d f n) : y ∈ d := by
  unfold rdel at h
  split at h
  · rcases List.mem_append.1 h with h | h
    · exact List.mem_of_mem_take h
    · exact List.mem_of_mem_drop h
  · exact h
set_option maxRecDepth 100000 in
set_option maxHeartbeats 8000000 in
theorem does_remove {m : List (Ky × Value)} {l : List TxS} {d : List El} {A : Option Addr} {c : Nat} (S : St H0 w0 X H w (poolP p m :: blk x (refO (.slice A d.length c)) :: own 33 19 (.slice A d.length c) d.length (d.flatMap encEl) :: ps)) (hA : Alike l d) (hM : Txs H m l) (hD : ∀ y ∈ d, RepV H y.sl (accsD y.1.acc)) (hG : Good l)
    (u : Dd) (hu : u.fits) (s : Value) (hs : RepV H s (accsD u.t.acc)) (hk : u.kind % 12 = 3) :
    Calls Try.prog 13 #[.pointer (some ⟨p, 0, none⟩), .pointer (some ⟨x, 0, none⟩), .agg (u.cells s)] w (DoesS (u.step l) p x H0 H w0 X ps) := by
  have HS2 := Lib.hid ((S.alloc (.cells (u.cells s) 52)).alloc' (.cells #[.string addrA, .string addrB, .string addrC] 9) (w.heap.size + 1) (by simp))
  have HAL := Lib.hid hA
  have HM := Lib.hid hM
  have HD := Lib.hid hD
  have HG := Lib.hid hG
  have HSV := Lib.hid hs
  have HU := Lib.hid hu
  have hl64 := hG.len
  have hdl : d.length ≤ 64 := by rw [← hA.len]; exact hG.len
  obtain ⟨ub1, ub2⟩ := hu.kind
  obtain ⟨ua1, ua2⟩ := hu.a
  obtain ⟨un1, un2⟩ := hu.n
  have k3 : (u.kind % 12 == 3) = true := beq_iff_eq.2 (by omega)
  have k4 : (u.kind % 12 == 4) = false := beq_eq_false_iff_ne.2 (by omega)
  have k5 : (u.kind % 12 == 5) = false := beq_eq_false_iff_ne.2 (by omega)
  rcases (by omega : u.a % 3 = 0 ∨ u.a % 3 = 1 ∨ u.a % 3 = 2) with h3 | h3 | h3
  · have HK : Hid (u.key = (addrA, u.n % 30)) := Lib.hid (by unfold Dd.key frm3; simp [h3])
    have HL' : Hid (u.step l = delT l (addrA, u.n % 30)) := Lib.hid (by unfold Dd.step; rw [if_pos hk, HK.out])
    have HS3 := Lib.hid ((HS2.out.drop 0).drop 0)
    clear HS2 hk
    simp only [Dd.cells]
    go_enter Try.func13, Try.ntmps13
    go_wp2_with fail
    refine (remove_st HS3.out 0 rfl HM.out addrA (u.n % 30)).mono ?_
    rintro e w1 ⟨rfl, S4⟩
    have HS4 : Hid (St H0 w0 X H w1 (blk x (refO (.slice A d.length c)) :: own 33 19 (.slice A d.length c) d.length (d.flatMap encEl) :: poolP p (del m (addrA, u.n % 30)) :: ps)) := (S4.pick 2 rfl).pick 2 rfl
    clear S4 HS3
    go_wp2_with fail
    refine (rremove_st HS4.out hdl addrA (u.n % 30)).mono ?_
    rintro e w2 ⟨A2, c2, rfl, S5⟩
    rw [HAL.out.has]
    have HS5 := Lib.hid (S5.pick 2 rfl)
    clear S5 HS4
    go_wp2_with fail
    go_ret
    exact ⟨rfl, _, _, A2, c2, H, Le.refl _, by rw [HL'.out]; exact HAL.out.del _ _, by rw [HL'.out]; exact HM.out.del _, (fun y hy => HD.out y (rdel_sub hy)), HS5.out⟩
  · have HK : Hid (u.key = (addrB, u.n % 30)) := Lib.hid (by unfold Dd.key frm3; simp [h3])
    have HL' : Hid (u.step l = delT l (addrB, u.n % 30)) := Lib.hid (by unfold Dd.step; rw [if_pos hk, HK.out])
    have HS3 := Lib.hid ((HS2.out.drop 0).drop 0)
    clear HS2 hk
    simp only [Dd.cells]
    go_enter Try.func13, Try.ntmps13
    go_wp2_with fail
    refine (remove_st HS3.out 0 rfl HM.out addrB (u.n % 30)).mono ?_
    rintro e w1 ⟨rfl, S4⟩
    have HS4 : Hid (St H0 w0 X H w1 (blk x (refO (.slice A d.length c)) :: own 33 19 (.slice A d.length c) d.length (d.flatMap encEl) :: poolP p (del m (addrB, u.n % 30)) :: ps)) := (S4.pick 2 rfl).pick 2 rfl
    clear S4 HS3
    go_wp2_with fail
    refine (rremove_st HS4.out hdl addrB (u.n % 30)).mono ?_
    rintro e w2 ⟨A2, c2, rfl, S5⟩
    rw [HAL.out.has]
    have HS5 := Lib.hid (S5.pick 2 rfl)
    clear S5 HS4
    go_wp2_with fail
    go_ret
    exact ⟨rfl, _, _, A2, c2, H, Le.refl _, by rw [HL'.out]; exact HAL.out.del _ _, by rw [HL'.out]; exact HM.out.del _, (fun y hy => HD.out y (rdel_sub hy)), HS5.out⟩
  · have HK : Hid (u.key = (addrC, u.n % 30)) := Lib.hid (by unfold Dd.key frm3; simp [h3])
    have HL' : Hid (u.step l = delT l (addrC, u.n % 30)) := Lib.hid (by unfold Dd.step; rw [if_pos hk, HK.out])
    have HS3 := Lib.hid ((HS2.out.drop 0).drop 0)
    clear HS2 hk
    simp only [Dd.cells]
    go_enter Try.func13, Try.ntmps13
    go_wp2_with fail
    refine (remove_st HS3.out 0 rfl HM.out addrC (u.n % 30)).mono ?_
    rintro e w1 ⟨rfl, S4⟩
    have HS4 : Hid (St H0 w0 X H w1 (blk x (refO (.slice A d.length c)) :: own 33 19 (.slice A d.length c) d.length (d.flatMap encEl) :: poolP p (del m (addrC, u.n % 30)) :: ps)) := (S4.pick 2 rfl).pick 2 rfl
    clear S4 HS3
    go_wp2_with fail
    refine (rremove_st HS4.out hdl addrC (u.n % 30)).mono ?_
    rintro e w2 ⟨A2, c2, rfl, S5⟩
    rw [HAL.out.has]
    have HS5 := Lib.hid (S5.pick 2 rfl)
    clear S5 HS4
    go_wp2_with fail
    go_ret
    exact ⟨rfl, _, _, A2, c2, H, Le.refl _, by rw [HL'.out]; exact HAL.out.del _ _, by rw [HL'.out]; exact HM.out.del _, (fun y hy => HD.out y (rdel_sub hy)), HS5.out⟩
set_option maxRecDepth 100000 in
set_option maxHeartbeats 8000000 in
theorem does_clear {m : List (Ky × Value)} {l : List TxS} {d : List El} {A : Option Addr} {c : Nat} (S : St H0 w0 X H w (poolP p m :: blk x (refO (.slice A d.length c)) :: own 33 19 (.slice A d.length c) d.length (d.flatMap encEl) :: ps)) (hA : Alike l d) (hM : Txs H m l) (hD : ∀ y ∈ d, RepV H y.sl (accsD y.1.acc)) (hG : Good l)
    (u : Dd) (hu : u.fits) (s : Value) (hs : RepV H s (accsD u.t.acc)) (hk : u.kind % 12 = 5) :
    Calls Try.prog 13 #[.pointer (some ⟨p, 0, none⟩), .pointer (some ⟨x, 0, none⟩), .agg (u.cells s)] w (DoesS (u.step l) p x H0 H w0 X ps) := by
  have HS2 := Lib.hid ((S.alloc (.cells (u.cells s) 52)).alloc' (.cells #[.string addrA, .string addrB, .string addrC] 9) (w.heap.size + 1) (by simp))
  have HAL := Lib.hid hA
  have HM := Lib.hid hM
  have HD := Lib.hid hD
  have HG := Lib.hid hG
  have HSV := Lib.hid hs
  have HU := Lib.hid hu
  have hl64 := hG.len
  have hdl : d.length ≤ 64 := by rw [← hA.len]; exact hG.len
  obtain ⟨ub1, ub2⟩ := hu.kind
  obtain ⟨ua1, ua2⟩ := hu.a
  obtain ⟨un1, un2⟩ := hu.n
  have k3 : (u.kind % 12 == 3) = false := beq_eq_false_iff_ne.2 (by omega)
  have k4 : (u.kind % 12 == 4) = false := beq_eq_false_iff_ne.2 (by omega)
  have k5 : (u.kind % 12 == 5) = true := beq_iff_eq.2 (by omega)
  rcases (by omega : u.a % 3 = 0 ∨ u.a % 3 = 1 ∨ u.a % 3 = 2) with h3 | h3 | h3
  · have HL' : Hid (u.step l = []) := Lib.hid (by unfold Dd.step; rw [if_neg (by omega), if_neg (by omega), if_pos hk])
    have HS3 := Lib.hid ((HS2.out.drop 0).drop 0)
    clear HS2 hk
    simp only [Dd.cells]
    go_enter Try.func13, Try.ntmps13
    go_wp2_with fail
    refine (clear_st HS3.out 0 rfl).mono ?_
    rintro e w1 ⟨rfl, S4⟩
    have HS4 := Lib.hid S4
    have c0 : w1.cell? ⟨x, 0, none⟩ = some (.slice A d.length c) := S4.cell 1 rfl rfl
    have f0 : w1.frozen? ⟨x, 0, none⟩ = false := S4.frozen 1 rfl 0
    clear S4 HS3
    go_wp2_with fail
    go_ret
    have S5 := ((HS4.out.setCell (j := 0) 1 rfl (.slice none 0 0)).drop 2).own_nil (e := 33) (size := 19)
    exact ⟨rfl, [], [], none, 0, H, Le.refl _, by rw [HL'.out]; exact Alike.nil, by rw [HL'.out]; exact .nil, (by simp), (S5.pick 1 rfl).pick 2 rfl⟩
  · have HL' : Hid (u.step l = []) := Lib.hid (by unfold Dd.step; rw [if_neg (by omega), if_neg (by omega), if_pos hk])
    have HS3 := Lib.hid ((HS2.out.drop 0).drop 0)
    clear HS2 hk
    simp only [Dd.cells]
    go_enter Try.func13, Try.ntmps13
    go_wp2_with fail
    refine (clear_st HS3.out 0 rfl).mono ?_
    rintro e w1 ⟨rfl, S4⟩
    have HS4 := Lib.hid S4
    have c0 : w1.cell? ⟨x, 0, none⟩ = some (.slice A d.length c) := S4.cell 1 rfl rfl
    have f0 : w1.frozen? ⟨x, 0, none⟩ = false := S4.frozen 1 rfl 0
    clear S4 HS3
    go_wp2_with fail
    go_ret
    have S5 := ((HS4.out.setCell (j := 0) 1 rfl (.slice none 0 0)).drop 2).own_nil (e := 33) (size := 19)
    exact ⟨rfl, [], [], none, 0, H, Le.refl _, by rw [HL'.out]; exact Alike.nil, by rw [HL'.out]; exact .nil, (by simp), (S5.pick 1 rfl).pick 2 rfl⟩
  · have HL' : Hid (u.step l = []) := Lib.hid (by unfold Dd.step; rw [if_neg (by omega), if_neg (by omega), if_pos hk])
    have HS3 := Lib.hid ((HS2.out.drop 0).drop 0)
    clear HS2 hk
    simp only [Dd.cells]
    go_enter Try.func13, Try.ntmps13
    go_wp2_with fail
    refine (clear_st HS3.out 0 rfl).mono ?_
    rintro e w1 ⟨rfl, S4⟩
    have HS4 := Lib.hid S4
    have c0 : w1.cell? ⟨x, 0, none⟩ = some (.slice A d.length c) := S4.cell 1 rfl rfl
    have f0 : w1.frozen? ⟨x, 0, none⟩ = false := S4.frozen 1 rfl 0
    clear S4 HS3
    go_wp2_with fail
    go_ret
    have S5 := ((HS4.out.setCell (j := 0) 1 rfl (.slice none 0 0)).drop 2).own_nil (e := 33) (size := 19)
    exact ⟨rfl, [], [], none, 0, H, Le.refl _, by rw [HL'.out]; exact Alike.nil, by rw [HL'.out]; exact .nil, (by simp), (S5.pick 1 rfl).pick 2 rfl⟩
set_option maxRecDepth 100000 in
set_option maxHeartbeats 8000000 in
theorem does_get {m : List (Ky × Value)} {l : List TxS} {d : List El} {A : Option Addr} {c : Nat} (S : St H0 w0 X H w (poolP p m :: blk x (refO (.slice A d.length c)) :: own 33 19 (.slice A d.length c) d.length (d.flatMap encEl) :: ps)) (hA : Alike l d) (hM : Txs H m l) (hD : ∀ y ∈ d, RepV H y.sl (accsD y.1.acc)) (hG : Good l)
    (u : Dd) (hu : u.fits) (s : Value) (hs : RepV H s (accsD u.t.acc)) (hk : u.kind % 12 = 4) :
    Calls Try.prog 13 #[.pointer (some ⟨p, 0, none⟩), .pointer (some ⟨x, 0, none⟩), .agg (u.cells s)] w (DoesS (u.step l) p x H0 H w0 X ps) := by
  have HS2 := Lib.hid ((S.alloc (.cells (u.cells s) 52)).alloc' (.cells #[.string addrA, .string addrB, .string addrC] 9) (w.heap.size + 1) (by simp))
  have HAL := Lib.hid hA
  have HM := Lib.hid hM
  have HD := Lib.hid hD
  have HG := Lib.hid hG
  have HSV := Lib.hid hs
  have HU := Lib.hid hu
  have hl64 := hG.len
  have hdl : d.length ≤ 64 := by rw [← hA.len]; exact hG.len
  obtain ⟨ub1, ub2⟩ := hu.kind
  obtain ⟨ua1, ua2⟩ := hu.a
  obtain ⟨un1, un2⟩ := hu.n
  have k3 : (u.kind % 12 == 3) = false := beq_eq_false_iff_ne.2 (by omega)
  have k4 : (u.kind % 12 == 4) = true := beq_iff_eq.2 (by omega)
  have k5 : (u.kind % 12 == 5) = false := beq_eq_false_iff_ne.2 (by omega)
  rcases (by omega : u.a % 3 = 0 ∨ u.a % 3 = 1 ∨ u.a % 3 = 2) with h3 | h3 | h3
  · have HL' : Hid (u.step l = l) := Lib.hid (by unfold Dd.step; rw [if_neg (by omega), if_pos hk])
    have HS3 := Lib.hid ((HS2.out.drop 0).drop 0)
    clear HS2 hk
    simp only [Dd.cells]
    go_enter Try.func13, Try.ntmps13
    go_wp2_with fail
    refine (get_st HS3.out 0 rfl HM.out HG.out.small addrA (u.n % 30)).mono ?_
    rintro e w1 ⟨A4, c4, H4, rfl, hle, hr4, S4⟩
    have HS4 : Hid (St H0 w0 X H4 (w1.alloc (tx0.obj (.slice none 0 0))) (blk w1.heap.size (tx0.obj (.slice none 0 0)) :: poolP p m :: blk x (refO (.slice A d.length c)) :: own 33 19 (.slice A d.length c) d.length (d.flatMap encEl) :: ps)) := S4.alloc _
    have HLE := Lib.hid hle
    have HR4 := Lib.hid hr4
    have HD4 : Hid (∀ y ∈ d, RepV H4 y.sl (accsD y.1.acc)) := Lib.hid fun y hy => (HD.out y hy).le hle
    obtain ⟨A5, c5, hgc, hr5⟩ := got_same HAL.out HD4.out addrA (u.n % 30)
    have HGF := Lib.hid (got_fits HG.out (addrA, u.n % 30))
    have HR5 := Lib.hid hr5
    have HGC := Lib.hid hgc
    clear S4 HS3 hle hr4 hgc hr5
    generalize txGot l (addrA, u.n % 30) = g at HR4 HR5 HGF HGC
    go_wp2_with (first
      | (refine wpList_store_st (cs := g.cells (.slice A4 g.acc.length c4)) 0 HS4.out rfl rfl 33 (.tmp 9) (.tmp 45) rfl rfl rfl szTx rfl oneTx ?_)
      | fail)
    intro w2 S5
    have HS5 : Hid (St H0 w0 X H4 w2 (blk w1.heap.size (g.obj (.slice A4 g.acc.length c4)) :: poolP p m :: blk x (refO (.slice A d.length c)) :: own 33 19 (.slice A d.length c) d.length (d.flatMap encEl) :: ps)) := S5
    clear S5 HS4
    go_wp2_with fail
    refine (rget_st HS5.out 2 rfl 3 rfl hdl addrA (u.n % 30)).mono ?_
    rintro e w3 ⟨rfl, S6⟩
    rw [HAL.out.has, HGC.out]
    have HS6 : Hid (St H0 w0 X H4 (w3.alloc (tx0.obj (.slice none 0 0))) (blk w3.heap.size (tx0.obj (.slice none 0 0)) :: blk w1.heap.size (g.obj (.slice A4 g.acc.length c4)) :: poolP p m :: blk x (refO (.slice A d.length c)) :: own 33 19 (.slice A d.length c) d.length (d.flatMap encEl) :: ps)) := S6.alloc _
    clear S6 HS5
    go_wp2_with (first
      | (refine wpList_store_st (cs := g.cells (.slice A5 g.acc.length c5)) 0 HS6.out rfl rfl 33 (.tmp 11) (.tmp 52) rfl rfl rfl szTx rfl oneTx ?_)
      | fail)
    intro w4 S7
    have HS7 : Hid (St H0 w0 X H4 w4 (blk w3.heap.size (g.obj (.slice A5 g.acc.length c5)) :: blk w1.heap.size (g.obj (.slice A4 g.acc.length c4)) :: poolP p m :: blk x (refO (.slice A d.length c)) :: own 33 19 (.slice A d.length c) d.length (d.flatMap encEl) :: ps)) := S7
    clear S7 HS6
    go_wp2_with (first
      | (refine wpList_load_gd (cs := g.cells (.slice A4 g.acc.length c4)) 1 HS7.out rfl 33 (.tmp 9) rfl rfl _ Try.underlying33 rfl szTx rfl ?_)
      | (refine wpList_load_gd (cs := g.cells (.slice A5 g.acc.length c5)) 0 HS7.out rfl 33 (.tmp 11) rfl rfl _ Try.underlying33 rfl szTx rfl ?_)
      | fail)
    refine (same_any g _ _ H4 _ HS7.out.ag HR4.out HR5.out HGF.out).mono ?_
    rintro e w5 ⟨rfl, hb5⟩
    have HS8 := Lib.hid (((HS7.out.grow hb5).drop 0).drop 0)
    go_wp2_with fail
    go_ret
    exact ⟨rfl, m, d, A, c, H4, HLE.out, by rw [HL'.out]; exact HAL.out, by rw [HL'.out]; exact HM.out.le HLE.out, HD4.out, HS8.out⟩
  · have HL' : Hid (u.step l = l) := Lib.hid (by unfold Dd.step; rw [if_neg (by omega), if_pos hk])
    have HS3 := Lib.hid ((HS2.out.drop 0).drop 0)
    clear HS2 hk
    simp only [Dd.cells]
    go_enter Try.func13, Try.ntmps13
    go_wp2_with fail
    refine (get_st HS3.out 0 rfl HM.out HG.out.small addrB (u.n % 30)).mono ?_
    rintro e w1 ⟨A4, c4, H4, rfl, hle, hr4, S4⟩
    have HS4 : Hid (St H0 w0 X H4 (w1.alloc (tx0.obj (.slice none 0 0))) (blk w1.heap.size (tx0.obj (.slice none 0 0)) :: poolP p m :: blk x (refO (.slice A d.length c)) :: own 33 19 (.slice A d.length c) d.length (d.flatMap encEl) :: ps)) := S4.alloc _
    have HLE := Lib.hid hle
    have HR4 := Lib.hid hr4
    have HD4 : Hid (∀ y ∈ d, RepV H4 y.sl (accsD y.1.acc)) := Lib.hid fun y hy => (HD.out y hy).le hle
    obtain ⟨A5, c5, hgc, hr5⟩ := got_same HAL.out HD4.out addrB (u.n % 30)
    have HGF := Lib.hid (got_fits HG.out (addrB, u.n % 30))
    have HR5 := Lib.hid hr5
    have HGC := Lib.hid hgc
    clear S4 HS3 hle hr4 hgc hr5
    generalize txGot l (addrB, u.n % 30) = g at HR4 HR5 HGF HGC
    go_wp2_with (first
      | (refine wpList_store_st (cs := g.cells (.slice A4 g.acc.length c4)) 0 HS4.out rfl rfl 33 (.tmp 9) (.tmp 45) rfl rfl rfl szTx rfl oneTx ?_)
      | fail)
    intro w2 S5
    have HS5 : Hid (St H0 w0 X H4 w2 (blk w1.heap.size (g.obj (.slice A4 g.acc.length c4)) :: poolP p m :: blk x (refO (.slice A d.length c)) :: own 33 19 (.slice A d.length c) d.length (d.flatMap encEl) :: ps)) := S5
    clear S5 HS4
    go_wp2_with fail
    refine (rget_st HS5.out 2 rfl 3 rfl hdl addrB (u.n % 30)).mono ?_
    rintro e w3 ⟨rfl, S6⟩
    rw [HAL.out.has, HGC.out]
    have HS6 : Hid (St H0 w0 X H4 (w3.alloc (tx0.obj (.slice none 0 0))) (blk w3.heap.size (tx0.obj (.slice none 0 0)) :: blk w1.heap.size (g.obj (.slice A4 g.acc.length c4)) :: poolP p m :: blk x (refO (.slice A d.length c)) :: own 33 19 (.slice A d.length c) d.length (d.flatMap encEl) :: ps)) := S6.alloc _
    clear S6 HS5
    go_wp2_with (first
      | (refine wpList_store_st (cs := g.cells (.slice A5 g.acc.length c5)) 0 HS6.out rfl rfl 33 (.tmp 11) (.tmp 52) rfl rfl rfl szTx rfl oneTx ?_)
      | fail)
    intro w4 S7
    have HS7 : Hid (St H0 w0 X H4 w4 (blk w3.heap.size (g.obj (.slice A5 g.acc.length c5)) :: blk w1.heap.size (g.obj (.slice A4 g.acc.length c4)) :: poolP p m :: blk x (refO (.slice A d.length c)) :: own 33 19 (.slice A d.length c) d.length (d.flatMap encEl) :: ps)) := S7
    clear S7 HS6
    go_wp2_with (first
      | (refine wpList_load_gd (cs := g.cells (.slice A4 g.acc.length c4)) 1 HS7.out rfl 33 (.tmp 9) rfl rfl _ Try.underlying33 rfl szTx rfl ?_)
      | (refine wpList_load_gd (cs := g.cells (.slice A5 g.acc.length c5)) 0 HS7.out rfl 33 (.tmp 11) rfl rfl _ Try.underlying33 rfl szTx rfl ?_)
      | fail)
    refine (same_any g _ _ H4 _ HS7.out.ag HR4.out HR5.out HGF.out).mono ?_
    rintro e w5 ⟨rfl, hb5⟩
    have HS8 := Lib.hid (((HS7.out.grow hb5).drop 0).drop 0)
    go_wp2_with fail
    go_ret
    exact ⟨rfl, m, d, A, c, H4, HLE.out, by rw [HL'.out]; exact HAL.out, by rw [HL'.out]; exact HM.out.le HLE.out, HD4.out, HS8.out⟩
  · have HL' : Hid (u.step l = l) := Lib.hid (by unfold Dd.step; rw [if_neg (by omega), if_pos hk])
    have HS3 := Lib.hid ((HS2.out.drop 0).drop 0)
    clear HS2 hk
    simp only [Dd.cells]
    go_enter Try.func13, Try.ntmps13
    go_wp2_with fail
    refine (get_st HS3.out 0 rfl HM.out HG.out.small addrC (u.n % 30)).mono ?_
    rintro e w1 ⟨A4, c4, H4, rfl, hle, hr4, S4⟩
    have HS4 : Hid (St H0 w0 X H4 (w1.alloc (tx0.obj (.slice none 0 0))) (blk w1.heap.size (tx0.obj (.slice none 0 0)) :: poolP p m :: blk x (refO (.slice A d.length c)) :: own 33 19 (.slice A d.length c) d.length (d.flatMap encEl) :: ps)) := S4.alloc _
    have HLE := Lib.hid hle
    have HR4 := Lib.hid hr4
    have HD4 : Hid (∀ y ∈ d, RepV H4 y.sl (accsD y.1.acc)) := Lib.hid fun y hy => (HD.out y hy).le hle
    obtain ⟨A5, c5, hgc, hr5⟩ := got_same HAL.out HD4.out addrC (u.n % 30)
    have HGF := Lib.hid (got_fits HG.out (addrC, u.n % 30))
    have HR5 := Lib.hid hr5
    have HGC := Lib.hid hgc
    clear S4 HS3 hle hr4 hgc hr5
    generalize txGot l (addrC, u.n % 30) = g at HR4 HR5 HGF HGC
    go_wp2_with (first
      | (refine wpList_store_st (cs := g.cells (.slice A4 g.acc.length c4)) 0 HS4.out rfl rfl 33 (.tmp 9) (.tmp 45) rfl rfl rfl szTx rfl oneTx ?_)
      | fail)
    intro w2 S5
    have HS5 : Hid (St H0 w0 X H4 w2 (blk w1.heap.size (g.obj (.slice A4 g.acc.length c4)) :: poolP p m :: blk x (refO (.slice A d.length c)) :: own 33 19 (.slice A d.length c) d.length (d.flatMap encEl) :: ps)) := S5
    clear S5 HS4
    go_wp2_with fail
    refine (rget_st HS5.out 2 rfl 3 rfl hdl addrC (u.n % 30)).mono ?_
    rintro e w3 ⟨rfl, S6⟩
    rw [HAL.out.has, HGC.out]
    have HS6 : Hid (St H0 w0 X H4 (w3.alloc (tx0.obj (.slice none 0 0))) (blk w3.heap.size (tx0.obj (.slice none 0 0)) :: blk w1.heap.size (g.obj (.slice A4 g.acc.length c4)) :: poolP p m :: blk x (refO (.slice A d.length c)) :: own 33 19 (.slice A d.length c) d.length (d.flatMap encEl) :: ps)) := S6.alloc _
    clear S6 HS5
    go_wp2_with (first
      | (refine wpList_store_st (cs := g.cells (.slice A5 g.acc.length c5)) 0 HS6.out rfl rfl 33 (.tmp 11) (.tmp 52) rfl rfl rfl szTx rfl oneTx ?_)
      | fail)
    intro w4 S7
    have HS7 : Hid (St H0 w0 X H4 w4 (blk w3.heap.size (g.obj (.slice A5 g.acc.length c5)) :: blk w1.heap.size (g.obj (.slice A4 g.acc.length c4)) :: poolP p m :: blk x (refO (.slice A d.length c)) :: own 33 19 (.slice A d.length c) d.length (d.flatMap encEl) :: ps)) := S7
    clear S7 HS6
    go_wp2_with (first
      | (refine wpList_load_gd (cs := g.cells (.slice A4 g.acc.length c4)) 1 HS7.out rfl 33 (.tmp 9) rfl rfl _ Try.underlying33 rfl szTx rfl ?_)
      | (refine wpList_load_gd (cs := g.cells (.slice A5 g.acc.length c5)) 0 HS7.out rfl 33 (.tmp 11) rfl rfl _ Try.underlying33 rfl szTx rfl ?_)
      | fail)
    refine (same_any g _ _ H4 _ HS7.out.ag HR4.out HR5.out HGF.out).mono ?_
    rintro e w5 ⟨rfl, hb5⟩
    have HS8 := Lib.hid (((HS7.out.grow hb5).drop 0).drop 0)
    go_wp2_with fail
    go_ret
    exact ⟨rfl, m, d, A, c, H4, HLE.out, by rw [HL'.out]; exact HAL.out, by rw [HL'.out]; exact HM.out.le HLE.out, HD4.out, HS8.out⟩
attribute [local go_sem ↓] loadTx'
attribute [local go_sem] TxS.size_cells loadWhole_at
theorem deed_at {u : Dd} {s : Value} : ∀ j v, (u.t.cells s)[j]? = some v → (u.cells s)[3 + j]? = some v := by
  intro j v h
  have hj : j < 19 := (Array.getElem?_eq_some_iff.1 h).1
  rcases (by omega : j = 0 ∨ j = 1 ∨ j = 2 ∨ j = 3 ∨ j = 4 ∨ j = 5 ∨ j = 6 ∨ j = 7 ∨ j = 8 ∨ j = 9 ∨ j = 10 ∨ j = 11 ∨ j = 12 ∨ j = 13 ∨ j = 14 ∨ j = 15 ∨ j = 16 ∨ j = 17 ∨ j = 18) with e | e | e | e | e | e | e | e | e | e | e | e | e | e | e | e | e | e | e <;> subst e <;> exact h
theorem radd_rep {H : Hs} {d : List El} (z : El) (hD : ∀ y ∈ d, RepV H y.sl (accsD y.1.acc)) (hz : RepV H z.sl (accsD z.1.acc)) : ∀ y ∈ raddL d z, RepV H y.sl (accsD y.1.acc) := by
  intro y hy
  unfold raddL at hy
  split at hy
  · rcases List.mem_append.1 hy with h | h
    · exact hD y (List.mem_of_mem_take h)
    · rcases List.mem_append.1 h with h | h
      · rw [List.mem_singleton.1 h]; exact hz
      · exact hD y (List.mem_of_mem_drop h)
  · exact hD y hy
set_option maxRecDepth 100000 in
set_option maxHeartbeats 8000000 in
theorem does_raw {m : List (Ky × Value)} {l : List TxS} {d : List El} {A : Option Addr} {c : Nat} (S : St H0 w0 X H w (poolP p m :: blk x (refO (.slice A d.length c)) :: own 33 19 (.slice A d.length c) d.length (d.flatMap encEl) :: ps)) (hA : Alike l d) (hM : Txs H m l) (hD : ∀ y ∈ d, RepV H y.sl (accsD y.1.acc)) (hG : Good l)
    (u : Dd) (hu : u.fits) (A9 : Option Addr) (c9 : Nat) (hs : RepV H (.slice A9 u.t.acc.length c9) (accsD u.t.acc)) (hk : u.kind % 12 ≠ 3 ∧ u.kind % 12 ≠ 4 ∧ u.kind % 12 ≠ 5) (hraw : u.raw = true) :
    Calls Try.prog 13 #[.pointer (some ⟨p, 0, none⟩), .pointer (some ⟨x, 0, none⟩), .agg (u.cells (.slice A9 u.t.acc.length c9))] w (DoesS (u.step l) p x H0 H w0 X ps) := by
  have HS2 := Lib.hid ((S.alloc (.cells (u.cells (.slice A9 u.t.acc.length c9)) 52)).alloc' (.cells #[.string addrA, .string addrB, .string addrC] 9) (w.heap.size + 1) (by simp))
  have HAL := Lib.hid hA
  have HM := Lib.hid hM
  have HD := Lib.hid hD
  have HG := Lib.hid hG
  have HSV := Lib.hid hs
  have HU := Lib.hid hu
  have hl64 := hG.len
  have hdl : d.length ≤ 64 := by rw [← hA.len]; exact hG.len
  obtain ⟨ub1, ub2⟩ := hu.kind
  obtain ⟨ua1, ua2⟩ := hu.a
  obtain ⟨un1, un2⟩ := hu.n
  have k3 : (u.kind % 12 == 3) = false := beq_eq_false_iff_ne.2 (by omega)
  have k4 : (u.kind % 12 == 4) = false := beq_eq_false_iff_ne.2 (by omega)
  have k5 : (u.kind % 12 == 5) = false := beq_eq_false_iff_ne.2 (by omega)
  rcases (by omega : u.a % 3 = 0 ∨ u.a % 3 = 1 ∨ u.a % 3 = 2) with h3 | h3 | h3
  · have HTX : Hid (u.tx = u.t) := Lib.hid (by unfold Dd.tx; rw [hraw]; simp)
    have HL' : Hid (u.step l = addL l (u.t)) := Lib.hid (by unfold Dd.step; rw [if_neg (by omega), if_neg (by omega), if_neg (by omega), HTX.out])
    have HSM : Hid ((u.t : TxS).small) := Lib.hid (by rw [← HTX.out]; exact tx_small HU.out)
    have HST : Hid (RepV H (.slice A9 u.t.acc.length c9) (accsD (u.t : TxS).acc)) := Lib.hid (hs)
    have HS3 := Lib.hid (HS2.out.alloc' (tx0.obj (.slice none 0 0)) (w.heap.size + 2) (by simp))
    have Htrue := Lib.hid hraw
    clear hk hraw
    simp only [Dd.cells]
    go_enter Try.func13, Try.ntmps13
    go_wp2_with (first
      | (refine wpList_loadBlk_st (q := 3) (cs := u.t.cells (.slice A9 u.t.acc.length c9)) 1 HS2.out rfl rfl 33 (.tmp 69) rfl rfl _ Try.underlying33 rfl szTx deed_at ?_)
      | (refine wpList_store_st (cs := u.t.cells (.slice A9 u.t.acc.length c9)) 0 HS3.out rfl rfl 33 (.tmp 13) (.tmp 70) rfl rfl rfl szTx rfl oneTx ?_)
      | fail)
    intro w2 S4
    have HS4 : Hid (St H0 w0 X H w2 (blk (w.heap.size + 2) (u.t.obj (.slice A9 u.t.acc.length c9)) :: blk (w.heap.size + 1) (.cells #[.string addrA, .string addrB, .string addrC] 9) :: blk w.heap.size (.cells (u.cells (.slice A9 u.t.acc.length c9)) 52) :: poolP p m :: blk x (refO (.slice A d.length c)) :: own 33 19 (.slice A d.length c) d.length (d.flatMap encEl) :: ps)) := S4
    have cr : w2.cell? ⟨w.heap.size, 22, none⟩ = some (.bool true) := by rw [← Htrue.out]; exact S4.cell 2 rfl rfl
    have c16 : w2.cell? ⟨w.heap.size, 16, none⟩ = some (.int .u64 u.t.v.a) := S4.cell 2 rfl rfl
    have c17 : w2.cell? ⟨w.heap.size, 17, none⟩ = some (.int .u64 u.t.v.b) := S4.cell 2 rfl rfl
    have c18 : w2.cell? ⟨w.heap.size, 18, none⟩ = some (.int .u64 u.t.v.c) := S4.cell 2 rfl rfl
    have c19 : w2.cell? ⟨w.heap.size, 19, none⟩ = some (.int .u64 u.t.v.d) := S4.cell 2 rfl rfl
    clear S4 HS3 HS2
    go_wp2_with fail
    have HS5 : Hid (St H0 w0 X H w2 (blk (w.heap.size + 2) ((u.t : TxS).obj (.slice A9 u.t.acc.length c9)) :: poolP p m :: blk x (refO (.slice A d.length c)) :: own 33 19 (.slice A d.length c) d.length (d.flatMap encEl) :: ps)) := (HS4.out.drop 1).drop 1
    clear HS4 cr c16 c17 c18 c19
    obtain ⟨w3, rfl⟩ : ∃ w3, w3 = w2 := ⟨_, rfl⟩
    have wh : wholeAt w3 (w.heap.size + 2) = some ((u.t : TxS).cells (.slice A9 u.t.acc.length c9)) := wholeAt_of (HS5.out.blk_at 0 rfl)
    have wh2 : ∀ w', Below w3.heap.size w3 w' → wholeAt w' (w.heap.size + 2) = some ((u.t : TxS).cells (.slice A9 u.t.acc.length c9)) := fun w' h => wholeAt_of ((HS5.out.grow h).blk_at 0 rfl)
    have whd : wholeAt w3.drew (w.heap.size + 2) = some ((u.t : TxS).cells (.slice A9 u.t.acc.length c9)) := wholeAt_of (HS5.out.drew.blk_at 0 rfl)
    go_region_law (first
      | (go_simp; go_at_call 9; (first | refine (add_st HS5.out 1 rfl HM.out (u.t) (.slice A9 u.t.acc.length c9) HST.out HSM.out).mono ?_ | refine (add_st HS5.out.drew 1 rfl HM.out (u.t) (.slice A9 u.t.acc.length c9) HST.out HSM.out).mono ?_); rintro e4 w4 ⟨m', H', rfl, hle, hl', S6⟩; have HS6 := Lib.hid S6; have wh3 : wholeAt w4 (w.heap.size + 2) = some ((u.t : TxS).cells (.slice A9 u.t.acc.length c9)) := wholeAt_of (S6.blk_at 1 rfl))
      | (go_simp; go_at_call 26; refine (radd_st (((HS6.out.pick 3 rfl).pick 3 rfl)) hdl ((u.t, A9, u.t.acc.length, c9) : El) (HST.out.le hle)).mono ?_; rintro e5 w5 ⟨A7, c7, rfl, S7⟩; rw [HAL.out.addE]))
    all_goals
      have HS7 := Lib.hid ((S7.drop 3).pick 2 rfl)
      have HLE := Lib.hid hle
      have HL2 := Lib.hid hl'
      go_wp2_with fail
      go_ret
      exact ⟨rfl, m', _, A7, c7, H', HLE.out, by rw [HL'.out]; exact HAL.out.add ((u.t, A9, u.t.acc.length, c9) : El), by rw [HL'.out]; exact HL2.out, (fun y hy => radd_rep ((u.t, A9, u.t.acc.length, c9) : El) (fun z hz => (HD.out z hz).le HLE.out) (HST.out.le HLE.out) y hy), HS7.out⟩
  · have HTX : Hid (u.tx = u.t) := Lib.hid (by unfold Dd.tx; rw [hraw]; simp)
    have HL' : Hid (u.step l = addL l (u.t)) := Lib.hid (by unfold Dd.step; rw [if_neg (by omega), if_neg (by omega), if_neg (by omega), HTX.out])
    have HSM : Hid ((u.t : TxS).small) := Lib.hid (by rw [← HTX.out]; exact tx_small HU.out)
    have HST : Hid (RepV H (.slice A9 u.t.acc.length c9) (accsD (u.t : TxS).acc)) := Lib.hid (hs)
    have HS3 := Lib.hid (HS2.out.alloc' (tx0.obj (.slice none 0 0)) (w.heap.size + 2) (by simp))
    have Htrue := Lib.hid hraw
    clear hk hraw
    simp only [Dd.cells]
    go_enter Try.func13, Try.ntmps13
    go_wp2_with (first
      | (refine wpList_loadBlk_st (q := 3) (cs := u.t.cells (.slice A9 u.t.acc.length c9)) 1 HS2.out rfl rfl 33 (.tmp 69) rfl rfl _ Try.underlying33 rfl szTx deed_at ?_)
      | (refine wpList_store_st (cs := u.t.cells (.slice A9 u.t.acc.length c9)) 0 HS3.out rfl rfl 33 (.tmp 13) (.tmp 70) rfl rfl rfl szTx rfl oneTx ?_)
      | fail)
    intro w2 S4
    have HS4 : Hid (St H0 w0 X H w2 (blk (w.heap.size + 2) (u.t.obj (.slice A9 u.t.acc.length c9)) :: blk (w.heap.size + 1) (.cells #[.string addrA, .string addrB, .string addrC] 9) :: blk w.heap.size (.cells (u.cells (.slice A9 u.t.acc.length c9)) 52) :: poolP p m :: blk x (refO (.slice A d.length c)) :: own 33 19 (.slice A d.length c) d.length (d.flatMap encEl) :: ps)) := S4
    have cr : w2.cell? ⟨w.heap.size, 22, none⟩ = some (.bool true) := by rw [← Htrue.out]; exact S4.cell 2 rfl rfl
    have c16 : w2.cell? ⟨w.heap.size, 16, none⟩ = some (.int .u64 u.t.v.a) := S4.cell 2 rfl rfl
    have c17 : w2.cell? ⟨w.heap.size, 17, none⟩ = some (.int .u64 u.t.v.b) := S4.cell 2 rfl rfl
    have c18 : w2.cell? ⟨w.heap.size, 18, none⟩ = some (.int .u64 u.t.v.c) := S4.cell 2 rfl rfl
    have c19 : w2.cell? ⟨w.heap.size, 19, none⟩ = some (.int .u64 u.t.v.d) := S4.cell 2 rfl rfl
    clear S4 HS3 HS2
    go_wp2_with fail
    have HS5 : Hid (St H0 w0 X H w2 (blk (w.heap.size + 2) ((u.t : TxS).obj (.slice A9 u.t.acc.length c9)) :: poolP p m :: blk x (refO (.slice A d.length c)) :: own 33 19 (.slice A d.length c) d.length (d.flatMap encEl) :: ps)) := (HS4.out.drop 1).drop 1
    clear HS4 cr c16 c17 c18 c19
    obtain ⟨w3, rfl⟩ : ∃ w3, w3 = w2 := ⟨_, rfl⟩
    have wh : wholeAt w3 (w.heap.size + 2) = some ((u.t : TxS).cells (.slice A9 u.t.acc.length c9)) := wholeAt_of (HS5.out.blk_at 0 rfl)
    have wh2 : ∀ w', Below w3.heap.size w3 w' → wholeAt w' (w.heap.size + 2) = some ((u.t : TxS).cells (.slice A9 u.t.acc.length c9)) := fun w' h => wholeAt_of ((HS5.out.grow h).blk_at 0 rfl)
    have whd : wholeAt w3.drew (w.heap.size + 2) = some ((u.t : TxS).cells (.slice A9 u.t.acc.length c9)) := wholeAt_of (HS5.out.drew.blk_at 0 rfl)
    go_region_law (first
      | (go_simp; go_at_call 9; (first | refine (add_st HS5.out 1 rfl HM.out (u.t) (.slice A9 u.t.acc.length c9) HST.out HSM.out).mono ?_ | refine (add_st HS5.out.drew 1 rfl HM.out (u.t) (.slice A9 u.t.acc.length c9) HST.out HSM.out).mono ?_); rintro e4 w4 ⟨m', H', rfl, hle, hl', S6⟩; have HS6 := Lib.hid S6; have wh3 : wholeAt w4 (w.heap.size + 2) = some ((u.t : TxS).cells (.slice A9 u.t.acc.length c9)) := wholeAt_of (S6.blk_at 1 rfl))
      | (go_simp; go_at_call 26; refine (radd_st (((HS6.out.pick 3 rfl).pick 3 rfl)) hdl ((u.t, A9, u.t.acc.length, c9) : El) (HST.out.le hle)).mono ?_; rintro e5 w5 ⟨A7, c7, rfl, S7⟩; rw [HAL.out.addE]))
    all_goals
      have HS7 := Lib.hid ((S7.drop 3).pick 2 rfl)
      have HLE := Lib.hid hle
      have HL2 := Lib.hid hl'
      go_wp2_with fail
      go_ret
      exact ⟨rfl, m', _, A7, c7, H', HLE.out, by rw [HL'.out]; exact HAL.out.add ((u.t, A9, u.t.acc.length, c9) : El), by rw [HL'.out]; exact HL2.out, (fun y hy => radd_rep ((u.t, A9, u.t.acc.length, c9) : El) (fun z hz => (HD.out z hz).le HLE.out) (HST.out.le HLE.out) y hy), HS7.out⟩
  · have HTX : Hid (u.tx = u.t) := Lib.hid (by unfold Dd.tx; rw [hraw]; simp)
    have HL' : Hid (u.step l = addL l (u.t)) := Lib.hid (by unfold Dd.step; rw [if_neg (by omega), if_neg (by omega), if_neg (by omega), HTX.out])
    have HSM : Hid ((u.t : TxS).small) := Lib.hid (by rw [← HTX.out]; exact tx_small HU.out)
    have HST : Hid (RepV H (.slice A9 u.t.acc.length c9) (accsD (u.t : TxS).acc)) := Lib.hid (hs)
    have HS3 := Lib.hid (HS2.out.alloc' (tx0.obj (.slice none 0 0)) (w.heap.size + 2) (by simp))
    have Htrue := Lib.hid hraw
    clear hk hraw
    simp only [Dd.cells]
    go_enter Try.func13, Try.ntmps13
    go_wp2_with (first
      | (refine wpList_loadBlk_st (q := 3) (cs := u.t.cells (.slice A9 u.t.acc.length c9)) 1 HS2.out rfl rfl 33 (.tmp 69) rfl rfl _ Try.underlying33 rfl szTx deed_at ?_)
      | (refine wpList_store_st (cs := u.t.cells (.slice A9 u.t.acc.length c9)) 0 HS3.out rfl rfl 33 (.tmp 13) (.tmp 70) rfl rfl rfl szTx rfl oneTx ?_)
      | fail)
    intro w2 S4
    have HS4 : Hid (St H0 w0 X H w2 (blk (w.heap.size + 2) (u.t.obj (.slice A9 u.t.acc.length c9)) :: blk (w.heap.size + 1) (.cells #[.string addrA, .string addrB, .string addrC] 9) :: blk w.heap.size (.cells (u.cells (.slice A9 u.t.acc.length c9)) 52) :: poolP p m :: blk x (refO (.slice A d.length c)) :: own 33 19 (.slice A d.length c) d.length (d.flatMap encEl) :: ps)) := S4
    have cr : w2.cell? ⟨w.heap.size, 22, none⟩ = some (.bool true) := by rw [← Htrue.out]; exact S4.cell 2 rfl rfl
    have c16 : w2.cell? ⟨w.heap.size, 16, none⟩ = some (.int .u64 u.t.v.a) := S4.cell 2 rfl rfl
    have c17 : w2.cell? ⟨w.heap.size, 17, none⟩ = some (.int .u64 u.t.v.b) := S4.cell 2 rfl rfl
    have c18 : w2.cell? ⟨w.heap.size, 18, none⟩ = some (.int .u64 u.t.v.c) := S4.cell 2 rfl rfl
    have c19 : w2.cell? ⟨w.heap.size, 19, none⟩ = some (.int .u64 u.t.v.d) := S4.cell 2 rfl rfl
    clear S4 HS3 HS2
    go_wp2_with fail
    have HS5 : Hid (St H0 w0 X H w2 (blk (w.heap.size + 2) ((u.t : TxS).obj (.slice A9 u.t.acc.length c9)) :: poolP p m :: blk x (refO (.slice A d.length c)) :: own 33 19 (.slice A d.length c) d.length (d.flatMap encEl) :: ps)) := (HS4.out.drop 1).drop 1
    clear HS4 cr c16 c17 c18 c19
    obtain ⟨w3, rfl⟩ : ∃ w3, w3 = w2 := ⟨_, rfl⟩
    have wh : wholeAt w3 (w.heap.size + 2) = some ((u.t : TxS).cells (.slice A9 u.t.acc.length c9)) := wholeAt_of (HS5.out.blk_at 0 rfl)
    have wh2 : ∀ w', Below w3.heap.size w3 w' → wholeAt w' (w.heap.size + 2) = some ((u.t : TxS).cells (.slice A9 u.t.acc.length c9)) := fun w' h => wholeAt_of ((HS5.out.grow h).blk_at 0 rfl)
    have whd : wholeAt w3.drew (w.heap.size + 2) = some ((u.t : TxS).cells (.slice A9 u.t.acc.length c9)) := wholeAt_of (HS5.out.drew.blk_at 0 rfl)
    go_region_law (first
      | (go_simp; go_at_call 9; (first | refine (add_st HS5.out 1 rfl HM.out (u.t) (.slice A9 u.t.acc.length c9) HST.out HSM.out).mono ?_ | refine (add_st HS5.out.drew 1 rfl HM.out (u.t) (.slice A9 u.t.acc.length c9) HST.out HSM.out).mono ?_); rintro e4 w4 ⟨m', H', rfl, hle, hl', S6⟩; have HS6 := Lib.hid S6; have wh3 : wholeAt w4 (w.heap.size + 2) = some ((u.t : TxS).cells (.slice A9 u.t.acc.length c9)) := wholeAt_of (S6.blk_at 1 rfl))
      | (go_simp; go_at_call 26; refine (radd_st (((HS6.out.pick 3 rfl).pick 3 rfl)) hdl ((u.t, A9, u.t.acc.length, c9) : El) (HST.out.le hle)).mono ?_; rintro e5 w5 ⟨A7, c7, rfl, S7⟩; rw [HAL.out.addE]))
    all_goals
      have HS7 := Lib.hid ((S7.drop 3).pick 2 rfl)
      have HLE := Lib.hid hle
      have HL2 := Lib.hid hl'
      go_wp2_with fail
      go_ret
      exact ⟨rfl, m', _, A7, c7, H', HLE.out, by rw [HL'.out]; exact HAL.out.add ((u.t, A9, u.t.acc.length, c9) : El), by rw [HL'.out]; exact HL2.out, (fun y hy => radd_rep ((u.t, A9, u.t.acc.length, c9) : El) (fun z hz => (HD.out z hz).le HLE.out) (HST.out.le HLE.out) y hy), HS7.out⟩
set_option maxRecDepth 100000 in
set_option maxHeartbeats 8000000 in
theorem does_made {m : List (Ky × Value)} {l : List TxS} {d : List El} {A : Option Addr} {c : Nat} (S : St H0 w0 X H w (poolP p m :: blk x (refO (.slice A d.length c)) :: own 33 19 (.slice A d.length c) d.length (d.flatMap encEl) :: ps)) (hA : Alike l d) (hM : Txs H m l) (hD : ∀ y ∈ d, RepV H y.sl (accsD y.1.acc)) (hG : Good l)
    (u : Dd) (hu : u.fits) (A9 : Option Addr) (c9 : Nat) (hs : RepV H (.slice A9 u.t.acc.length c9) (accsD u.t.acc)) (hk : u.kind % 12 ≠ 3 ∧ u.kind % 12 ≠ 4 ∧ u.kind % 12 ≠ 5) (hraw : u.raw = false) :
    Calls Try.prog 13 #[.pointer (some ⟨p, 0, none⟩), .pointer (some ⟨x, 0, none⟩), .agg (u.cells (.slice A9 u.t.acc.length c9))] w (DoesS (u.step l) p x H0 H w0 X ps) := by
  have HS2 := Lib.hid ((S.alloc (.cells (u.cells (.slice A9 u.t.acc.length c9)) 52)).alloc' (.cells #[.string addrA, .string addrB, .string addrC] 9) (w.heap.size + 1) (by simp))
  have HAL := Lib.hid hA
  have HM := Lib.hid hM
  have HD := Lib.hid hD
  have HG := Lib.hid hG
  have HSV := Lib.hid hs
  have HU := Lib.hid hu
  have hl64 := hG.len
  have hdl : d.length ≤ 64 := by rw [← hA.len]; exact hG.len
  obtain ⟨ub1, ub2⟩ := hu.kind
  obtain ⟨ua1, ua2⟩ := hu.a
  obtain ⟨un1, un2⟩ := hu.n
  have k3 : (u.kind % 12 == 3) = false := beq_eq_false_iff_ne.2 (by omega)
  have k4 : (u.kind % 12 == 4) = false := beq_eq_false_iff_ne.2 (by omega)
  have k5 : (u.kind % 12 == 5) = false := beq_eq_false_iff_ne.2 (by omega)
  rcases (by omega : u.a % 3 = 0 ∨ u.a % 3 = 1 ∨ u.a % 3 = 2) with h3 | h3 | h3
  · have HTX : Hid (u.tx = { tx0 with frm := addrA, nonce := u.n % 30, v := u.t.v }) := Lib.hid (by unfold Dd.tx frm3; rw [hraw]; simp [h3])
    have HL' : Hid (u.step l = addL l ({ tx0 with frm := addrA, nonce := u.n % 30, v := u.t.v })) := Lib.hid (by unfold Dd.step; rw [if_neg (by omega), if_neg (by omega), if_neg (by omega), HTX.out])
    have HSM : Hid (({ tx0 with frm := addrA, nonce := u.n % 30, v := u.t.v } : TxS).small) := Lib.hid (by rw [← HTX.out]; exact tx_small HU.out)
    have HST : Hid (RepV H (.slice none 0 0) (accsD ({ tx0 with frm := addrA, nonce := u.n % 30, v := u.t.v } : TxS).acc)) := Lib.hid (rep_nil _)
    have HS3 := Lib.hid (HS2.out.alloc' (tx0.obj (.slice none 0 0)) (w.heap.size + 2) (by simp))
    have Hfalse := Lib.hid hraw
    clear hk hraw
    simp only [Dd.cells]
    go_enter Try.func13, Try.ntmps13
    go_wp2_with (first
      | (refine wpList_loadBlk_st (q := 3) (cs := u.t.cells (.slice A9 u.t.acc.length c9)) 1 HS2.out rfl rfl 33 (.tmp 69) rfl rfl _ Try.underlying33 rfl szTx deed_at ?_)
      | (refine wpList_store_st (cs := u.t.cells (.slice A9 u.t.acc.length c9)) 0 HS3.out rfl rfl 33 (.tmp 13) (.tmp 70) rfl rfl rfl szTx rfl oneTx ?_)
      | fail)
    intro w2 S4
    have HS4 : Hid (St H0 w0 X H w2 (blk (w.heap.size + 2) (u.t.obj (.slice A9 u.t.acc.length c9)) :: blk (w.heap.size + 1) (.cells #[.string addrA, .string addrB, .string addrC] 9) :: blk w.heap.size (.cells (u.cells (.slice A9 u.t.acc.length c9)) 52) :: poolP p m :: blk x (refO (.slice A d.length c)) :: own 33 19 (.slice A d.length c) d.length (d.flatMap encEl) :: ps)) := S4
    have cr : w2.cell? ⟨w.heap.size, 22, none⟩ = some (.bool false) := by rw [← Hfalse.out]; exact S4.cell 2 rfl rfl
    have c16 : w2.cell? ⟨w.heap.size, 16, none⟩ = some (.int .u64 u.t.v.a) := S4.cell 2 rfl rfl
    have c17 : w2.cell? ⟨w.heap.size, 17, none⟩ = some (.int .u64 u.t.v.b) := S4.cell 2 rfl rfl
    have c18 : w2.cell? ⟨w.heap.size, 18, none⟩ = some (.int .u64 u.t.v.c) := S4.cell 2 rfl rfl
    have c19 : w2.cell? ⟨w.heap.size, 19, none⟩ = some (.int .u64 u.t.v.d) := S4.cell 2 rfl rfl
    clear S4 HS3 HS2
    go_wp2_with (first
      | (refine wpList_store_st (cs := ({ tx0 with frm := addrA, nonce := u.n % 30, v := u.t.v } : TxS).cells (.slice none 0 0)) 0 HS4.out rfl rfl 33 (.tmp 13) (.tmp 79) rfl rfl rfl szTx rfl oneTx ?_)
      | fail)
    intro w3 S5
    have HS5 : Hid (St H0 w0 X H w3 (blk (w.heap.size + 2) (({ tx0 with frm := addrA, nonce := u.n % 30, v := u.t.v } : TxS).obj (.slice none 0 0)) :: poolP p m :: blk x (refO (.slice A d.length c)) :: own 33 19 (.slice A d.length c) d.length (d.flatMap encEl) :: ps)) := (S5.drop 1).drop 1
    clear S5 HS4 cr c16 c17 c18 c19
    go_wp2_with fail
    have wh : wholeAt w3 (w.heap.size + 2) = some (({ tx0 with frm := addrA, nonce := u.n % 30, v := u.t.v } : TxS).cells (.slice none 0 0)) := wholeAt_of (HS5.out.blk_at 0 rfl)
    have wh2 : ∀ w', Below w3.heap.size w3 w' → wholeAt w' (w.heap.size + 2) = some (({ tx0 with frm := addrA, nonce := u.n % 30, v := u.t.v } : TxS).cells (.slice none 0 0)) := fun w' h => wholeAt_of ((HS5.out.grow h).blk_at 0 rfl)
    have whd : wholeAt w3.drew (w.heap.size + 2) = some (({ tx0 with frm := addrA, nonce := u.n % 30, v := u.t.v } : TxS).cells (.slice none 0 0)) := wholeAt_of (HS5.out.drew.blk_at 0 rfl)
    go_region_law (first
      | (go_simp; go_at_call 9; (first | refine (add_st HS5.out 1 rfl HM.out ({ tx0 with frm := addrA, nonce := u.n % 30, v := u.t.v }) (.slice none 0 0) HST.out HSM.out).mono ?_ | refine (add_st HS5.out.drew 1 rfl HM.out ({ tx0 with frm := addrA, nonce := u.n % 30, v := u.t.v }) (.slice none 0 0) HST.out HSM.out).mono ?_); rintro e4 w4 ⟨m', H', rfl, hle, hl', S6⟩; have HS6 := Lib.hid S6; have wh3 : wholeAt w4 (w.heap.size + 2) = some (({ tx0 with frm := addrA, nonce := u.n % 30, v := u.t.v } : TxS).cells (.slice none 0 0)) := wholeAt_of (S6.blk_at 1 rfl))
      | (go_simp; go_at_call 26; refine (radd_st (((HS6.out.pick 3 rfl).pick 3 rfl)) hdl (({ tx0 with frm := addrA, nonce := u.n % 30, v := u.t.v }, none, 0, 0) : El) (HST.out.le hle)).mono ?_; rintro e5 w5 ⟨A7, c7, rfl, S7⟩; rw [HAL.out.addE]))
    all_goals
      have HS7 := Lib.hid ((S7.drop 3).pick 2 rfl)
      have HLE := Lib.hid hle
      have HL2 := Lib.hid hl'
      go_wp2_with fail
      go_ret
      exact ⟨rfl, m', _, A7, c7, H', HLE.out, by rw [HL'.out]; exact HAL.out.add (({ tx0 with frm := addrA, nonce := u.n % 30, v := u.t.v }, none, 0, 0) : El), by rw [HL'.out]; exact HL2.out, (fun y hy => radd_rep (({ tx0 with frm := addrA, nonce := u.n % 30, v := u.t.v }, none, 0, 0) : El) (fun z hz => (HD.out z hz).le HLE.out) (HST.out.le HLE.out) y hy), HS7.out⟩
  · have HTX : Hid (u.tx = { tx0 with frm := addrB, nonce := u.n % 30, v := u.t.v }) := Lib.hid (by unfold Dd.tx frm3; rw [hraw]; simp [h3])
    have HL' : Hid (u.step l = addL l ({ tx0 with frm := addrB, nonce := u.n % 30, v := u.t.v })) := Lib.hid (by unfold Dd.step; rw [if_neg (by omega), if_neg (by omega), if_neg (by omega), HTX.out])
    have HSM : Hid (({ tx0 with frm := addrB, nonce := u.n % 30, v := u.t.v } : TxS).small) := Lib.hid (by rw [← HTX.out]; exact tx_small HU.out)
    have HST : Hid (RepV H (.slice none 0 0) (accsD ({ tx0 with frm := addrB, nonce := u.n % 30, v := u.t.v } : TxS).acc)) := Lib.hid (rep_nil _)
    have HS3 := Lib.hid (HS2.out.alloc' (tx0.obj (.slice none 0 0)) (w.heap.size + 2) (by simp))
    have Hfalse := Lib.hid hraw
    clear hk hraw
    simp only [Dd.cells]
    go_enter Try.func13, Try.ntmps13
    go_wp2_with (first
      | (refine wpList_loadBlk_st (q := 3) (cs := u.t.cells (.slice A9 u.t.acc.length c9)) 1 HS2.out rfl rfl 33 (.tmp 69) rfl rfl _ Try.underlying33 rfl szTx deed_at ?_)
      | (refine wpList_store_st (cs := u.t.cells (.slice A9 u.t.acc.length c9)) 0 HS3.out rfl rfl 33 (.tmp 13) (.tmp 70) rfl rfl rfl szTx rfl oneTx ?_)
      | fail)
    intro w2 S4
    have HS4 : Hid (St H0 w0 X H w2 (blk (w.heap.size + 2) (u.t.obj (.slice A9 u.t.acc.length c9)) :: blk (w.heap.size + 1) (.cells #[.string addrA, .string addrB, .string addrC] 9) :: blk w.heap.size (.cells (u.cells (.slice A9 u.t.acc.length c9)) 52) :: poolP p m :: blk x (refO (.slice A d.length c)) :: own 33 19 (.slice A d.length c) d.length (d.flatMap encEl) :: ps)) := S4
    have cr : w2.cell? ⟨w.heap.size, 22, none⟩ = some (.bool false) := by rw [← Hfalse.out]; exact S4.cell 2 rfl rfl
    have c16 : w2.cell? ⟨w.heap.size, 16, none⟩ = some (.int .u64 u.t.v.a) := S4.cell 2 rfl rfl
    have c17 : w2.cell? ⟨w.heap.size, 17, none⟩ = some (.int .u64 u.t.v.b) := S4.cell 2 rfl rfl
    have c18 : w2.cell? ⟨w.heap.size, 18, none⟩ = some (.int .u64 u.t.v.c) := S4.cell 2 rfl rfl
    have c19 : w2.cell? ⟨w.heap.size, 19, none⟩ = some (.int .u64 u.t.v.d) := S4.cell 2 rfl rfl
    clear S4 HS3 HS2
    go_wp2_with (first
      | (refine wpList_store_st (cs := ({ tx0 with frm := addrB, nonce := u.n % 30, v := u.t.v } : TxS).cells (.slice none 0 0)) 0 HS4.out rfl rfl 33 (.tmp 13) (.tmp 79) rfl rfl rfl szTx rfl oneTx ?_)
      | fail)
    intro w3 S5
    have HS5 : Hid (St H0 w0 X H w3 (blk (w.heap.size + 2) (({ tx0 with frm := addrB, nonce := u.n % 30, v := u.t.v } : TxS).obj (.slice none 0 0)) :: poolP p m :: blk x (refO (.slice A d.length c)) :: own 33 19 (.slice A d.length c) d.length (d.flatMap encEl) :: ps)) := (S5.drop 1).drop 1
    clear S5 HS4 cr c16 c17 c18 c19
    go_wp2_with fail
    have wh : wholeAt w3 (w.heap.size + 2) = some (({ tx0 with frm := addrB, nonce := u.n % 30, v := u.t.v } : TxS).cells (.slice none 0 0)) := wholeAt_of (HS5.out.blk_at 0 rfl)
    have wh2 : ∀ w', Below w3.heap.size w3 w' → wholeAt w' (w.heap.size + 2) = some (({ tx0 with frm := addrB, nonce := u.n % 30, v := u.t.v } : TxS).cells (.slice none 0 0)) := fun w' h => wholeAt_of ((HS5.out.grow h).blk_at 0 rfl)
    have whd : wholeAt w3.drew (w.heap.size + 2) = some (({ tx0 with frm := addrB, nonce := u.n % 30, v := u.t.v } : TxS).cells (.slice none 0 0)) := wholeAt_of (HS5.out.drew.blk_at 0 rfl)
    go_region_law (first
      | (go_simp; go_at_call 9; (first | refine (add_st HS5.out 1 rfl HM.out ({ tx0 with frm := addrB, nonce := u.n % 30, v := u.t.v }) (.slice none 0 0) HST.out HSM.out).mono ?_ | refine (add_st HS5.out.drew 1 rfl HM.out ({ tx0 with frm := addrB, nonce := u.n % 30, v := u.t.v }) (.slice none 0 0) HST.out HSM.out).mono ?_); rintro e4 w4 ⟨m', H', rfl, hle, hl', S6⟩; have HS6 := Lib.hid S6; have wh3 : wholeAt w4 (w.heap.size + 2) = some (({ tx0 with frm := addrB, nonce := u.n % 30, v := u.t.v } : TxS).cells (.slice none 0 0)) := wholeAt_of (S6.blk_at 1 rfl))
      | (go_simp; go_at_call 26; refine (radd_st (((HS6.out.pick 3 rfl).pick 3 rfl)) hdl (({ tx0 with frm := addrB, nonce := u.n % 30, v := u.t.v }, none, 0, 0) : El) (HST.out.le hle)).mono ?_; rintro e5 w5 ⟨A7, c7, rfl, S7⟩; rw [HAL.out.addE]))
    all_goals
      have HS7 := Lib.hid ((S7.drop 3).pick 2 rfl)
      have HLE := Lib.hid hle
      have HL2 := Lib.hid hl'
      go_wp2_with fail
      go_ret
      exact ⟨rfl, m', _, A7, c7, H', HLE.out, by rw [HL'.out]; exact HAL.out.add (({ tx0 with frm := addrB, nonce := u.n % 30, v := u.t.v }, none, 0, 0) : El), by rw [HL'.out]; exact HL2.out, (fun y hy => radd_rep (({ tx0 with frm := addrB, nonce := u.n % 30, v := u.t.v }, none, 0, 0) : El) (fun z hz => (HD.out z hz).le HLE.out) (HST.out.le HLE.out) y hy), HS7.out⟩
  · have HTX : Hid (u.tx = { tx0 with frm := addrC, nonce := u.n % 30, v := u.t.v }) := Lib.hid (by unfold Dd.tx frm3; rw [hraw]; simp [h3])
    have HL' : Hid (u.step l = addL l ({ tx0 with frm := addrC, nonce := u.n % 30, v := u.t.v })) := Lib.hid (by unfold Dd.step; rw [if_neg (by omega), if_neg (by omega), if_neg (by omega), HTX.out])
    have HSM : Hid (({ tx0 with frm := addrC, nonce := u.n % 30, v := u.t.v } : TxS).small) := Lib.hid (by rw [← HTX.out]; exact tx_small HU.out)
    have HST : Hid (RepV H (.slice none 0 0) (accsD ({ tx0 with frm := addrC, nonce := u.n % 30, v := u.t.v } : TxS).acc)) := Lib.hid (rep_nil _)
    have HS3 := Lib.hid (HS2.out.alloc' (tx0.obj (.slice none 0 0)) (w.heap.size + 2) (by simp))
    have Hfalse := Lib.hid hraw
    clear hk hraw
    simp only [Dd.cells]
    go_enter Try.func13, Try.ntmps13
    go_wp2_with (first
      | (refine wpList_loadBlk_st (q := 3) (cs := u.t.cells (.slice A9 u.t.acc.length c9)) 1 HS2.out rfl rfl 33 (.tmp 69) rfl rfl _ Try.underlying33 rfl szTx deed_at ?_)
      | (refine wpList_store_st (cs := u.t.cells (.slice A9 u.t.acc.length c9)) 0 HS3.out rfl rfl 33 (.tmp 13) (.tmp 70) rfl rfl rfl szTx rfl oneTx ?_)
      | fail)
    intro w2 S4
    have HS4 : Hid (St H0 w0 X H w2 (blk (w.heap.size + 2) (u.t.obj (.slice A9 u.t.acc.length c9)) :: blk (w.heap.size + 1) (.cells #[.string addrA, .string addrB, .string addrC] 9) :: blk w.heap.size (.cells (u.cells (.slice A9 u.t.acc.length c9)) 52) :: poolP p m :: blk x (refO (.slice A d.length c)) :: own 33 19 (.slice A d.length c) d.length (d.flatMap encEl) :: ps)) := S4
    have cr : w2.cell? ⟨w.heap.size, 22, none⟩ = some (.bool false) := by rw [← Hfalse.out]; exact S4.cell 2 rfl rfl
    have c16 : w2.cell? ⟨w.heap.size, 16, none⟩ = some (.int .u64 u.t.v.a) := S4.cell 2 rfl rfl
    have c17 : w2.cell? ⟨w.heap.size, 17, none⟩ = some (.int .u64 u.t.v.b) := S4.cell 2 rfl rfl
    have c18 : w2.cell? ⟨w.heap.size, 18, none⟩ = some (.int .u64 u.t.v.c) := S4.cell 2 rfl rfl
    have c19 : w2.cell? ⟨w.heap.size, 19, none⟩ = some (.int .u64 u.t.v.d) := S4.cell 2 rfl rfl
    clear S4 HS3 HS2
    go_wp2_with (first
      | (refine wpList_store_st (cs := ({ tx0 with frm := addrC, nonce := u.n % 30, v := u.t.v } : TxS).cells (.slice none 0 0)) 0 HS4.out rfl rfl 33 (.tmp 13) (.tmp 79) rfl rfl rfl szTx rfl oneTx ?_)
      | fail)
    intro w3 S5
    have HS5 : Hid (St H0 w0 X H w3 (blk (w.heap.size + 2) (({ tx0 with frm := addrC, nonce := u.n % 30, v := u.t.v } : TxS).obj (.slice none 0 0)) :: poolP p m :: blk x (refO (.slice A d.length c)) :: own 33 19 (.slice A d.length c) d.length (d.flatMap encEl) :: ps)) := (S5.drop 1).drop 1
    clear S5 HS4 cr c16 c17 c18 c19
    go_wp2_with fail
    have wh : wholeAt w3 (w.heap.size + 2) = some (({ tx0 with frm := addrC, nonce := u.n % 30, v := u.t.v } : TxS).cells (.slice none 0 0)) := wholeAt_of (HS5.out.blk_at 0 rfl)
    have wh2 : ∀ w', Below w3.heap.size w3 w' → wholeAt w' (w.heap.size + 2) = some (({ tx0 with frm := addrC, nonce := u.n % 30, v := u.t.v } : TxS).cells (.slice none 0 0)) := fun w' h => wholeAt_of ((HS5.out.grow h).blk_at 0 rfl)
    have whd : wholeAt w3.drew (w.heap.size + 2) = some (({ tx0 with frm := addrC, nonce := u.n % 30, v := u.t.v } : TxS).cells (.slice none 0 0)) := wholeAt_of (HS5.out.drew.blk_at 0 rfl)
    go_region_law (first
      | (go_simp; go_at_call 9; (first | refine (add_st HS5.out 1 rfl HM.out ({ tx0 with frm := addrC, nonce := u.n % 30, v := u.t.v }) (.slice none 0 0) HST.out HSM.out).mono ?_ | refine (add_st HS5.out.drew 1 rfl HM.out ({ tx0 with frm := addrC, nonce := u.n % 30, v := u.t.v }) (.slice none 0 0) HST.out HSM.out).mono ?_); rintro e4 w4 ⟨m', H', rfl, hle, hl', S6⟩; have HS6 := Lib.hid S6; have wh3 : wholeAt w4 (w.heap.size + 2) = some (({ tx0 with frm := addrC, nonce := u.n % 30, v := u.t.v } : TxS).cells (.slice none 0 0)) := wholeAt_of (S6.blk_at 1 rfl))
      | (go_simp; go_at_call 26; refine (radd_st (((HS6.out.pick 3 rfl).pick 3 rfl)) hdl (({ tx0 with frm := addrC, nonce := u.n % 30, v := u.t.v }, none, 0, 0) : El) (HST.out.le hle)).mono ?_; rintro e5 w5 ⟨A7, c7, rfl, S7⟩; rw [HAL.out.addE]))
    all_goals
      have HS7 := Lib.hid ((S7.drop 3).pick 2 rfl)
      have HLE := Lib.hid hle
      have HL2 := Lib.hid hl'
      go_wp2_with fail
      go_ret
      exact ⟨rfl, m', _, A7, c7, H', HLE.out, by rw [HL'.out]; exact HAL.out.add (({ tx0 with frm := addrC, nonce := u.n % 30, v := u.t.v }, none, 0, 0) : El), by rw [HL'.out]; exact HL2.out, (fun y hy => radd_rep (({ tx0 with frm := addrC, nonce := u.n % 30, v := u.t.v }, none, 0, 0) : El) (fun z hz => (HD.out z hz).le HLE.out) (HST.out.le HLE.out) y hy), HS7.out⟩
end
end Go.Proofs.Ytfphlkkhpccpnaa
