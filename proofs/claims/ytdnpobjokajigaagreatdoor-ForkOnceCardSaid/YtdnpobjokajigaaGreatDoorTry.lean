/-
  Clients: try.
-/
import Derived.Test.YtdnpobjokajigaaGreatDoorPart14
namespace Go.Proofs.YtdnpobjokajigaaGreatDoor
open Go.RowKit Go.Proofs K
set_option linter.unusedVariables false
attribute [local go_sem ↓] Go.wp_at_zero Go.wp_at_succ

theorem step_store_st {H0 H : Hs} {w0 w : World} {X : Nat → Prop} {ps : List Hp} {P : Program} {ops : Array Oper} {o : Oper} {a : Act} {K : Act → World → Prop} {Q : Exit → Act → World → Prop} {E : Prop} {b : Nat} {cs old : Array Value} {t : TypeId} (i : Nat) (S : St H0 w0 X H w ps) (hi : ps[i]? = some (blk b (.cells old t (0, 0))))
    (hgd : o.guard = none) (ty : TypeId) (x y : Operand) (ho : o.op = .store ty x y) (hx : a.eval x = .pointer (some ⟨b, 0, none⟩)) (hy : a.eval y = .agg cs)
    (hs : (P.info? ty).map (·.size) = some cs.size) (hold : old.size = cs.size) (h1 : cs.all (·.oneCell') = true)
    (h : ∀ w', St H0 w0 X H w' (blk b (.cells cs t (0, 0)) :: ps.eraseIdx i) → K (a.put o.dst undef) w') : if Region.wanted o (yielded ops a.tmps) = true then Oper.wp P o a w K Q else E := by
  rw [if_pos (by simp [Region.wanted, hgd])]
  exact wp_store_row ty x y ho b cs hx hy t old (S.blk_at i hi) hs hold h1 (h _ (S.setRow i hi cs))
theorem step_load_st {H0 H : Hs} {w0 w : World} {X : Nat → Prop} {ps : List Hp} {P : Program} {ops : Array Oper} {o : Oper} {a : Act} {K : Act → World → Prop} {Q : Exit → Act → World → Prop} {E : Prop} {b : Nat} {cs : Array Value} {t : TypeId} {fr : Nat × Nat} (i : Nat) (S : St H0 w0 X H w ps) (hi : ps[i]? = some (blk b (.cells cs t fr)))
    (hgd : o.guard = none) (ty : TypeId) (x : Operand) (ho : o.op = .load ty x) (hx : a.eval x = .pointer (some ⟨b, 0, none⟩)) (d : TypeDesc) (hu : P.underlying ty = some d) (hd : (match d with | .struct _ | .array _ _ => true | _ => false) = true)
    (hs : (P.info? ty).map (·.size) = some cs.size) (h : K (a.put o.dst (.agg cs)) w) : if Region.wanted o (yielded ops a.tmps) = true then Oper.wp P o a w K Q else E := by
  rw [if_pos (by simp [Region.wanted, hgd])]
  exact wp_load_row ty x ho b hx t cs fr d (S.blk_at i hi) hu hd hs h
theorem szStr1 : (Tryz.prog.info? 9).map (·.size) = some 1 := by kernel_rfl
def TryS (H0 H : Hs) (w0 : World) (X : Nat → Prop) (c d : Nat) (ps : List Hp) (r : (ReplyS × Bool) × Cl) (e : Ending) (w' : World) : Prop :=
  e = .returned (.tuple #[.agg r.1.1.cells, .bool r.1.2]) ∧ St H0 w0 X H w' (cliP c d r.2 :: ps)
section
variable {H0 H : Hs} {w0 w : World} {X : Nat → Prop} {ps : List Hp}
theorem same11 {b : Nat} {t : TypeId} (G : ReplyS) (S : St H0 w0 X H w ps) (i : Nat) (hi : ps[i]? = some (blk b (.cells (replyC G.id G.n G.a G.b G.c G.d G.code G.e G.f G.g G.h) t))) : St H0 w0 X H (((((((((((w.setCell ⟨b, 0, none⟩ (.int .u64 G.id)).setCell ⟨b, 1, none⟩ (.int .u64 G.n)).setCell ⟨b, 2, none⟩ (.int .u64 G.a)).setCell ⟨b, 3, none⟩ (.int .u64 G.b)).setCell ⟨b, 4, none⟩ (.int .u64 G.c)).setCell ⟨b, 5, none⟩ (.int .u64 G.d)).setCell ⟨b, 6, none⟩ (.string G.code)).setCell ⟨b, 7, none⟩ (.int .u64 G.e)).setCell ⟨b, 8, none⟩ (.int .u64 G.f)).setCell ⟨b, 9, none⟩ (.int .u64 G.g)).setCell ⟨b, 10, none⟩ (.int .u64 G.h)) (blk b (.cells (replyC G.id G.n G.a G.b G.c G.d G.code G.e G.f G.g G.h) t) :: ps.eraseIdx i) := by
  have S0 : St H0 w0 X H (w.setCell ⟨b, 0, none⟩ (.int .u64 G.id)) (blk b (.cells (replyC G.id G.n G.a G.b G.c G.d G.code G.e G.f G.g G.h) t) :: ps.eraseIdx i) := S.setCell (j := 0) i hi (.int .u64 G.id)
  have S1 : St H0 w0 X H ((w.setCell ⟨b, 0, none⟩ (.int .u64 G.id)).setCell ⟨b, 1, none⟩ (.int .u64 G.n)) (blk b (.cells (replyC G.id G.n G.a G.b G.c G.d G.code G.e G.f G.g G.h) t) :: ps.eraseIdx i) := S0.setCell (j := 1) 0 rfl (.int .u64 G.n)
  have S2 : St H0 w0 X H (((w.setCell ⟨b, 0, none⟩ (.int .u64 G.id)).setCell ⟨b, 1, none⟩ (.int .u64 G.n)).setCell ⟨b, 2, none⟩ (.int .u64 G.a)) (blk b (.cells (replyC G.id G.n G.a G.b G.c G.d G.code G.e G.f G.g G.h) t) :: ps.eraseIdx i) := S1.setCell (j := 2) 0 rfl (.int .u64 G.a)
  have S3 : St H0 w0 X H ((((w.setCell ⟨b, 0, none⟩ (.int .u64 G.id)).setCell ⟨b, 1, none⟩ (.int .u64 G.n)).setCell ⟨b, 2, none⟩ (.int .u64 G.a)).setCell ⟨b, 3, none⟩ (.int .u64 G.b)) (blk b (.cells (replyC G.id G.n G.a G.b G.c G.d G.code G.e G.f G.g G.h) t) :: ps.eraseIdx i) := S2.setCell (j := 3) 0 rfl (.int .u64 G.b)
  have S4 : St H0 w0 X H (((((w.setCell ⟨b, 0, none⟩ (.int .u64 G.id)).setCell ⟨b, 1, none⟩ (.int .u64 G.n)).setCell ⟨b, 2, none⟩ (.int .u64 G.a)).setCell ⟨b, 3, none⟩ (.int .u64 G.b)).setCell ⟨b, 4, none⟩ (.int .u64 G.c)) (blk b (.cells (replyC G.id G.n G.a G.b G.c G.d G.code G.e G.f G.g G.h) t) :: ps.eraseIdx i) := S3.setCell (j := 4) 0 rfl (.int .u64 G.c)
  have S5 : St H0 w0 X H ((((((w.setCell ⟨b, 0, none⟩ (.int .u64 G.id)).setCell ⟨b, 1, none⟩ (.int .u64 G.n)).setCell ⟨b, 2, none⟩ (.int .u64 G.a)).setCell ⟨b, 3, none⟩ (.int .u64 G.b)).setCell ⟨b, 4, none⟩ (.int .u64 G.c)).setCell ⟨b, 5, none⟩ (.int .u64 G.d)) (blk b (.cells (replyC G.id G.n G.a G.b G.c G.d G.code G.e G.f G.g G.h) t) :: ps.eraseIdx i) := S4.setCell (j := 5) 0 rfl (.int .u64 G.d)
  have S6 : St H0 w0 X H (((((((w.setCell ⟨b, 0, none⟩ (.int .u64 G.id)).setCell ⟨b, 1, none⟩ (.int .u64 G.n)).setCell ⟨b, 2, none⟩ (.int .u64 G.a)).setCell ⟨b, 3, none⟩ (.int .u64 G.b)).setCell ⟨b, 4, none⟩ (.int .u64 G.c)).setCell ⟨b, 5, none⟩ (.int .u64 G.d)).setCell ⟨b, 6, none⟩ (.string G.code)) (blk b (.cells (replyC G.id G.n G.a G.b G.c G.d G.code G.e G.f G.g G.h) t) :: ps.eraseIdx i) := S5.setCell (j := 6) 0 rfl (.string G.code)
  have S7 : St H0 w0 X H ((((((((w.setCell ⟨b, 0, none⟩ (.int .u64 G.id)).setCell ⟨b, 1, none⟩ (.int .u64 G.n)).setCell ⟨b, 2, none⟩ (.int .u64 G.a)).setCell ⟨b, 3, none⟩ (.int .u64 G.b)).setCell ⟨b, 4, none⟩ (.int .u64 G.c)).setCell ⟨b, 5, none⟩ (.int .u64 G.d)).setCell ⟨b, 6, none⟩ (.string G.code)).setCell ⟨b, 7, none⟩ (.int .u64 G.e)) (blk b (.cells (replyC G.id G.n G.a G.b G.c G.d G.code G.e G.f G.g G.h) t) :: ps.eraseIdx i) := S6.setCell (j := 7) 0 rfl (.int .u64 G.e)
  have S8 : St H0 w0 X H (((((((((w.setCell ⟨b, 0, none⟩ (.int .u64 G.id)).setCell ⟨b, 1, none⟩ (.int .u64 G.n)).setCell ⟨b, 2, none⟩ (.int .u64 G.a)).setCell ⟨b, 3, none⟩ (.int .u64 G.b)).setCell ⟨b, 4, none⟩ (.int .u64 G.c)).setCell ⟨b, 5, none⟩ (.int .u64 G.d)).setCell ⟨b, 6, none⟩ (.string G.code)).setCell ⟨b, 7, none⟩ (.int .u64 G.e)).setCell ⟨b, 8, none⟩ (.int .u64 G.f)) (blk b (.cells (replyC G.id G.n G.a G.b G.c G.d G.code G.e G.f G.g G.h) t) :: ps.eraseIdx i) := S7.setCell (j := 8) 0 rfl (.int .u64 G.f)
  have S9 : St H0 w0 X H ((((((((((w.setCell ⟨b, 0, none⟩ (.int .u64 G.id)).setCell ⟨b, 1, none⟩ (.int .u64 G.n)).setCell ⟨b, 2, none⟩ (.int .u64 G.a)).setCell ⟨b, 3, none⟩ (.int .u64 G.b)).setCell ⟨b, 4, none⟩ (.int .u64 G.c)).setCell ⟨b, 5, none⟩ (.int .u64 G.d)).setCell ⟨b, 6, none⟩ (.string G.code)).setCell ⟨b, 7, none⟩ (.int .u64 G.e)).setCell ⟨b, 8, none⟩ (.int .u64 G.f)).setCell ⟨b, 9, none⟩ (.int .u64 G.g)) (blk b (.cells (replyC G.id G.n G.a G.b G.c G.d G.code G.e G.f G.g G.h) t) :: ps.eraseIdx i) := S8.setCell (j := 9) 0 rfl (.int .u64 G.g)
  have S10 : St H0 w0 X H (((((((((((w.setCell ⟨b, 0, none⟩ (.int .u64 G.id)).setCell ⟨b, 1, none⟩ (.int .u64 G.n)).setCell ⟨b, 2, none⟩ (.int .u64 G.a)).setCell ⟨b, 3, none⟩ (.int .u64 G.b)).setCell ⟨b, 4, none⟩ (.int .u64 G.c)).setCell ⟨b, 5, none⟩ (.int .u64 G.d)).setCell ⟨b, 6, none⟩ (.string G.code)).setCell ⟨b, 7, none⟩ (.int .u64 G.e)).setCell ⟨b, 8, none⟩ (.int .u64 G.f)).setCell ⟨b, 9, none⟩ (.int .u64 G.g)).setCell ⟨b, 10, none⟩ (.int .u64 G.h)) (blk b (.cells (replyC G.id G.n G.a G.b G.c G.d G.code G.e G.f G.g G.h) t) :: ps.eraseIdx i) := S9.setCell (j := 10) 0 rfl (.int .u64 G.h)
  exact S10
theorem try_fin {c d k n3 n4 : Nat} {C C2 : Cl} {x : AskS} {s one : ByteArray} {r : List ByteArray} {G : ReplyS} {ok : Bool} {A3 A4 : Option Addr} (hsc : C.script = s :: r) (hC2 : C2 = { C with next := C.next + 1, asked := C.asked ++ [one] }) (hone : one = x.put C.next) (hG : G = (gotF x.kind s.data.toList).getD zRep) (hok : ok = (gotF x.kind s.data.toList).isSome)
    (S : St H0 w0 X H w (ownO 9 1 (.slice A4 r.length n4) r.length (strS r) :: own 9 1 (.slice A3 C2.asked.length n3) C2.asked.length (strS C2.asked) :: mapP encA k (repM C.known) :: blk c (cliO d k C2 (.slice A4 r.length n4) (.slice A3 C2.asked.length n3)) :: ps)) (v : Bool) (hv : v = (ok && decide (G.id = C.next))) :
    TryS H0 H w0 X c d ps (C.try x) (.returned (.tuple #[.agg (replyC G.id G.n G.a G.b G.c G.d G.code G.e G.f G.g G.h), .bool v])) w := by
  have hC : C.try x = ((G, v), { C2 with script := r }) := by
    rw [hv, hok, hG, hC2, hone]
    unfold Cl.try
    simp [hsc]
  rw [hC]
  refine ⟨rfl, shutCli (C := { C2 with script := r }) (k := k) (sv := .slice A4 r.length n4) (av := .slice A3 C2.asked.length n3) ?_⟩
  have ek : C2.known = C.known := by rw [hC2]
  show St H0 w0 X H w (_ :: _ :: mapP encA k (repM C2.known) :: _)
  rw [ek]
  exact S
set_option maxRecDepth 100000 in
set_option maxHeartbeats 8000000 in
theorem try_any {c d : Nat} {C : Cl} (S : St H0 w0 X H w ps) (i : Nat) (hi : ps[i]? = some (cliP c d C)) (x : AskS) (hn0 : 0 ≤ C.next) (hn1 : C.next < 1000000) (ha : C.asked.length ≤ 1000000) (hs : ∀ s ∈ C.script, s.size ≤ 140737488355328) :
    Calls Tryz.prog 134 #[.pointer (some ⟨c, 0, none⟩), .agg (askC x.id x.addr x.a x.b x.c x.d x.kind)] w (TryS H0 H w0 X c d (ps.eraseIdx i) (C.try x)) := by
  obtain ⟨k, A1, n1, A2, n2, S1⟩ := openCli S i hi
  obtain ⟨i0, hi0, hz0, hz1, hz2⟩ := info_parts infoStr
  obtain ⟨W, hW⟩ : ∃ W, W = (w.alloc (.cells (askC x.id x.addr x.a x.b x.c x.d x.kind) 45)).alloc (.cells zReply 37) := ⟨_, rfl⟩
  have HS : Hid (St H0 w0 X H W (blk (w.heap.size + 1) (.cells zReply 37) :: blk w.heap.size (.cells (askC x.id x.addr x.a x.b x.c x.d x.kind) 45) :: ownO 9 1 (.slice A1 C.script.length n1) C.script.length (strS C.script) :: own 9 1 (.slice A2 C.asked.length n2) C.asked.length (strS C.asked) :: mapP encA k (repM C.known) :: blk c (cliO d k C (.slice A1 C.script.length n1) (.slice A2 C.asked.length n2)) :: ps.eraseIdx i)) := by
    rw [hW]
    exact Lib.hid ((S1.alloc' _ w.heap.size rfl).alloc' _ (w.heap.size + 1) (by simp))
  have HW := Lib.hid hW
  have HSC := Lib.hid hs
  have c5 : W.cell? ⟨c, 5, none⟩ = some (.int .u64 C.next) := HS.out.cell 5 rfl rfl
  have a0 : W.cell? ⟨w.heap.size, 0, none⟩ = some (.int .u64 x.id) := HS.out.cell 1 rfl rfl
  have f0 : W.frozen? ⟨w.heap.size, 0, none⟩ = false := HS.out.frozen 1 rfl 0
  clear S S1 hW hs
  go_enter Tryz.func134, Tryz.ntmps134
  go_upto_region 1 with (fail)
  have eW := HW.out
  simp only [zReply, replyC] at eW
  rw [← eW]
  clear eW
  go_upto_region 2 with (fail)
  obtain ⟨w1, hw1⟩ : ∃ w1, w1 = W.setCell ⟨w.heap.size, 0, none⟩ (.int .u64 C.next) := ⟨_, rfl⟩
  have HS1 : Hid (St H0 w0 X H w1 (blk w.heap.size (.cells (askC C.next x.addr x.a x.b x.c x.d x.kind) 45) :: blk (w.heap.size + 1) (.cells zReply 37) :: ownO 9 1 (.slice A1 C.script.length n1) C.script.length (strS C.script) :: own 9 1 (.slice A2 C.asked.length n2) C.asked.length (strS C.asked) :: mapP encA k (repM C.known) :: blk c (cliO d k C (.slice A1 C.script.length n1) (.slice A2 C.asked.length n2)) :: ps.eraseIdx i)) := by
    rw [hw1]
    exact Lib.hid (HS.out.setCell (j := 0) 1 rfl (.int .u64 C.next))
  rw [← hw1]
  clear hw1 HS HW c5 a0 f0
  have c5 : w1.cell? ⟨c, 5, none⟩ = some (.int .u64 C.next) := HS1.out.cell 5 rfl rfl
  have f5 : w1.frozen? ⟨c, 5, none⟩ = false := HS1.out.frozen 5 rfl 5
  go_upto_region 3 with (fail)
  obtain ⟨w2, hw2⟩ : ∃ w2, w2 = w1.setCell ⟨c, 5, none⟩ (.int .u64 (C.next + 1)) := ⟨_, rfl⟩
  have HS2 : Hid (St H0 w0 X H w2 (blk c (cliO d k { C with next := C.next + 1 } (.slice A1 C.script.length n1) (.slice A2 C.asked.length n2)) :: blk w.heap.size (.cells (askC C.next x.addr x.a x.b x.c x.d x.kind) 45) :: blk (w.heap.size + 1) (.cells zReply 37) :: ownO 9 1 (.slice A1 C.script.length n1) C.script.length (strS C.script) :: own 9 1 (.slice A2 C.asked.length n2) C.asked.length (strS C.asked) :: mapP encA k (repM C.known) :: ps.eraseIdx i)) := by
    rw [hw2]
    exact Lib.hid (HS1.out.setCell (j := 5) 5 rfl (.int .u64 (C.next + 1)))
  rw [← hw2]
  clear hw2 HS1 c5 f5
  go_wp2_with (first
    | (refine wpList_load_st (cs := askC C.next x.addr x.a x.b x.c x.d x.kind) 1 HS2.out rfl rfl 45 (.tmp 3) rfl rfl _ Tryz.underlying45 rfl szAsk ?_)
    | fail)
  refine (putAsk_all _ _ _ _ _ _ _ _).mono ?_
  rintro e w3 ⟨rfl, hb3⟩
  obtain ⟨one, hone⟩ : ∃ one, one = x.put C.next := ⟨_, rfl⟩
  have HONE := Lib.hid hone
  rw [show (putAskR C.next x.addr x.a x.b x.c x.d x.kind).1 = one from hone.symm]
  have HS3 := Lib.hid (HS2.out.grow hb3)
  clear hb3 HS2 hone
  have c4 : w3.cell? ⟨c, 4, none⟩ = some (.slice A2 C.asked.length n2) := HS3.out.cell 0 rfl rfl
  have HA := Lib.hid ha
  clear ha
  have HS4 := Lib.hid (HS3.out.alloc (.cells #[.string one] 9))
  go_upto_region 5 with (first
    | (at_builtin; refine wpList_append_st 5 9 HS4.out rfl rfl _ _ 39 rfl i0 _ 16 Tryz.underlying39 hi0 hz0 hz1 hz2 rfl (by decide) rfl ⟨w3.heap.size, 0, none⟩ 1 1 [.string one] rfl rfl (fun j u hj => by
        rcases j with _ | j
        · cases hj; exact HS4.out.cell 0 rfl rfl
        · simp at hj) (by simp [Value.oneCell']) (by unfold maxLen; have := HA.out; omega) (by have := HA.out; omega) ?_)
    | fail)
  intro A3 n3 w4 S4
  have d4 : w4.cell? ⟨c, 4, none⟩ = some (.slice A2 C.asked.length n2) := S4.cell 2 rfl rfl
  have f4 : w4.frozen? ⟨c, 4, none⟩ = false := S4.frozen 2 rfl 4
  have HS5 := Lib.hid S4
  clear S4 HS4 HS3 c4
  go_upto_region 5 with (fail)
  obtain ⟨w5, hw5⟩ : ∃ w5, w5 = w4.setCell ⟨c, 4, none⟩ (.slice A3 (C.asked.length + 1) n3) := ⟨_, rfl⟩
  obtain ⟨C2, hC2⟩ : ∃ C2 : Cl, C2 = { C with next := C.next + 1, asked := C.asked ++ [one] } := ⟨_, rfl⟩
  have HS6 : Hid (St H0 w0 X H w5 (blk c (cliO d k C2 (.slice A1 C.script.length n1) (.slice A3 C2.asked.length n3)) :: own 9 1 (.slice A3 C2.asked.length n3) C2.asked.length (strS C2.asked) :: blk w.heap.size (.cells (askC C.next x.addr x.a x.b x.c x.d x.kind) 45) :: blk (w.heap.size + 1) (.cells zReply 37) :: ownO 9 1 (.slice A1 C.script.length n1) C.script.length (strS C.script) :: mapP encA k (repM C.known) :: ps.eraseIdx i)) := by
    rw [hw5, hC2]
    have e1 : (C.asked ++ [one]).length = C.asked.length + 1 := by rw [List.length_append]; rfl
    have e2 : strS (C.asked ++ [one]) = strS C.asked ++ [.string one] := by simp [strS]
    show Hid (St H0 w0 X H _ (blk c (cliO d k _ _ (.slice A3 (C.asked ++ [one]).length n3)) :: own 9 1 (.slice A3 (C.asked ++ [one]).length n3) (C.asked ++ [one]).length (strS (C.asked ++ [one])) :: _))
    rw [e1, e2]
    exact Lib.hid ((HS5.out.setCell (j := 4) 2 rfl (.slice A3 (C.asked.length + 1) n3)).drop 2)
  rw [← hw5]
  have HC2 := Lib.hid hC2
  clear hw5 HS5 d4 f4 hC2
  have c3 : w5.cell? ⟨c, 3, none⟩ = some (.slice A1 C.script.length n1) := HS6.out.cell 0 rfl rfl
  cases hsc : C.script with
  | nil =>
    rw [hsc] at c3 HS6
    go_wp2_with (first
      | (refine wpList_load_st (cs := zReply) 3 HS6.out rfl rfl 37 (.tmp 4) rfl rfl _ Tryz.underlying37 rfl szReply ?_)
      | (refine wpList_store_st (cs := zReply) 3 HS6.out rfl rfl 37 (.tmp 4) (.tmp 41) rfl rfl rfl szReply rfl (oneReply _ _ _ _ _ _ _ _ _ _ _) ?_)
      | fail)
    intro w6 S6
    go_wp2_with fail
    have hC : C.try x = ((zRep, false), C2) := by
      rw [HC2.out, HONE.out]
      unfold Cl.try
      simp [hsc]
    refine post_cell2 0 S6 rfl Tryz.results134 rfl _ Tryz.underlying37 rfl szReply rfl ?_
    rw [hC]
    refine ⟨rfl, shutCli (k := k) (sv := .slice A1 0 n1) (av := .slice A3 C2.asked.length n3) ?_⟩
    have e : C2.script = [] := by rw [HC2.out]; exact hsc
    have ek : C.known = C2.known := by rw [HC2.out]
    have S7 := ((((S6.drop 0).drop 2).pick 3 rfl).pick 2 rfl).pick 3 rfl
    rw [ek] at S7
    show St H0 w0 X H w6 (ownO 9 1 _ C2.script.length (strS C2.script) :: _)
    rw [e]
    exact S7
  | cons s r =>
    rw [hsc] at c3 HS6
    have hrow := HS6.out.ownO_at 4 rfl
    obtain ⟨g, off, rfl⟩ : ∃ g off, A1 = some ⟨g, off, none⟩ := by
      rcases hrow.2 with ⟨_, h0⟩ | ⟨g, off, cap, cur, hv, _⟩
      · simp at h0
      · cases hv; exact ⟨g, off, rfl⟩
    have cs : w5.cell? ⟨g, off, none⟩ = some (.string s) := by
      have := hrow.cells 0 (.string s) rfl
      rwa [Addr.add_lit, Nat.add_zero] at this
    have ck : w5.cell? ⟨w.heap.size, 6, none⟩ = some (.int .i64 x.kind) := HS6.out.cell 2 rfl rfl
    have hlen : (0 : Int) < ((s :: r).length : Int) := by simp
    clear hrow
    obtain ⟨G, hG⟩ : ∃ G, G = (gotF x.kind s.data.toList).getD zRep := ⟨_, rfl⟩
    obtain ⟨ok, hok⟩ : ∃ ok, ok = (gotF x.kind s.data.toList).isSome := ⟨_, rfl⟩
    have HG := Lib.hid (got_any x.kind s.data.toList (by
      have := HSC.out s (by rw [hsc]; exact List.mem_cons_self)
      rw [Array.length_toList]
      exact this))
    rw [← hG, ← hok, bs_list] at HG
    obtain ⟨gc, hgc⟩ : ∃ gc, gc = G.cells := ⟨_, rfl⟩
    rw [← hgc] at HG
    have gsz : gc.size = 11 := by rw [hgc]; rfl
    have gone : gc.all (·.oneCell') = true := by rw [hgc]; exact oneReply _ _ _ _ _ _ _ _ _ _ _
    have st1 : ∀ w', Below w5.heap.size w5 w' → (storeVar 37 ⟨w.heap.size + 1, 0, none⟩ (.agg gc)).run Tryz.prog w' = .ok () (w'.setRow (w.heap.size + 1) gc) := fun w' h =>
      run_storeVar_row (P := Tryz.prog) w' (w.heap.size + 1) 37 37 zReply gc ((HS6.out.grow h).blk_at 3 rfl) (by rw [gsz]; exact szReply) (by rw [gsz]; rfl) gone
    have st2 : ∀ w', Below w5.heap.size w5 w' → (storeCells ⟨w.heap.size + 1, 0, none⟩ gc.toList 0).run Tryz.prog w' = .ok () (w'.setRow (w.heap.size + 1) gc) := fun w' h => by
      have := run_storeCells_from (P := Tryz.prog) (w.heap.size + 1) 37 gc.toList 0 zReply w' ((HS6.out.grow h).blk_at 3 rfl) (by rw [Array.length_toList, gsz]; rfl) (fun v hv => (Array.all_eq_true_iff_forall_mem.1 gone) v (by simpa using hv))
      simpa using this
    have HGC := Lib.hid hgc
    clear hgc
    have HG0 := Lib.hid hG
    have HOK := Lib.hid hok
    clear hG hok
    go_upto_region 7 with (fail)
    go_region_with (go_at_call 63; refine (HG.out _).mono ?_; rintro e w6 ⟨rfl, hb6⟩; have hb7 : Below w5.heap.size w5 w6 := (Below.refl _ w5).drew.trans hb6)
    all_goals
      obtain ⟨w7, hw7⟩ : ∃ w7, w7 = w6.setRow (w.heap.size + 1) gc := ⟨_, rfl⟩
      have HS8 : Hid (St H0 w0 X H w7 (blk (w.heap.size + 1) (.cells gc 37) :: blk c (cliO d k C2 (.slice (some ⟨g, off, none⟩) (s :: r).length n1) (.slice A3 C2.asked.length n3)) :: own 9 1 (.slice A3 C2.asked.length n3) C2.asked.length (strS C2.asked) :: blk w.heap.size (.cells (askC C.next x.addr x.a x.b x.c x.d x.kind) 45) :: ownO 9 1 (.slice (some ⟨g, off, none⟩) (s :: r).length n1) (s :: r).length (strS (s :: r)) :: mapP encA k (repM C.known) :: ps.eraseIdx i)) := by
        rw [hw7]
        exact Lib.hid ((HS6.out.grow hb7).setRow 3 rfl gc)
      rw [← hw7]
      clear hw7 hb7 hb6 st1 st2 c3 cs ck HS6
      have c3 : w7.cell? ⟨c, 3, none⟩ = some (.slice (some ⟨g, off, none⟩) (s :: r).length n1) := HS8.out.cell 1 rfl rfl
      have f3 : w7.frozen? ⟨c, 3, none⟩ = false := HS8.out.frozen 1 rfl 3
      have hrow := HS8.out.ownO_at 4 rfl
      have hcut := cut_run (P := Tryz.prog) (k := 1) Tryz.underlying39 szStr1 hrow (by simp)
      obtain ⟨A4, n4, hv4, _⟩ := (hrow.cut (k := 1) (by simp)).form
      rw [hv4] at hcut
      have hcut1 : (Instr.slice 39 (.slice (some ⟨g, off, none⟩) (r.length + 1) n1) (some (.int .i64 1)) none none).run Tryz.prog w7 = .ok (.slice A4 r.length n4) w7 := by simpa using hcut
      have HS9 := HS8.out.cutO 4 rfl 1 (by simp)
      rw [hv4] at HS9
      have HS9 := Lib.hid HS9
      clear hcut hrow hv4 HS8
      go_upto_region 9 with (fail)
    all_goals
      obtain ⟨w8, hw8⟩ : ∃ w8, w8 = w7.setCell ⟨c, 3, none⟩ (.slice A4 r.length n4) := ⟨_, rfl⟩
      have HS10 : Hid (St H0 w0 X H w8 (blk c (cliO d k C2 (.slice A4 r.length n4) (.slice A3 C2.asked.length n3)) :: ownO 9 1 (.slice A4 r.length n4) r.length (strS r) :: blk (w.heap.size + 1) (.cells gc 37) :: own 9 1 (.slice A3 C2.asked.length n3) C2.asked.length (strS C2.asked) :: blk w.heap.size (.cells (askC C.next x.addr x.a x.b x.c x.d x.kind) 45) :: mapP encA k (repM C.known) :: ps.eraseIdx i)) := by
        rw [hw8]
        exact Lib.hid (HS9.out.setCell (j := 3) 2 rfl (.slice A4 r.length n4))
      rw [← hw8]
      clear hw8 c3 f3 HS9 hcut1
      have hgc := HGC.out
      have r0 : w8.cell? ⟨w.heap.size + 1, 0, none⟩ = some (.int .u64 G.id) := HS10.out.cell 2 rfl (by rw [hgc]; rfl)
      have q0 : w8.frozen? ⟨w.heap.size + 1, 0, none⟩ = false := HS10.out.frozen 2 rfl 0
      have r1 : w8.cell? ⟨w.heap.size + 1, 1, none⟩ = some (.int .u64 G.n) := HS10.out.cell 2 rfl (by rw [hgc]; rfl)
      have q1 : w8.frozen? ⟨w.heap.size + 1, 1, none⟩ = false := HS10.out.frozen 2 rfl 1
      have r2 : w8.cell? ⟨w.heap.size + 1, 2, none⟩ = some (.int .u64 G.a) := HS10.out.cell 2 rfl (by rw [hgc]; rfl)
      have q2 : w8.frozen? ⟨w.heap.size + 1, 2, none⟩ = false := HS10.out.frozen 2 rfl 2
      have r3 : w8.cell? ⟨w.heap.size + 1, 3, none⟩ = some (.int .u64 G.b) := HS10.out.cell 2 rfl (by rw [hgc]; rfl)
      have q3 : w8.frozen? ⟨w.heap.size + 1, 3, none⟩ = false := HS10.out.frozen 2 rfl 3
      have r4 : w8.cell? ⟨w.heap.size + 1, 4, none⟩ = some (.int .u64 G.c) := HS10.out.cell 2 rfl (by rw [hgc]; rfl)
      have q4 : w8.frozen? ⟨w.heap.size + 1, 4, none⟩ = false := HS10.out.frozen 2 rfl 4
      have r5 : w8.cell? ⟨w.heap.size + 1, 5, none⟩ = some (.int .u64 G.d) := HS10.out.cell 2 rfl (by rw [hgc]; rfl)
      have q5 : w8.frozen? ⟨w.heap.size + 1, 5, none⟩ = false := HS10.out.frozen 2 rfl 5
      have r6 : w8.cell? ⟨w.heap.size + 1, 6, none⟩ = some (.string G.code) := HS10.out.cell 2 rfl (by rw [hgc]; rfl)
      have q6 : w8.frozen? ⟨w.heap.size + 1, 6, none⟩ = false := HS10.out.frozen 2 rfl 6
      have r7 : w8.cell? ⟨w.heap.size + 1, 7, none⟩ = some (.int .u64 G.e) := HS10.out.cell 2 rfl (by rw [hgc]; rfl)
      have q7 : w8.frozen? ⟨w.heap.size + 1, 7, none⟩ = false := HS10.out.frozen 2 rfl 7
      have r8 : w8.cell? ⟨w.heap.size + 1, 8, none⟩ = some (.int .u64 G.f) := HS10.out.cell 2 rfl (by rw [hgc]; rfl)
      have q8 : w8.frozen? ⟨w.heap.size + 1, 8, none⟩ = false := HS10.out.frozen 2 rfl 8
      have r9 : w8.cell? ⟨w.heap.size + 1, 9, none⟩ = some (.int .u64 G.g) := HS10.out.cell 2 rfl (by rw [hgc]; rfl)
      have q9 : w8.frozen? ⟨w.heap.size + 1, 9, none⟩ = false := HS10.out.frozen 2 rfl 9
      have r10 : w8.cell? ⟨w.heap.size + 1, 10, none⟩ = some (.int .u64 G.h) := HS10.out.cell 2 rfl (by rw [hgc]; rfl)
      have q10 : w8.frozen? ⟨w.heap.size + 1, 10, none⟩ = false := HS10.out.frozen 2 rfl 10
      have a0 : w8.cell? ⟨w.heap.size, 0, none⟩ = some (.int .u64 C.next) := HS10.out.cell 4 rfl rfl
      clear hgc
      have HS11 : Hid (St H0 w0 X H w8 (blk c (cliO d k C2 (.slice A4 r.length n4) (.slice A3 C2.asked.length n3)) :: ownO 9 1 (.slice A4 r.length n4) r.length (strS r) :: blk (w.heap.size + 1) (.cells (replyC G.id G.n G.a G.b G.c G.d G.code G.e G.f G.g G.h) 37) :: own 9 1 (.slice A3 C2.asked.length n3) C2.asked.length (strS C2.asked) :: blk w.heap.size (.cells (askC C.next x.addr x.a x.b x.c x.d x.kind) 45) :: mapP encA k (repM C.known) :: ps.eraseIdx i)) := Lib.hid (by
        have := HS10.out
        rw [HGC.out] at this
        exact this)
      clear HS10
      cases ok with
      | false =>
        go_region
        all_goals
          have S12 : St H0 w0 X H (((((((((((w8.setCell ⟨w.heap.size + 1, 0, none⟩ (.int .u64 G.id)).setCell ⟨w.heap.size + 1, 1, none⟩ (.int .u64 G.n)).setCell ⟨w.heap.size + 1, 2, none⟩ (.int .u64 G.a)).setCell ⟨w.heap.size + 1, 3, none⟩ (.int .u64 G.b)).setCell ⟨w.heap.size + 1, 4, none⟩ (.int .u64 G.c)).setCell ⟨w.heap.size + 1, 5, none⟩ (.int .u64 G.d)).setCell ⟨w.heap.size + 1, 6, none⟩ (.string G.code)).setCell ⟨w.heap.size + 1, 7, none⟩ (.int .u64 G.e)).setCell ⟨w.heap.size + 1, 8, none⟩ (.int .u64 G.f)).setCell ⟨w.heap.size + 1, 9, none⟩ (.int .u64 G.g)).setCell ⟨w.heap.size + 1, 10, none⟩ (.int .u64 G.h)).drew (blk (w.heap.size + 1) (.cells (replyC G.id G.n G.a G.b G.c G.d G.code G.e G.f G.g G.h) 37) :: blk c (cliO d k C2 (.slice A4 r.length n4) (.slice A3 C2.asked.length n3)) :: ownO 9 1 (.slice A4 r.length n4) r.length (strS r) :: own 9 1 (.slice A3 C2.asked.length n3) C2.asked.length (strS C2.asked) :: blk w.heap.size (.cells (askC C.next x.addr x.a x.b x.c x.d x.kind) 45) :: mapP encA k (repM C.known) :: ps.eraseIdx i) := (same11 G HS11.out 2 rfl).drew
          go_wp2_with fail
          refine post_cell2 0 S12 rfl Tryz.results134 rfl _ Tryz.underlying37 rfl szReply rfl ?_
          have S13 := (((((S12.drop 0).drop 3).pick 3 rfl).pick 3 rfl).pick 3 rfl)
          exact try_fin hsc HC2.out HONE.out HG0.out HOK.out S13 _ (by first | rfl | simp)
      | true =>
        go_region
        all_goals
          have S12 : St H0 w0 X H (((((((((((w8.setCell ⟨w.heap.size + 1, 0, none⟩ (.int .u64 G.id)).setCell ⟨w.heap.size + 1, 1, none⟩ (.int .u64 G.n)).setCell ⟨w.heap.size + 1, 2, none⟩ (.int .u64 G.a)).setCell ⟨w.heap.size + 1, 3, none⟩ (.int .u64 G.b)).setCell ⟨w.heap.size + 1, 4, none⟩ (.int .u64 G.c)).setCell ⟨w.heap.size + 1, 5, none⟩ (.int .u64 G.d)).setCell ⟨w.heap.size + 1, 6, none⟩ (.string G.code)).setCell ⟨w.heap.size + 1, 7, none⟩ (.int .u64 G.e)).setCell ⟨w.heap.size + 1, 8, none⟩ (.int .u64 G.f)).setCell ⟨w.heap.size + 1, 9, none⟩ (.int .u64 G.g)).setCell ⟨w.heap.size + 1, 10, none⟩ (.int .u64 G.h)).drew (blk (w.heap.size + 1) (.cells (replyC G.id G.n G.a G.b G.c G.d G.code G.e G.f G.g G.h) 37) :: blk c (cliO d k C2 (.slice A4 r.length n4) (.slice A3 C2.asked.length n3)) :: ownO 9 1 (.slice A4 r.length n4) r.length (strS r) :: own 9 1 (.slice A3 C2.asked.length n3) C2.asked.length (strS C2.asked) :: blk w.heap.size (.cells (askC C.next x.addr x.a x.b x.c x.d x.kind) 45) :: mapP encA k (repM C.known) :: ps.eraseIdx i) := (same11 G HS11.out 2 rfl).drew
          go_wp2_with fail
          refine post_cell2 0 S12 rfl Tryz.results134 rfl _ Tryz.underlying37 rfl szReply rfl ?_
          have S13 := (((((S12.drop 0).drop 3).pick 3 rfl).pick 3 rfl).pick 3 rfl)
          exact try_fin hsc HC2.out HONE.out HG0.out HOK.out S13 _ (by first | rfl | simp)
end
end Go.Proofs.YtdnpobjokajigaaGreatDoor
