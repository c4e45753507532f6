/-
  The document's own Right.
-/
import Derived.Test.YtfphlkkhpccpnaaRight
namespace Go.Proofs.Ytfphlkkhpccpnaa
open Go.RowKit Go.Proofs K
set_option linter.unusedVariables false

def preB (t : TxS) : Bool := (decide (0 ≤ t.kind) && decide (t.kind ≤ 2)) && t.frm.size == 20 && (t.to.toList == [] || t.to.size == 20) && decide (t.data.size ≤ 32768) &&
    ((t.kind != 0 || t.acc.length == 0) && decide (t.acc.length ≤ 64) && (t.kind == 2 || (t.q.a == 0 && t.q.b == 0 && t.q.c == 0 && t.q.d == 0)))
theorem right_pre (t : TxS) : rightB t = (t.acc.all acOk && preB t) := by
  have e : (t.to.size == 0) = (t.to.toList == []) := by
    rw [ByteArray.toList_eq]
    show (t.to.data.size == 0) = _
    rw [← Array.length_toList]
    cases t.to.data.toList <;> rfl
  unfold rightB preB
  rw [e]
  simp only [Bool.and_assoc]
set_option maxRecDepth 100000 in
set_option maxHeartbeats 4000000 in
theorem rright_no (t : TxS) (s : Value) (Ha H : Hs) (w : World) (ha : Ag Ha w) (hw : Ag H w) (hs : RepV Ha s (accsD t.acc)) (hp : preB t = false) :
    Calls Try.prog 35 #[.agg (t.cells s)] w (RetBool (rightB t) H w) := by
  have HF := Lib.hid (show rightB t = false by rw [right_pre, hp, Bool.and_false])
  obtain ⟨A, c, cs, rfl, hnc, hA, hl, hr, hd⟩ := hs.sl_inv
  have HS : Hid (St H w none_ H (w.alloc (t.obj (.slice A t.acc.length c))) [blk w.heap.size (t.obj (.slice A t.acc.length c))]) := (St.start hw).alloc _
  have HP := Lib.hid hp
  have HW := Lib.hid (St.start hw)
  clear hp hs hd hr hl hA hnc ha hw
  simp only [TxS.cells]
  go_enter Try.func35, Try.ntmps35
  go_wp2_with fail
  all_goals first
    | (go_ret; exact ⟨congrArg (fun b => Ending.returned (.bool b)) HF.out.symm, (HW.out.alloc _).nil⟩)
    | (exfalso; have hp := HP.out; simp [preB] at hp; first | (simp_all; done) | (simp_all; omega) | omega)
theorem qz {t : TxS} (h : (t.q.a == 0 && t.q.b == 0 && t.q.c == 0 && t.q.d == 0) = true) : t.q.a = 0 ∧ t.q.b = 0 ∧ t.q.c = 0 ∧ t.q.d = 0 := by
  simp only [Bool.and_eq_true, beq_iff_eq] at h
  exact ⟨h.1.1.1, h.1.1.2, h.1.2, h.2⟩
/-- What the first tests ask, case by case. -/
inductive PreC (t : TxS) : Prop
  | two (h : t.kind = 2) : PreC t
  | one (h : t.kind = 1) (h1 : t.q.a = 0 ∧ t.q.b = 0 ∧ t.q.c = 0 ∧ t.q.d = 0) : PreC t
  | zero (h : t.kind = 0) (h1 : t.q.a = 0 ∧ t.q.b = 0 ∧ t.q.c = 0 ∧ t.q.d = 0) (h2 : t.acc.length = 0) : PreC t
theorem pre_cases {t : TxS} (h : preB t = true) : PreC t ∧ t.frm.size = 20 ∧ (t.to.toList = [] ∨ (t.to.size = 20 ∧ t.to.toList ≠ [])) ∧ t.data.size ≤ 32768 ∧ t.acc.length ≤ 64 := by
  simp only [preB, Bool.and_eq_true, decide_eq_true_eq, Bool.or_eq_true, beq_iff_eq, bne_iff_ne, ne_eq] at h
  obtain ⟨⟨⟨⟨⟨h1, h2⟩, h3⟩, h4⟩, h5⟩, ⟨h6, h7⟩, h8⟩ := h
  refine ⟨?_, h3, ?_, h5, h7⟩
  · rcases (by omega : t.kind = 0 ∨ t.kind = 1 ∨ t.kind = 2) with e | e | e
    · refine .zero e (h8.elim (fun h => by omega) fun h => ⟨h.1.1.1, h.1.1.2, h.1.2, h.2⟩) (h6.elim (fun h => absurd e h) fun h => h)
    · exact .one e (h8.elim (fun h => by omega) fun h => ⟨h.1.1.1, h.1.1.2, h.1.2, h.2⟩)
    · exact .two e
  · rcases h4 with h | h
    · exact .inl h
    · by_cases e : t.to.toList = []
      · exact .inl e
      · exact .inr ⟨h, e⟩
set_option maxRecDepth 100000 in
set_option maxHeartbeats 4000000 in
theorem rright_yes (t : TxS) (s : Value) (Ha H : Hs) (w : World) (ha : Ag Ha w) (hw : Ag H w) (hs : RepV Ha s (accsD t.acc)) (hp : preB t = true) :
    Calls Try.prog 35 #[.agg (t.cells s)] w (RetBool (rightB t) H w) := by
  have HRP := Lib.hid (show rightB t = t.acc.all acOk by rw [right_pre, hp, Bool.and_true])
  obtain ⟨hc, h20, hto, hdt, h64⟩ := pre_cases hp
  obtain ⟨A, c, cs, rfl, hnc, hA, hl, hr, hd⟩ := hs.sl_inv
  have hcl : cs.length = t.acc.length * 2 := hd.len.trans hl
  have HD := Lib.hid hd
  have HR := Lib.hid hr
  have HA := Lib.hid ha
  have HC := Lib.hid hcl
  have HS : Hid (St H w none_ H (w.alloc (t.obj (.slice A t.acc.length c))) [blk w.heap.size (t.obj (.slice A t.acc.length c))]) := (St.start hw).alloc _
  have n20 : ((t.frm.size : Int) != 20) = false := by simp [h20]
  have ndt : ¬ (32768 : Int) < (t.data.size : Int) := by omega
  have n64 : ¬ (64 : Int) < (t.acc.length : Int) := by omega
  clear hp hs hd hr hl hA hnc ha hw h20 hdt hcl
  have hto' : ((t.to.toList == ([] : List UInt8)) = true) ∨ ((t.to.toList == ([] : List UInt8)) = false ∧ ((t.to.size : Int) != 20) = false) := by
    rcases hto with h | ⟨h, h2⟩
    · exact .inl (by rw [h]; rfl)
    · exact .inr ⟨beq_eq_false_iff_ne.2 h2, by simp [h]⟩
  clear hto
  have hk : ∃ b0 b2 : Bool, ¬ t.kind < 0 ∧ ¬ 2 < t.kind ∧ (t.kind == 0) = b0 ∧ (t.kind != 2) = b2 ∧ (b0 = true → decide (0 < t.acc.length) = false) ∧ (b2 = true → (t.q.a == 0) = true ∧ (t.q.b == 0) = true ∧ (t.q.c == 0) = true ∧ (t.q.d == 0) = true) := by
    cases hc with
    | two h => exact ⟨false, false, by omega, by omega, by rw [h]; rfl, by rw [h]; rfl, (fun h => by cases h), fun h => by cases h⟩
    | one h h1 => exact ⟨false, true, by omega, by omega, by rw [h]; rfl, by rw [h]; rfl, (fun h => by cases h), fun _ => ⟨beq_iff_eq.2 h1.1, beq_iff_eq.2 h1.2.1, beq_iff_eq.2 h1.2.2.1, beq_iff_eq.2 h1.2.2.2⟩⟩
    | zero h h1 h2 => exact ⟨true, true, by omega, by omega, by rw [h]; rfl, by rw [h]; rfl, (fun _ => decide_eq_false (by omega)), fun _ => ⟨beq_iff_eq.2 h1.1, beq_iff_eq.2 h1.2.1, beq_iff_eq.2 h1.2.2.1, beq_iff_eq.2 h1.2.2.2⟩⟩
  obtain ⟨b0, b2, k0, k2, e0, e2, f0, f2⟩ := hk
  clear hc
  obtain ⟨n, hn⟩ : ∃ n, n = t.acc.length := ⟨_, rfl⟩
  rw [← hn] at HS f0 n64 ⊢
  have HN := Lib.hid hn
  clear hn
  simp only [TxS.cells]
  rcases hto' with hto | ⟨hto, hto2⟩ <;> cases b0 <;> cases b2
  all_goals
    first | (obtain ⟨q1, q2, q3, q4⟩ := f2 rfl) | skip
    first | (have f00 := f0 rfl) | skip
    clear f0 f2
    go_enter Try.func35, Try.ntmps35
    go_wp2_with fail
    go_loopw [3] (fun i wr => ∃ k : Nat, i = .int .i64 k ∧ k ≤ n ∧ Hid (∀ j x, j < k → t.acc[j]? = some x → acOk x = true) ∧ Hid (St H w none_ H wr [blk w.heap.size (t.obj (.slice A n c))]))
      (fun i _ => n - (intOf i).toNat)
    case atStart => exact ⟨0, rfl, Nat.zero_le _, Lib.hid (fun j x h => by omega), HS⟩
    case round =>
      clear HS
      obtain ⟨k, rfl, hk, HB, HS⟩ := hrel
      have h18 : wr.cell? ⟨w.heap.size, 18, none⟩ = some (.slice A n c) := HS.out.cell 0 rfl rfl
      by_cases hltn : k < n
      · have hlt : k < t.acc.length := HN.out ▸ hltn
        obtain ⟨b, o, rfl, hb, hc⟩ := HR.out.cells (HS.out.agOther HA.out fun _ h => h.elim) (by intro e; have := HC.out; rw [e, List.length_nil] at this; omega)
        obtain ⟨s1, hs1, hv1⟩ := accs_slots HD.out (List.getElem?_eq_getElem hlt)
        have hc1 : wr.cell? ⟨b, o + k * 2 + 1, none⟩ = some s1 := by have := hc _ _ hs1; rwa [← Nat.add_assoc] at this
        have hc0 := hc _ _ (accs_addr HD.out (List.getElem?_eq_getElem hlt))
        obtain ⟨A2, n2, c2, hs1e, hn2⟩ : ∃ A2 n2 c2, s1 = .slice A2 n2 c2 ∧ n2 = t.acc[k].slots.length := by obtain ⟨A2, c2, _, h, _⟩ := hv1.sl_inv; exact ⟨_, _, _, h, rfl⟩
        subst hs1e hn2
        clear hs1 hv1 hc
        generalize hx : t.acc[k] = x at *
        have HX := Lib.hid hx
        clear hx
        by_cases h20 : x.addr.size = 20
        · by_cases h64 : x.slots.length ≤ 64
          · have e1 : ((x.addr.size : Int) != 20) = false := by simp [h20]
            have e3 : ¬ (64 : Int) < (x.slots.length : Int) := by omega
            have hok := Lib.hid (show acOk x = true by simp [acOk, h20, h64])
            clear h20 h64
            go_wp2_with fail
            go_roundw
            case rel => exact ⟨k + 1, by go_num, by omega, Lib.hid (fun j y hj hy => by
              rcases Nat.lt_succ_iff_lt_or_eq.1 hj with h | rfl
              · exact HB.out j y h hy
              · rw [List.getElem?_eq_getElem hlt, HX.out] at hy; cases hy; exact hok.out), HS⟩
            case measure => simp [intOf]; omega
          · have e1 : ((x.addr.size : Int) != 20) = false := by simp [h20]
            have e3 : (64 : Int) < (x.slots.length : Int) := by omega
            have hbad := Lib.hid (right_bad hlt (by rw [HX.out]; simp [acOk, h64]))
            clear h20 h64
            go_wp2_with fail
            go_ret
            exact ⟨congrArg (fun b => Ending.returned (.bool b)) hbad.out.symm, HS.out.nil⟩
        · have e1 : ((x.addr.size : Int) != 20) = true := by simp; omega
          have hbad := Lib.hid (right_bad hlt (by rw [HX.out]; simp [acOk, h20]))
          clear h20
          go_wp2_with fail
          go_ret
          exact ⟨congrArg (fun b => Ending.returned (.bool b)) hbad.out.symm, HS.out.nil⟩
      · have hkn : k = n := by omega
        have hall := Lib.hid (all_of (l := t.acc) (fun j x hj hx => HB.out j x (by rw [hkn, HN.out]; exact hj) hx))
        clear hkn
        go_wp2_with fail
        go_ret
        exact ⟨congrArg (fun b => Ending.returned (.bool b)) (show true = rightB t by rw [HRP.out, hall.out]), HS.out.nil⟩
theorem rright_any (t : TxS) (s : Value) (Ha H : Hs) (w : World) (ha : Ag Ha w) (hw : Ag H w) (hs : RepV Ha s (accsD t.acc)) :
    Calls Try.prog 35 #[.agg (t.cells s)] w (RetBool (rightB t) H w) := by
  cases hp : preB t with
  | false => exact rright_no t s Ha H w ha hw hs hp
  | true => exact rright_yes t s Ha H w ha hw hs hp
end Go.Proofs.Ytfphlkkhpccpnaa
