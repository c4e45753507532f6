import Derived.Test.YtfphlkkhpccpnaaClone
import Derived.Test.YtfphlkkhpccpnaaTx
namespace Go.Proofs.Ytfphlkkhpccpnaa
open Go.RowKit Go.Proofs K

def RetBool (b : Bool) (H : Hs) (w : World) (e : Ending) (w' : World) : Prop := e = .returned (.bool b) ∧ St H w none_ H w' []

theorem right_bad {t : TxS} {k : Nat} (hk : k < t.acc.length) (h : acOk t.acc[k] = false) : rightB t = false := by
  have : t.acc.all acOk = false := List.all_eq_false.2 ⟨_, List.getElem_mem hk, by simp [h]⟩
  simp [rightB, this]
theorem all_of {l : List Ac} (h : ∀ j x, j < l.length → l[j]? = some x → acOk x = true) : l.all acOk = true := by
  rw [List.all_eq_true]
  intro x hx
  obtain ⟨j, hj, rfl⟩ := List.getElem_of_mem hx
  exact h j _ hj (List.getElem?_eq_getElem hj)
theorem right_tail {t : TxS} (h : t.acc.all acOk = true) : rightB t = ((decide (0 ≤ t.kind) && decide (t.kind ≤ 2)) && t.frm.size == 20 && (t.to.toList == [] || t.to.size == 20) && decide (t.data.size ≤ 32768) &&
    ((t.kind != 0 || t.acc.length == 0) && decide (t.acc.length ≤ 64) && (t.kind == 2 || (t.q.a == 0 && t.q.b == 0 && t.q.c == 0 && t.q.d == 0)))) := by
  have e : (t.to.size == 0) = (t.to.toList == []) := by
    rw [ByteArray.toList_eq]
    show (t.to.data.size == 0) = _
    rw [← Array.length_toList]
    cases t.to.data.toList <;> rfl
  simp [rightB, h, e]

set_option maxRecDepth 100000 in
set_option maxHeartbeats 4000000 in
theorem right_any (t : TxS) (s : Value) (Ha H : Hs) (w : World) (ha : Ag Ha w) (hw : Ag H w) (hs : RepV Ha s (accsD t.acc)) (hlen : t.acc.length ≤ 140737488355328) :
    Calls Try.prog 17 #[.agg (t.cells s)] w (RetBool (rightB t) H w) := by
  obtain ⟨A, c, cs, rfl, hnc, hA, hl, hr, hd⟩ := hs.sl_inv
  have S : Hid (St H w none_ H (w.alloc (t.obj (.slice A t.acc.length c))) [blk w.heap.size (t.obj (.slice A t.acc.length c))]) := (St.start hw).alloc _
  have hcl : cs.length = t.acc.length * 2 := hd.len.trans hl
  have HD := Lib.hid hd
  have HR := Lib.hid hr
  have HA := Lib.hid ha
  clear hd hr hs hw hA hnc hl ha
  simp only [TxS.cells]
  go_enter Try.func17, Try.ntmps17
  go_wp2_with fail
  go_loopw [8] (fun i wr => ∃ k : Nat, i = .int .i64 k ∧ k ≤ t.acc.length ∧ Hid (∀ j x, j < k → t.acc[j]? = some x → acOk x = true) ∧ Hid (St H w none_ H wr [blk w.heap.size (t.obj (.slice A t.acc.length c))]))
    (fun i _ => t.acc.length - (intOf i).toNat)
  case atStart => exact ⟨0, rfl, Nat.zero_le _, (fun j x h => by omega), S⟩
  case round =>
    clear S
    obtain ⟨k, rfl, hk, HB, HS⟩ := hrel
    by_cases hlt : k < t.acc.length
    · obtain ⟨b, o, rfl, hb, hc⟩ := HR.out.cells (HS.out.agOther HA.out fun _ h => h.elim) (by intro e; rw [e] at hcl; simp at hcl; omega)
      obtain ⟨s1, hs1, hv1⟩ := accs_slots HD.out (List.getElem?_eq_getElem hlt)
      have hc1 : wr.cell? ⟨b, o + k * 2 + 1, none⟩ = some s1 := by have := hc _ _ hs1; rwa [← Nat.add_assoc] at this
      have hc0 := hc _ _ (accs_addr HD.out (List.getElem?_eq_getElem hlt))
      obtain ⟨A2, n2, c2, hs1e, hn2⟩ : ∃ A2 n2 c2, s1 = .slice A2 n2 c2 ∧ n2 = t.acc[k].slots.length := by obtain ⟨A2, c2, _, h, _⟩ := hv1.sl_inv; exact ⟨_, _, _, h, rfl⟩
      subst hs1e hn2
      clear hs1 hv1 hc
      generalize hx : t.acc[k] = x at *
      have HX := Lib.hid hx
      clear hx
      by_cases h20 : x.addr.size = 20
      · by_cases h64 : x.slots.length ≤ 64
        · have e1 : ((x.addr.size : Int) != 20) = false := by simp [h20]
          have e2 : ¬ (64 : Int) < (x.slots.length : Int) := by omega
          have hok := Lib.hid (show acOk x = true by simp [acOk, h20, h64])
          clear h20 h64
          go_wp2_with fail
          go_roundw
          case rel => exact ⟨k + 1, by go_num, by omega, (fun j y hj hy => by
            rcases Nat.lt_succ_iff_lt_or_eq.1 hj with h | rfl
            · exact HB.out j y h hy
            · rw [List.getElem?_eq_getElem hlt, HX.out] at hy; cases hy; exact hok.out), (HS.out.alloc _).drop 0⟩
          case measure => simp [intOf]; omega
        · have e1 : ((x.addr.size : Int) != 20) = false := by simp [h20]
          have e2 : (64 : Int) < (x.slots.length : Int) := by omega
          have hbad := Lib.hid (right_bad hlt (by rw [HX.out]; simp [acOk, h64]))
          clear h20 h64
          go_wp2_with fail
          go_ret
          exact ⟨congrArg (fun b => Ending.returned (.bool b)) hbad.out.symm, (HS.out.alloc _).nil⟩
      · have e1 : ((x.addr.size : Int) != 20) = true := by simp; omega
        have hbad := Lib.hid (right_bad hlt (by rw [HX.out]; simp [acOk, h20]))
        clear h20
        go_wp2_with fail
        go_ret
        exact ⟨congrArg (fun b => Ending.returned (.bool b)) hbad.out.symm, (HS.out.alloc _).nil⟩
    · obtain rfl : k = t.acc.length := by omega
      have hall := Lib.hid (all_of HB.out)
      have h0 : wr.cell? ⟨w.heap.size, 0, none⟩ = some (.int .i64 t.kind) := HS.out.cell 0 rfl rfl
      have h1 : wr.cell? ⟨w.heap.size, 1, none⟩ = some (.string t.frm) := HS.out.cell 0 rfl rfl
      have h2 : wr.cell? ⟨w.heap.size, 2, none⟩ = some (.string t.to) := HS.out.cell 0 rfl rfl
      have h9 : wr.cell? ⟨w.heap.size, 9, none⟩ = some (.int .u64 t.q.a) := HS.out.cell 0 rfl rfl
      have h10 : wr.cell? ⟨w.heap.size, 10, none⟩ = some (.int .u64 t.q.b) := HS.out.cell 0 rfl rfl
      have h11 : wr.cell? ⟨w.heap.size, 11, none⟩ = some (.int .u64 t.q.c) := HS.out.cell 0 rfl rfl
      have h12 : wr.cell? ⟨w.heap.size, 12, none⟩ = some (.int .u64 t.q.d) := HS.out.cell 0 rfl rfl
      have h17 : wr.cell? ⟨w.heap.size, 17, none⟩ = some (.string t.data) := HS.out.cell 0 rfl rfl
      have h18 : wr.cell? ⟨w.heap.size, 18, none⟩ = some (.slice A t.acc.length c) := HS.out.cell 0 rfl rfl
      go_wp2_with fail
      all_goals
        go_ret
        refine ⟨congrArg (fun b => Ending.returned (.bool b)) ?_, HS.out.nil⟩
        rw [right_tail hall.out]
      all_goals first | (simp_all; done) | (simp_all; omega) | (rw [Bool.eq_iff_iff]; simp_all; done) | (rw [Bool.eq_iff_iff]; simp_all; omega)
end Go.Proofs.Ytfphlkkhpccpnaa
