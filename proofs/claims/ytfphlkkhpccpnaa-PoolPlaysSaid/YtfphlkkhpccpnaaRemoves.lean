/-
  PoolRemoves.
-/
import Derived.Test.YtfphlkkhpccpnaaSteps
import Derived.Test.YtfphlkkhpccpnaaCopies
namespace Go.Proofs.Ytfphlkkhpccpnaa
open Go.RowKit Go.Proofs K

def bytesC (l : List Int) : List Value := l.map (Value.int .u8)
def bytesD (l : List Int) : D := .sl 1 l.length ((bytesC l).map D.v)
def ByteOk (b : Int) : Prop := 0 ≤ b ∧ b ≤ 255
theorem wrap_byte {b : Int} (h : ByteOk b) : IntKind.u64.wrap b = b := by
  have := h.1
  have := h.2
  simp [IntKind.wrap, IntKind.bits, IntKind.signed]
  omega
/-- A byte of an argument, later. -/
theorem byte_at {w : World} {A : Option Addr} {l : List Int} (hr : Row (allOf w) A (bytesC l)) {k : Nat} (hk : k < l.length) : ∃ b o, A = some ⟨b, o, none⟩ ∧ b < w.heap.size ∧ w.cell? ⟨b, o + k, none⟩ = some (.int .u8 l[k]) := by
  obtain ⟨b, o, hA, hb, hc⟩ := hr.cells (ag_allOf w) (by intro e; rw [bytesC, List.map_eq_nil_iff] at e; rw [e] at hk; simp at hk)
  exact ⟨b, o, hA, hb, hc k _ (by simp [bytesC, hk])⟩
theorem Txs.keys {H : Hs} : ∀ {m : List (Ky × Value)} {l : List TxS}, Txs H m l → m.map (·.1) = l.map fun t => (t.frm, t.nonce)
  | _, _, .nil => rfl
  | _, _, .cons _ r => by rw [List.map_cons, List.map_cons, r.keys]
theorem del_cons (t : TxS) (l : List TxS) (k : Ky) : delT (t :: l) k = if isKey k t then l else t :: delT l k := by
  unfold delT
  rw [List.findIdx?_cons]
  cases isKey k t with
  | true => rfl
  | false =>
    cases l.findIdx? (isKey k) <;> rfl
theorem find_del {k : Ky} : ∀ {l : List TxS}, (l.map fun t => (t.frm, t.nonce)).Nodup → (delT l k).find? (isKey k) = none
  | [], _ => rfl
  | t :: l, h => by
    rw [List.map_cons, List.nodup_cons] at h
    rw [del_cons]
    cases hk : isKey k t with
    | true =>
      rw [if_pos rfl, List.find?_eq_none]
      intro x hx hx2
      refine h.1 (List.mem_map.2 ⟨x, hx, ?_⟩)
      simp only [isKey, decide_eq_true_eq] at hk hx2
      rw [hk, hx2]
    | false =>
      rw [if_neg (by decide), List.find?_cons, hk]
      exact find_del h.2
theorem len_del (k : Ky) : ∀ (l : List TxS), (delT l k).length + (if (l.find? (isKey k)).isSome then 1 else 0) = l.length
  | [] => rfl
  | t :: l => by
    have ih := len_del k l
    rw [del_cons, List.find?_cons]
    cases hk : isKey k t with
    | true => simp
    | false => simp only [Bool.false_eq_true, if_false, List.length_cons]; omega
theorem del_none {l : List TxS} {k : Ky} (h : l.find? (isKey k) = none) : delT l k = l := by
  have h3 : l.findIdx? (isKey k) = none := by
    rw [List.findIdx?_eq_none_iff]
    intro x hx
    have := List.find?_eq_none.1 h x hx
    simpa using this
  unfold delT
  rw [h3]
theorem del_sub (k : Ky) (l : List TxS) : ∀ t ∈ delT l k, t ∈ l := by
  intro t ht
  unfold delT at ht
  split at ht
  · exact List.mem_of_mem_eraseIdx ht
  · exact ht
theorem addL_len (l : List TxS) (t : TxS) : (addL l t).length ≤ l.length + 1 := by
  unfold addL
  split <;> simp
theorem addL_sub (l : List TxS) (t : TxS) : ∀ u ∈ addL l t, u ∈ l ∨ u = t := by
  intro u hu
  unfold addL at hu
  split at hu
  · simpa using hu
  · exact .inl hu
/-- What PoolRemoves adds. -/
def txN (n : Int) : TxS := { tx0 with frm := addrA, nonce := n }
theorem txN_right (n : Int) : rightB (txN n) = true := rfl

set_option maxRecDepth 100000 in
set_option maxHeartbeats 4000000 in
theorem removes_any (l : List Int) (hl : ∀ b ∈ l, ByteOk b) (v : Value) (q : Int) (hq : ByteOk q) (w : World) (hv : RepV (allOf w) v (bytesD l)) :
    Calls Try.prog 6 #[v, .int .u8 q] w (BoolBelow true w) := by
  obtain ⟨A, c, cs, rfl, hnc, hA, _, hr, hd⟩ := hv.sl_inv
  obtain rfl := hd.plain_inv
  have HR := Lib.hid hr
  have HQ := wrap_byte hq
  clear hv hd hr hA hq
  go_enter Try.func6, Try.ntmps6
  go_wp2_with fail
  refine (examples_any (allOf w) w (ag_allOf w)).mono ?_
  rintro e w1 ⟨rfl, S1⟩
  have HS1 := Lib.hid S1
  clear S1
  go_wp2_with fail
  refine (new_any (allOf w) w1 HS1.out.ag).mono ?_
  rintro e w2 ⟨p, rfl, S2⟩
  have HS2 := Lib.hid (HS1.out.more S2)
  clear S2 HS1
  go_wp2_with fail
  go_loopw [8] (fun i wr => ∃ (k : Nat) (Hk : Hs) (m : List (Ky × Value)) (ts : List TxS), i = .int .i64 k ∧ k ≤ 20 ∧ k ≤ l.length ∧ ts.length ≤ k ∧ (∀ t ∈ ts, t.acc = []) ∧ Hid (Txs Hk m ts) ∧ Hid (St (allOf w) w none_ Hk wr [poolP p m]))
    (fun i _ => 20 - (intOf i).toNat)
  case atStart => exact ⟨0, _, [], [], rfl, by omega, by omega, by simp, by simp, .nil, HS2⟩
  case round =>
    clear HS2
    obtain ⟨k, Hk, m, ts, rfl, hk, hkl, hts, hac, HL, HS⟩ := hrel
    have hsm : ∀ t ∈ ts, t.small := fun t ht => small_nil (hac t ht)
    rcases (by omega : (k < l.length ∧ k < 20) ∨ (k = l.length ∨ (k < l.length ∧ k = 20))) with ⟨h1, h2⟩ | hdone
    · obtain ⟨b, o, rfl, hb, hc⟩ := byte_at HR.out h1
      have hc' := (HS.out.oldCell b (o + k) hb).trans hc
      have hw8 := wrap_byte (hl _ (List.getElem_mem h1))
      go_wp2_with fail
      refine (add_st HS.out 0 rfl HL.out (txN l[k]) (.slice none 0 0) (rep_nil _) (small_nil rfl)).mono ?_
      rintro e w3 ⟨m', H', rfl, hle, hl', S3⟩
      have HL' := Lib.hid hl'
      have HS' := Lib.hid S3
      clear S3 hl' hc hc' HS HL
      go_wp2_with fail
      go_roundw
      case rel =>
        exact ⟨k + 1, H', m', addL ts (txN l[k]), by go_num, by omega, by omega, Nat.le_trans (addL_len _ _) (by omega), fun t ht => (addL_sub _ _ t ht).elim (hac t) (fun e => by rw [e]; rfl), HL', HS'⟩
      case measure => simp [intOf]; omega
    · have hn20 : ts.length ≤ 20 := by omega
      have hnd := Lib.hid ((HL.out.keys) ▸ poolOnce HS.out 0 rfl)
      obtain ⟨was, HWAS⟩ : ∃ was, Hid (was = (ts.find? (isKey (addrA, q))).isSome) := ⟨_, rfl⟩
      go_wp2_with fail
      all_goals
        refine (len_st HS.out 0 rfl HL.out).mono ?_
        rintro e w3 ⟨rfl, S3⟩
        have HS3 := Lib.hid S3
        clear S3 HS
        go_wp2_with fail
        refine (get_st HS3.out 0 rfl HL.out hsm addrA q).mono ?_
        rintro e w4 ⟨A4, c4, H4, rfl, hle4, _, S4⟩
        have HS4 := Lib.hid (S4.alloc (tx0.obj (.slice none 0 0)))
        have HL4 := Lib.hid (HL.out.le hle4)
        rw [← HWAS.out]
        clear S4 hle4 HS3 HL
        go_wp2_with (first
          | (refine wpList_store_st (cs := (txGot ts (addrA, q)).cells _) 0 HS4.out rfl rfl 33 (.tmp 10) (.tmp 52) rfl rfl rfl szTx rfl oneTx ?_)
          | fail)
        intro w5 S5
        have HS5 := Lib.hid S5
        clear S5 HS4
        go_wp2_with fail
        refine (remove_st HS5.out 1 rfl HL4.out addrA q).mono ?_
        rintro e w6 ⟨rfl, S6⟩
        have HS6 := Lib.hid S6
        rw [← HWAS.out]
        have HL6 : Hid (Txs H4 _ (delT ts (addrA, q))) := HL4.out.del (addrA, q)
        have hsm6 : ∀ t ∈ delT ts (addrA, q), t.small := fun t ht => hsm t (del_sub _ _ t ht)
        have hfd : (delT ts (addrA, q)).find? (isKey (addrA, q)) = none := find_del hnd.out
        have hld := len_del (addrA, q) ts
        rw [← HWAS.out] at hld
        clear S6 HS5 HL4
        go_wp2_with fail
        refine (get_st HS6.out 0 rfl HL6.out hsm6 addrA q).mono ?_
        rintro e w7 ⟨A7, c7, H7, rfl, hle7, _, S7⟩
        have HS7 := Lib.hid (S7.alloc (tx0.obj (.slice none 0 0)))
        have HL7 := Lib.hid (HL6.out.le hle7)
        rw [hfd]
        clear S7 hle7 HS6 HL6
        go_wp2_with (first
          | (refine wpList_store_st (cs := (txGot (delT ts (addrA, q)) (addrA, q)).cells _) 0 HS7.out rfl rfl 33 (.tmp 13) (.tmp 65) rfl rfl rfl szTx rfl oneTx ?_)
          | fail)
        intro w8 S8
        have HS8 := Lib.hid S8
        clear S8 HS7
        go_wp2_with fail
        refine (remove_st HS8.out 1 rfl HL7.out addrA q).mono ?_
        rintro e w9 ⟨rfl, S9⟩
        have HS9 := Lib.hid S9
        rw [hfd]
        obtain ⟨m9, hm9⟩ : ∃ m9, m9 = del (del m (addrA, q)) (addrA, q) := ⟨_, rfl⟩
        have HL9 : Hid (Txs H7 m9 (delT ts (addrA, q))) := by
          have := HL7.out.del (addrA, q)
          rw [hm9]
          rwa [del_none hfd] at this
        rw [← hm9] at HS9
        clear S9 HS8 HL7
        clear HWAS
        cases was
        all_goals
          simp only [Bool.false_eq_true, if_false, if_true, Nat.add_zero] at hld
          go_wp2_with fail
          refine (add_st HS9.out 0 rfl HL9.out (txN q) (.slice none 0 0) (rep_nil _) (small_nil rfl)).mono ?_
          rintro e w10 ⟨m10, H10, rfl, hle, hl10, S10⟩
          have ha : addE (delT ts (addrA, q)) (txN q) = 0 := add0 (by rw [txN_right]; rfl) (by show ((delT ts (addrA, q)).find? (isKey (addrA, q))).isSome = false; rw [hfd]; rfl) (by omega)
          rw [ha]
          rw [addL, if_pos ha] at hl10
          have HL10 := Lib.hid hl10
          have HS10 := Lib.hid S10
          clear S10 hl10 hle HS9 HL9
          go_wp2_with fail
          refine (len_st HS10.out 0 rfl HL10.out).mono ?_
          rintro e w11 ⟨rfl, S11⟩
          have HS11 := Lib.hid S11
          rw [List.length_append, List.length_singleton]
          clear S11 HS10 HL10
          go_wp2_with fail
          refine (clear_st HS11.out 0 rfl).mono ?_
          rintro e w12 ⟨rfl, S12⟩
          have HS12 := Lib.hid S12
          clear S12 HS11
          go_wp2_with fail
          refine (len_st HS12.out 0 rfl (l := []) .nil).mono ?_
          rintro e w13 ⟨rfl, S13⟩
          have HS13 := Lib.hid S13
          clear S13 HS12
          go_wp2_with fail
          refine (list_st HS13.out 0 rfl (l := []) .nil (by simp) (by simp)).mono ?_
          rintro e w14 ⟨A14, c14, xs14, l14, H14, rfl, _, _, _, _, S14⟩
          have HS14 := Lib.hid S14
          clear S14 HS13
          go_wp2_with fail
          go_ret
          exact ⟨rfl, HS14.out.below⟩
end Go.Proofs.Ytfphlkkhpccpnaa
