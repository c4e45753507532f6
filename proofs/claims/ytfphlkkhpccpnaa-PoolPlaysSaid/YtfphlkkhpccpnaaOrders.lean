/-
  PoolOrders.
-/
import Derived.Test.YtfphlkkhpccpnaaRemoves
namespace Go.Proofs.Ytfphlkkhpccpnaa
open Go.RowKit Go.Proofs K

def addrC : ByteArray := ⟨#[99, 99, 99, 99, 99, 99, 99, 99, 99, 99, 99, 99, 99, 99, 99, 99, 99, 99, 99, 99]⟩
/-- What PoolOrders adds: the k-th of ninety. -/
def txO (k : Nat) : TxS := { tx0 with frm := (match k % 3 with | 0 => addrB | 1 => addrA | _ => addrC), nonce := ((k / 3 : Nat) : Int) }
def keyO (k : Nat) : Ky := ((txO k).frm, (txO k).nonce)
theorem addr_ne : addrA ≠ addrB ∧ addrB ≠ addrC ∧ addrA ≠ addrC := by decide
theorem keyO_inj {k k' : Nat} (h : keyO k = keyO k') : k = k' := by
  obtain ⟨h1, h2⟩ := Prod.mk.inj h
  have h3 : k / 3 = k' / 3 := Int.ofNat.inj h2
  have h4 : k % 3 = k' % 3 := by
    have a := Nat.mod_lt k (by decide : 0 < 3)
    have b := Nat.mod_lt k' (by decide : 0 < 3)
    obtain ⟨n1, n2, n3⟩ := addr_ne
    simp only [txO] at h1
    rcases (by omega : k % 3 = 0 ∨ k % 3 = 1 ∨ k % 3 = 2) with e | e | e <;> rcases (by omega : k' % 3 = 0 ∨ k' % 3 = 1 ∨ k' % 3 = 2) with e' | e' | e' <;> rw [e, e'] at h1 ⊢ <;> simp only [] at h1 <;> first | exact absurd h1 n1 | exact absurd h1 n2 | exact absurd h1 n3 | exact absurd h1.symm n1 | exact absurd h1.symm n2 | exact absurd h1.symm n3
  omega
theorem txO_right (k : Nat) : rightB (txO k) = true := by
  rcases (by omega : k % 3 = 0 ∨ k % 3 = 1 ∨ k % 3 = 2) with e | e | e <;> simp only [txO, e] <;> rfl
/-- Which of the ninety wait. -/
def there (ts : List TxS) (k : Nat) : Bool := (ts.find? (isKey (keyO k))).isSome
def metC (ts : List TxS) : List Value := (List.range 90).map fun k => .int .i64 (if there ts k then 1 else 0)
theorem metC_at (ts : List TxS) {k : Nat} (h : k < 90) : (metC ts)[k]? = some (.int .i64 (if there ts k then 1 else 0)) := by
  simp [metC, h]
theorem there_push (ts : List TxS) (k j : Nat) : there (ts ++ [txO k]) j = (there ts j || decide (k = j)) := by
  unfold there
  rw [List.find?_append]
  cases h : ts.find? (isKey (keyO j)) with
  | some t => simp
  | none =>
    by_cases e : k = j
    · subst e
      simp [isKey, keyO]
    · have : isKey (keyO j) (txO k) = false := by
        simp only [isKey, decide_eq_false_iff_not]
        intro h
        exact e (keyO_inj h)
      simp [this, e]
theorem metC_push (ts : List TxS) {k : Nat} (_h : k < 90) : metC (ts ++ [txO k]) = (metC ts).set k (.int .i64 1) := by
  apply List.ext_getElem?
  intro j
  rw [List.getElem?_set]
  by_cases hj : j < 90
  · rw [metC_at _ hj, metC_at _ hj, there_push]
    by_cases e : k = j
    · subst e
      simp [metC, hj]
    · simp [e]
  · have e1 : ∀ ts, (metC ts)[j]? = none := fun ts => List.getElem?_eq_none (by simp [metC]; omega)
    rw [e1, e1]
    split
    · rename_i e
      subst e
      simp [metC]
      omega
    · rfl

theorem addE_O (ts : List TxS) (k : Nat) : addE ts (txO k) = if there ts k then 18 else if ts.length = 64 then 3 else 0 := by
  unfold addE there keyO
  rw [txO_right]
  rfl

def txF (a : ByteArray) (n : Nat) : TxS := { tx0 with frm := a, nonce := (n : Int) }
theorem place {b : Int} (h : ByteOk b) : ∃ j : Nat, j < 90 ∧ wrap64 (b.tmod 90) = (j : Int) ∧ IntKind.u64.wrap (wrap64 ((j : Int).tdiv 3)) = ((j / 3 : Nat) : Int) ∧
    (((j : Int).tmod 3 = 0 ∧ txO j = txF addrB (j / 3)) ∨ ((j : Int).tmod 3 = 1 ∧ txO j = txF addrA (j / 3)) ∨ ((j : Int).tmod 3 = 2 ∧ txO j = txF addrC (j / 3))) := by
  obtain ⟨z, rfl⟩ := Int.eq_ofNat_of_zero_le h.1
  have hz := h.2
  have e1 : ((z : Int).tmod 90) = ((z % 90 : Nat) : Int) := by rw [Int.tmod_eq_emod_of_nonneg (by omega)]; omega
  have e2 : (((z % 90 : Nat) : Int).tdiv 3) = ((z % 90 / 3 : Nat) : Int) := by rw [Int.tdiv_eq_ediv_of_nonneg (by omega)]; omega
  have e3 : (((z % 90 : Nat) : Int).tmod 3) = ((z % 90 % 3 : Nat) : Int) := by rw [Int.tmod_eq_emod_of_nonneg (by omega)]; omega
  refine ⟨z % 90, by omega, ?_, ?_, ?_⟩
  · rw [e1]
    simp [wrap64]
    omega
  · rw [e2]
    have : wrap64 ((z % 90 / 3 : Nat) : Int) = ((z % 90 / 3 : Nat) : Int) := by simp [wrap64]; omega
    rw [this]
    simp [IntKind.wrap, IntKind.bits, IntKind.signed]
    omega
  · rw [e3]
    rcases (by omega : z % 90 % 3 = 0 ∨ z % 90 % 3 = 1 ∨ z % 90 % 3 = 2) with e | e | e
    · exact .inl ⟨by rw [e]; rfl, by simp only [txO, txF, e]⟩
    · exact .inr (.inl ⟨by rw [e]; rfl, by simp only [txO, txF, e]⟩)
    · exact .inr (.inr ⟨by rw [e]; rfl, by simp only [txO, txF, e]⟩)
theorem el_at {d : List El} {k : Nat} {x : El} (h : d[k]? = some x) : ∀ j u, (x.1.cells x.sl)[j]? = some u → (d.flatMap encEl)[k * 19 + j]? = some u := by
  intro j u hu
  have hj : j < 19 := (Array.getElem?_eq_some_iff.1 hu).1
  rw [flat_get encEl_length h hj]
  simpa [encEl] using hu
theorem ltT_at {d : List El} {k : Nat} {x y : El} (h : (d.map (·.1)).Pairwise ltT) (hx : d[k]? = some x) (hy : d[k + 1]? = some y) : ltT x.1 y.1 := by
  rw [List.pairwise_map, List.pairwise_iff_getElem] at h
  obtain ⟨h1, rfl⟩ := List.getElem?_eq_some_iff.1 hx
  obtain ⟨h2, rfl⟩ := List.getElem?_eq_some_iff.1 hy
  exact h k (k + 1) h1 h2 (Nat.lt_succ_self k)
/-- A list without equal keys that does not fall rises. -/
theorem rising_of {l l' : List TxS} (hk : (l.map fun t => (t.frm, t.nonce)).Nodup) (hp : l'.Perm l) (hs : l'.Pairwise fun a b => ¬ ltT b a) : l'.Pairwise ltT := by
  have hk' : (l'.map fun t => (t.frm, t.nonce)).Nodup := (hp.map _).nodup_iff.2 hk
  rw [List.Nodup, List.pairwise_map] at hk'
  refine (hs.and hk').imp ?_
  intro a b ⟨h1, h2⟩
  rcases ltT_tri a b with h | ⟨e1, e2⟩ | h
  · exact h
  · exact absurd (by rw [e1, e2]) h2
  · exact absurd h h1
theorem info3 : (Try.prog.info? 3).map (fun i => (i.zero, i.size, i.bytes)) = some (some (.int .i64 0), 1, 8) := by kernel_rfl

set_option maxRecDepth 100000 in
set_option maxHeartbeats 4000000 in
theorem orders_any (l : List Int) (hl : ∀ b ∈ l, ByteOk b) (v : Value) (w : World) (hv : RepV (allOf w) v (bytesD l)) :
    Calls Try.prog 4 #[v] w (BoolBelow true w) := by
  obtain ⟨A, c, cs, rfl, hnc, hA, _, hr, hd⟩ := hv.sl_inv
  obtain rfl := hd.plain_inv
  have HR := Lib.hid hr
  clear hv hd hr hA
  go_enter Try.func4, Try.ntmps4
  go_wp2_with fail
  refine (examples_any (allOf w) w (ag_allOf w)).mono ?_
  rintro e w1 ⟨rfl, S1⟩
  have HS1 := Lib.hid S1
  clear S1
  go_wp2_with fail
  refine (new_any (allOf w) w1 HS1.out.ag).mono ?_
  rintro e w2 ⟨p, rfl, S2⟩
  have HS2 := Lib.hid (HS1.out.more S2)
  clear S2 HS1
  obtain ⟨i0, hi, hz0, hz1, hz2⟩ := info_parts info3
  go_wp2_with (first
    | (refine wpList_makeFull_st (size := 1) (c := 90) HS2.out rfl 3 40 (.const (.int .i64 90)) (.const (.int .i64 90)) rfl i0 _ 8 rfl rfl Try.underlying40 hi hz0 hz1 hz2 (by decide) (by decide) ?_)
    | fail)
  intro w3 S3
  obtain ⟨g, hg⟩ : ∃ g, g = w2.heap.size := ⟨_, rfl⟩
  have HS3 : Hid (St (allOf w) w none_ (allOf w) w3 [own 3 1 (.slice (some ⟨g, 0, none⟩) 90 90) 90 (metC []), poolP p []]) := by
    rw [hg]
    have e : (madeCells #[Value.int .i64 0] (90 * 1)).toList = metC [] := by kernel_rfl
    rw [← e]
    exact S3
  rw [← hg]
  clear S3 HS2 hg
  go_wp2_with fail
  go_loopw [6, 7] (fun n i wr => ∃ (k : Nat) (Hk : Hs) (m : List (Ky × Value)) (ts : List TxS), n = .int .i64 ts.length ∧ i = .int .i64 k ∧ k ≤ 80 ∧ k ≤ l.length ∧ ts.length ≤ k ∧ ts.length ≤ 64 ∧ (∀ t ∈ ts, t.acc = []) ∧ Hid (Txs Hk m ts) ∧
      Hid (St (allOf w) w none_ Hk wr [own 3 1 (.slice (some ⟨g, 0, none⟩) 90 90) 90 (metC ts), poolP p m]))
    (fun _ i _ => 80 - (intOf i).toNat)
  case atStart => exact ⟨0, _, [], [], rfl, rfl, by omega, by omega, by simp, by simp, by simp, .nil, HS3⟩
  case round =>
    clear HS3
    obtain ⟨k, Hk, m, ts, rfl, rfl, hk, hkl, hts, hts2, hac, HL, HS⟩ := hrel
    have hsm : ∀ t ∈ ts, t.small := fun t ht => small_nil (hac t ht)
    rcases (by omega : (k < l.length ∧ k < 80) ∨ (k = l.length ∨ (k < l.length ∧ k = 80))) with ⟨h1, h2⟩ | hdone
    · obtain ⟨b, o, rfl, hb, hc⟩ := byte_at HR.out h1
      have hc' := (HS.out.oldCell b (o + k) hb).trans hc
      obtain ⟨j, hj, e1, e3, hcase⟩ := place (hl _ (List.getElem_mem h1))
      have HC := Lib.hid hcase
      clear hcase
      rcases HC.out with ⟨e2, et⟩ | ⟨e2, et⟩ | ⟨e2, et⟩
      all_goals
        have hadd := add_st (HS.out.alloc (.cells #[.string addrB, .string addrA, .string addrC] 9)) 2 rfl HL.out (txO j) (.slice none 0 0) (rep_nil _) (small_nil rfl)
        rw [et] at hadd
        have HET := Lib.hid et
        have HADD := Lib.hid hadd
        clear et hadd
        go_wp2_with fail
        refine HADD.out.mono ?_
        clear HADD
        rintro e w4 ⟨m4, H4, rfl, hle4, hl4, S4⟩
        rw [← HET.out] at hl4
        rw [← HET.out]
        have HS4 := Lib.hid (S4.drop 1)
        have hm := (HS4.out.ownCell 1 rfl j (by omega)).trans (metC_at ts hj)
        obtain ⟨bt, HB⟩ : ∃ bt, Hid (bt = there ts j) := ⟨_, rfl⟩
        have ha := addE_O ts j
        rw [← HB.out] at ha hm
        clear S4 HC e2 e3 HS hc hc'
        cases bt
        · simp only [Bool.false_eq_true, if_false] at ha hm
          by_cases h64 : ts.length = 64
          · rw [if_pos h64] at ha
            rw [addL, if_neg (by rw [ha]; decide)] at hl4
            rw [ha]
            have HL4 := Lib.hid hl4
            have h64' : (ts.length : Int) = 64 := by omega
            clear ha hl4
            go_wp2_with fail
            go_roundw
            case rel => exact ⟨k + 1, H4, m4, ts, by rw [h64'], by go_num, by omega, by omega, by omega, hts2, hac, HL4, HS4.out.pick 1 rfl⟩
            case measure => simp [intOf]; omega
          · rw [if_neg h64] at ha
            rw [addL, if_pos ha] at hl4
            rw [ha]
            have HL4 := Lib.hid hl4
            have h64' : ¬ (ts.length : Int) = 64 := by omega
            clear ha hl4
            have hf := HS4.out.ownFrozen 1 rfl j
            have HS5 := Lib.hid (HS4.out.setOwn 1 rfl j (.int .i64 1))
            rw [← metC_push ts hj] at HS5
            go_wp2_with fail
            go_roundw
            case rel => exact ⟨k + 1, H4, m4, ts ++ [txO j], by simp, by go_num, by omega, by omega, by simp; omega, by simp; omega, fun t ht => (List.mem_append.1 ht).elim (hac t) (fun h => by rw [List.mem_singleton.1 h]; rfl), HL4, HS5⟩
            case measure => simp [intOf]; omega
        · simp only [if_true] at ha hm
          rw [addL, if_neg (by rw [ha]; decide)] at hl4
          rw [ha]
          have HL4 := Lib.hid hl4
          clear ha hl4
          go_wp2_with fail
          go_roundw
          case rel => exact ⟨k + 1, H4, m4, ts, rfl, by go_num, by omega, by omega, by omega, hts2, hac, HL4, HS4.out.pick 1 rfl⟩
          case measure => simp [intOf]; omega
    · go_wp2_with fail
      all_goals
        refine (list_st HS.out 1 rfl HL.out hsm hts2).mono ?_
        rintro e w4 ⟨A4, c4, xs, l', H4, rfl, hp4, hs4, hx4, hle4, S4⟩
        have HS4 := Lib.hid S4
        have HL4 := Lib.hid (HL.out.le hle4)
        have HX := Lib.hid (And.intro hp4 (And.intro hs4 hx4))
        have HK := Lib.hid (HL.out.keys ▸ poolOnce HS.out 1 rfl)
        clear S4 hp4 hs4 hx4 hle4 HL HS
        go_wp2_with fail
        refine (len_st HS4.out 1 rfl HL4.out).mono ?_
        rintro e w5 ⟨rfl, S5⟩
        have HS5 := Lib.hid S5
        clear S5 HS4
        obtain ⟨hp, hs, hx⟩ := HX.out
        have HU := Lib.hid (rising_of HK.out hp hs)
        obtain ⟨d, rfl, rfl, _⟩ := hx.els
        have hlen : d.length = ts.length := by have := hp.length_eq; simpa using this
        clear hp hs hx HX HK
        go_wp2_with fail
        go_loopw [12] (fun i wr => ∃ (k : Nat), i = .int .i64 k ∧ 1 ≤ k ∧ (k ≤ ts.length ∨ k = 1) ∧ Hid (∃ ps, St (allOf w) w none_ H4 wr (own 33 19 (.slice A4 ts.length c4) ts.length (d.flatMap encEl) :: ps)))
          (fun i _ => ts.length + 1 - (intOf i).toNat)
        case atStart => exact ⟨1, rfl, by omega, by omega, _, HS5.out.pick 1 rfl⟩
        case round =>
          clear HS5
          obtain ⟨k2, rfl, hk1, hk2, HS⟩ := hrel
          obtain ⟨k3, rfl⟩ : ∃ k3, k2 = k3 + 1 := ⟨k2 - 1, by omega⟩
          by_cases hlt : k3 + 1 < ts.length
          · obtain ⟨qs, S5⟩ := HS.out
            obtain ⟨g4, rfl, hg4⟩ := S5.ownForm 0 rfl (by omega)
            have HS5 := Lib.hid S5
            clear S5 HS
            have s1 : ((k3 + 1 : Nat) : Int) - 1 = (k3 : Int) := by omega
            have hd1 : d[k3]? = some (d[k3]'(by omega)) := List.getElem?_eq_getElem _
            have hd2 : d[k3 + 1]? = some (d[k3 + 1]'(by omega)) := List.getElem?_eq_getElem _
            have hlt' := ltT_at HU.out hd1 hd2
            generalize d[k3]'(by omega) = x at hd1 hlt'
            generalize d[k3 + 1]'(by omega) = y at hd2 hlt'
            have HS6 := Lib.hid (HS5.out.alloc (tx0.obj (.slice none 0 0)))
            go_wp2_with (first
              | (refine wpList_loadOwn_st (q := k3 * 19) (cs := x.1.cells x.sl) 0 HS5.out rfl rfl 33 (.tmp 87) rfl rfl _ Try.underlying33 rfl szTx (el_at hd1) ?_)
              | (refine wpList_store_st (cs := x.1.cells x.sl) 0 HS6.out rfl rfl 33 (.tmp 13) (.tmp 88) rfl rfl rfl szTx rfl oneTx ?_)
              | fail)
            intro w6 S6
            have HS7 := Lib.hid S6
            have HS8 := Lib.hid (S6.alloc (tx0.obj (.slice none 0 0)))
            clear S6 HS5 HS6
            go_wp2_with (first
              | (refine wpList_loadOwn_st (q := (k3 + 1) * 19) (cs := y.1.cells y.sl) 1 HS7.out rfl rfl 33 (.tmp 91) rfl rfl _ Try.underlying33 rfl szTx (el_at hd2) ?_)
              | (refine wpList_store_st (cs := y.1.cells y.sl) 0 HS8.out rfl rfl 33 (.tmp 14) (.tmp 92) rfl rfl rfl szTx rfl oneTx ?_)
              | fail)
            intro w7 S7
            have HS9 := Lib.hid (S7.pick 2 rfl)
            have x1 : w7.cell? ⟨wr.heap.size, 1, none⟩ = some (.string x.1.frm) := S7.cell 1 rfl rfl
            have x3 : w7.cell? ⟨wr.heap.size, 3, none⟩ = some (.int .u64 x.1.nonce) := S7.cell 1 rfl rfl
            have y1 : w7.cell? ⟨w6.heap.size, 1, none⟩ = some (.string y.1.frm) := S7.cell 0 rfl rfl
            have y3 : w7.cell? ⟨w6.heap.size, 3, none⟩ = some (.int .u64 y.1.nonce) := S7.cell 0 rfl rfl
            clear S7 HS7 HS8
            rcases hlt' with hB | ⟨hE, hN⟩
            · have b1 : Op.bytesLess x.1.frm.toList y.1.frm.toList = true := hB
              have b2 : ¬ x.1.frm.toList = y.1.frm.toList := fun e => by rw [e, bl_irrefl] at b1; cases b1
              go_wp2_with fail
              all_goals
                go_roundw
                case rel => exact ⟨k3 + 2, by go_num, by omega, by omega, ⟨_, HS9.out⟩⟩
                case measure => simp [intOf]; omega
            · have b1 : Op.bytesLess x.1.frm.toList y.1.frm.toList = false := by rw [hE]; exact bl_irrefl _
              have b2 : x.1.frm.toList = y.1.frm.toList := by rw [hE]
              go_wp2_with fail
              all_goals
                go_roundw
                case rel => exact ⟨k3 + 2, by go_num, by omega, by omega, ⟨_, HS9.out⟩⟩
                case measure => simp [intOf]; omega
          · clear HU
            go_wp2_with fail
            go_ret
            obtain ⟨qs, S5⟩ := HS.out
            exact ⟨rfl, S5.below⟩
end Go.Proofs.Ytfphlkkhpccpnaa
