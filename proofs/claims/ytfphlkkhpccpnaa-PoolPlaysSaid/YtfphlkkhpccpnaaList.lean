/-
  List: all that wait, rising.
-/
import Derived.Test.YtfphlkkhpccpnaaRange
import Derived.Test.YtfphlkkhpccpnaaMake
import Derived.Test.YtfphlkkhpccpnaaGet
import Derived.Test.YtfphlkkhpccpnaaOrd
import Derived.Test.YtfphlkkhpccpnaaSort
import Derived.Test.YtfphlkkhpccpnaaSorted
namespace Go.Proofs.Ytfphlkkhpccpnaa
open Go.RowKit Go.Proofs K

/-- Transactions, one behind the other. -/
inductive TxRow (H : Hs) : List Value → List TxS → Prop
  | nil : TxRow H [] []
  | cons {t : TxS} {s : Value} {xs : List Value} {l : List TxS} (h : RepV H s (accsD t.acc)) (r : TxRow H xs l) : TxRow H ((t.cells s).toList ++ xs) (t :: l)

theorem TxRow.le {H H' : Hs} (hl : Le H H') : ∀ {xs : List Value} {l : List TxS}, TxRow H xs l → TxRow H' xs l
  | _, _, .nil => .nil
  | _, _, .cons h r => .cons (h.le hl) (r.le hl)
theorem TxRow.push {H : Hs} : ∀ {xs : List Value} {l : List TxS} {t : TxS} {s : Value}, TxRow H xs l → RepV H s (accsD t.acc) → TxRow H (xs ++ (t.cells s).toList) (l ++ [t])
  | _, _, t, s, .nil, h => by simpa using TxRow.cons h .nil
  | _, _, t, s, .cons h r, h' => by rw [List.append_assoc]; exact .cons h (r.push h')
theorem TxRow.len {H : Hs} : ∀ {xs : List Value} {l : List TxS}, TxRow H xs l → xs.length = l.length * 19
  | _, _, .nil => rfl
  | _, _, .cons _ r => by rw [List.length_append, r.len, List.length_cons, Nat.succ_mul]; simp [TxS.cells]; omega
theorem Txs.get {H : Hs} : ∀ {m : List (Ky × Value)} {l : List TxS}, Txs H m l → ∀ {j : Nat} {y : Ky × Value}, m[j]? = some y → ∃ t s, l[j]? = some t ∧ y = ((t.frm, t.nonce), .agg (t.cells s)) ∧ RepV H s (accsD t.acc)
  | _, _, .nil, j, y, h => by simp at h
  | _, _, .cons (t := t) (s := s) h r, 0, y, e => by
    cases e
    exact ⟨t, s, rfl, rfl, h⟩
  | _, _, .cons h r, j + 1, y, e => r.get (j := j) (by simpa using e)
theorem perm_erase {α : Type} : ∀ (l : List α) (j : Nat) (h : j < l.length), (l[j] :: l.eraseIdx j).Perm l
  | x :: l, 0, _ => .refl _
  | x :: l, j + 1, h => by
    have hlt : j < l.length := by simpa using h
    have ih := perm_erase l j hlt
    rw [List.getElem_cons_succ, List.eraseIdx_cons_succ]
    exact (List.Perm.swap x l[j] (l.eraseIdx j)).trans (.cons x ih)
theorem perm_move {ld ll l : List TxS} {t : TxS} {j : Nat} (h : (ld ++ ll).Perm l) (hj : ll[j]? = some t) : ((ld ++ [t]) ++ ll.eraseIdx j).Perm l := by
  refine List.Perm.trans ?_ h
  rw [List.append_assoc]
  refine List.Perm.append_left ld ?_
  obtain ⟨hlt, rfl⟩ := List.getElem?_eq_some_iff.1 hj
  exact perm_erase ll j hlt
theorem TxRow.els {H : Hs} : ∀ {xs : List Value} {l : List TxS}, TxRow H xs l → ∃ d : List El, d.map (·.1) = l ∧ xs = d.flatMap encEl ∧ ∀ x ∈ d, RepV H x.sl (accsD x.1.acc)
  | _, _, .nil => ⟨[], rfl, rfl, by simp⟩
  | _, _, .cons (t := t) h r => by
    obtain ⟨d, rfl, rfl, hd⟩ := r.els
    obtain ⟨A, c, _, rfl, _⟩ := h.sl_inv
    refine ⟨(t, A, t.acc.length, c) :: d, rfl, rfl, ?_⟩
    intro x hx
    rcases List.mem_cons.1 hx with rfl | hx
    · exact h
    · exact hd x hx
theorem TxRow.of_els {H : Hs} : ∀ {d : List El}, (∀ x ∈ d, RepV H x.sl (accsD x.1.acc)) → TxRow H (d.flatMap encEl) (d.map (·.1))
  | [], _ => .nil
  | x :: d, h => .cons (h x (by simp)) (TxRow.of_els fun y hy => h y (by simp [hy]))
/-- What List tells. -/
def ListP (p : Nat) (m : List (Ky × Value)) (l : List TxS) (F : Nat → Prop) (H : Hs) (w : World) (e : Ending) (w' : World) : Prop :=
  ∃ A c xs l' H', e = .returned (.slice A l.length c) ∧ l'.Perm l ∧ l'.Pairwise (fun a b => ¬ ltT b a) ∧ TxRow H' xs l' ∧ St H w F H' w' [own 33 19 (.slice A l.length c) l.length xs, poolP p m]
theorem listP_of {p c g cap nd : Nat} {m : List (Ky × Value)} {l ld : List TxS} {F : Nat → Prop} {H H' : Hs} {w wr : World} {d : List El} {d' : Array El} {os : Array Obj} (hperm : ld.Perm l) (hd : d.map (·.1) = ld) (hr : ∀ x ∈ d, RepV H' x.sl (accsD x.1.acc))
    (S : St H w F H' wr [own 33 19 (.slice (some ⟨g, 0, none⟩) ld.length cap) ld.length (d.flatMap encEl), blk p (poolO c), mapP encK c m])
    (h1 : Go.Sort.PermIn 0 ld.length d.toArray d') (h2 : Go.Sort.SortedIn (ltOf cfEl) 0 ld.length d') :
    ListP p m l F H w (.returned (.slice (some ⟨g, 0, none⟩) ld.length cap)) (sortWorldK encEl 19 wr g 0 nd d' os) := by
  have hl : ld.length = l.length := hperm.length_eq
  have hdl : d.length = ld.length := by rw [← hd]; simp
  have hdn : d.toArray.size = ld.length := by rw [← hd]; simp
  rw [← hdn] at h1 h2
  have hs : d'.size = ld.length := by rw [h1.1, ← hdl]; simp
  have hp : d'.toList.Perm d := by
    have := h1.2.2
    have e1 : (d'.extract 0 d.toArray.size) = d' := by rw [← h1.1]; simp
    have e2 : (d.toArray.extract 0 d.toArray.size) = d.toArray := by simp
    rw [e1, e2] at this
    simpa using this
  have S1 := S.sorted (d' := d') 0 rfl encEl_length hs nd os
  refine ⟨_, cap, _, d'.toList.map (·.1), H', by rw [hl], ?_, ?_, TxRow.of_els fun x hx => hr x (hp.subset hx), ?_⟩
  · exact (hp.map _).trans (by rw [hd]; exact hperm)
  · rw [List.pairwise_map, List.pairwise_iff_getElem]
    intro i j hi hj hij
    have hi' : i < d'.size := by simpa using hi
    have hj' : j < d'.size := by simpa using hj
    have := h2 i j (Nat.zero_le _) hij (by rw [← h1.1]; exact hj')
    rw [getElem!_pos d' i hi', getElem!_pos d' j hj'] at this
    simpa using (ltEl_not _ _).1 this
  · rw [← hl]
    exact (shutPool ((S1.pick 1 rfl).pick 2 rfl |>.pick 1 rfl)).pick 1 rfl
theorem info33 : (Try.prog.info? 33).map (fun i => (i.zero, i.size, i.bytes)) = some (some (.agg (tx0.cells (.slice none 0 0))), 19, 192) := by kernel_rfl

set_option maxRecDepth 100000 in
set_option maxHeartbeats 1000000 in
theorem list_any (p : Nat) (m : List (Ky × Value)) (l : List TxS) (F : Nat → Prop) (H : Hs) (w : World) (hw : Ag H w) (hp : (poolP p m).holds F w) (hF : ∀ b, F b → b < w.heap.size ∧ H b = none) (hl : Txs H m l) (hs : ∀ t ∈ l, t.small) (hn : l.length ≤ 64) :
    Calls Try.prog 11 #[.pointer (some ⟨p, 0, none⟩)] w (ListP p m l F H w) := by
  obtain ⟨c, S0⟩ := openPool (St.begin hw hp hF) 0 rfl
  obtain ⟨i0, hi, hz0, hz1, hz2⟩ := info_parts info33
  have S := Lib.hid S0
  have h1 : w.cell? ⟨p, 0, none⟩ = some (.map (some c)) := S.out.cell 0 rfl rfl
  have HN := Lib.hid hl.len
  have HL := Lib.hid hl
  have HSM := Lib.hid hs
  clear hl S0 hF hp hw hs
  go_enter Try.func11, Try.ntmps11
  go_wp2_with (first
    | (refine wpList_maplen_st 1 S.out rfl Try.underlying57 rfl _ rfl rfl ?_)
    | (refine wpList_makeRoom_st (size := 19) (c := m.length) S.out rfl 33 42 (.tmp 10) rfl i0 _ 192 rfl Try.underlying42 hi hz0 hz1 hz2 (by have := HN.out; omega) (by have := HN.out; omega) ?_)
    | fail)
  intro w1 S1
  have HS1 := Lib.hid S1
  have x1 : w1.cell? ⟨p, 0, none⟩ = some (.map (some c)) := HS1.out.cell 1 rfl rfl
  clear S1 S h1
  go_wp2_with (first
    | (refine wpList_range_st 2 HS1.out rfl Try.underlying57 rfl _ rfl rfl ?_)
    | fail)
  intro w2 S2
  have HS2 := Lib.hid S2
  obtain ⟨r, hr⟩ : ∃ r, r = w1.heap.size := ⟨_, rfl⟩
  rw [← hr] at HS2 ⊢
  clear S2 HS1 x1 hr
  go_wp2_with fail
  go_loopw [3] (fun i wr => ∃ (g cap : Nat) (Hk : Hs) (xs : List Value) (left : List (Ky × Value)) (ld ll : List TxS), i = .slice (some ⟨g, 0, none⟩) ld.length cap ∧ (ld ++ ll).Perm l ∧ Hid (Txs Hk left ll) ∧ Hid (TxRow Hk xs ld) ∧ Le H Hk ∧
      Hid (St H w F Hk wr [iterP encK r c m left, own 33 19 (.slice (some ⟨g, 0, none⟩) ld.length cap) ld.length xs, blk p (poolO c)]))
    (fun _ wr => iterLeft wr r c)
  case atStart => exact ⟨_, _, H, [], m, [], l, rfl, .refl _, HL, .nil, Le.refl _, HS2⟩
  case round =>
    clear HS2
    obtain ⟨g, cap, Hk, xs, left, ld, ll, rfl, hperm, HLL, HR, hle, HS⟩ := hrel
    go_wp2_with (first
      | (refine wpList_next_st 0 HS.out rfl rfl _ rfl rfl ?_ ?_)
      | fail)
    · intro hd
      subst hd
      obtain rfl : ll = [] := by cases HLL.out; rfl
      rw [List.append_nil] at hperm
      have HS1 := Lib.hid (((HS.out.endRange 0 rfl).pick 2 rfl).pick 2 rfl)
      obtain ⟨d, hd, rfl, hr⟩ := HR.out.els
      have hdn : d.toArray.size = ld.length := by rw [← hd]; simp
      have hcon := AnyQ.slices_SortFunc Try.sortTx 19 Try.isAgg33 Try.sizeOf33 encEl encEl_length encEl_one cfEl swoEl 20 #[] g 0 cap d.toArray wr (enters_of Try.func20 (by kernel_rfl) rfl) (cmpLaysEl _ _ _ _)
        (HS1.out.holdsK 0 rfl encEl_length hdn) (HS1.out.ownLt 0 rfl) (by rw [hdn, hperm.length_eq]; omega)
      change Calls Try.prog 19 _ _ _ at hcon
      rw [hdn] at hcon
      go_wp2_with fail
      refine hcon.mono ?_
      rintro e w' ⟨rfl, d', nd, os, h1, h2, rfl⟩
      clear hcon
      have HP := Lib.hid (listP_of (p := p) (nd := nd) (os := os) hperm hd hr HS1.out h1 h2)
      clear hd hr hdn h1 h2 HS1 HS HR HLL
      go_wp2_with fail
      go_ret
      exact HP.out
    · intro f n v j w3 hj S3 hen
      obtain ⟨t, s, ht, e, hv⟩ := HLL.out.get hj
      cases e
      obtain ⟨A1, c1, _, rfl, _⟩ := hv.sl_inv
      have HV := Lib.hid hv
      have HS3 := Lib.hid (S3.alloc (tx0.obj (.slice none 0 0)))
      have hsm : t.small := HSM.out t (hperm.subset (List.mem_append_right _ (List.mem_of_getElem? ht)))
      clear S3 hv
      simp only [encK] at hen ⊢
      go_wp2_with (first
        | (refine wpList_store_st (cs := t.cells _) 0 HS3.out rfl rfl 33 (.tmp 5) (.tmp 20) rfl rfl rfl szTx rfl oneTx ?_)
        | fail)
      intro w4 S4
      have HS4 := Lib.hid S4
      clear S4 HS3 hen
      go_wp2_with (first
        | (refine wpList_load_st 0 HS4.out rfl rfl 33 (.tmp 5) rfl rfl _ Try.underlying33 rfl szTx ?_)
        | fail)
      refine (clone18_any t _ Hk _ HS4.out.ag HV.out hsm).mono ?_
      rintro e w5 ⟨s', H', Hn, rfl, hr5, S5', _, _, _⟩
      obtain ⟨A5, c5, _, rfl, _⟩ := hr5.sl_inv
      have HS5 := Lib.hid (HS4.out.more S5')
      have HR5 := Lib.hid hr5
      have HLE := Lib.hid S5'.le
      clear S5' HS4 hr5
      have hlen : ld.length + 1 ≤ 64 := by
        have h1 := hperm.length_eq
        have h2 := (List.getElem?_eq_some_iff.1 ht).1
        rw [List.length_append] at h1
        omega
      go_wp2_with (first
        | (refine wpList_build_one_st (e := 33) (cs := t.cells _) HS5.out rfl (.tmp 23) rfl rfl i0 _ Try.underlying42 hi hz0 hz1 (by simp [TxS.size_cells]) (by simp [TxS.size_cells]) ?_)
        | fail)
      intro S6
      have HS6 := Lib.hid S6
      clear S6
      go_wp2_with (at_builtin; refine wpList_append_st 3 33 HS6.out rfl rfl (.tmp 21) (.tmp 24) 42 rfl i0 _ 192 Try.underlying42 hi hz0 hz1 hz2 rfl (by decide) rfl ⟨w5.heap.size, 0, none⟩ 1 1 (t.cells (.slice A5 t.acc.length c5)).toList rfl (by simp [TxS.size_cells]) ?_ ?_ (by unfold maxLen; omega) (by omega) ?_)
      · intro k u hu
        rw [Addr.add_lit, cell_of_row _ _ _ _ _ _ (heap_alloc_new w5 _), Nat.zero_add]
        simpa using hu
      · intro u hu
        exact Array.all_eq_true'.1 oneTx u (by simpa using hu)
      intro A7 c7 w7 S7
      obtain ⟨g7, rfl, _⟩ := S7.ownForm 0 rfl (by omega)
      have HS7 := Lib.hid ((((S7.drop 1).drop 1).pick 1 rfl))
      clear S7 HS6 HS5
      have e : (ld ++ [t]).length = ld.length + 1 := by simp
      go_wp2_with fail
      go_roundw
      case rel => exact ⟨g7, c7, H', _, left.eraseIdx j, ld ++ [t], ll.eraseIdx j, by rw [e], perm_move hperm ht, (HLL.out.le HLE.out).erase j, (HR.out.le HLE.out).push HR5.out, hle.trans HLE.out, by rw [e]; exact HS7⟩
      case measure =>
        rw [HS7.out.iterLeft_eq 0 rfl, HS.out.iterLeft_eq 0 rfl]
        have := (List.getElem?_eq_some_iff.1 hj).1
        rw [List.length_eraseIdx_of_lt this]
        omega
end Go.Proofs.Ytfphlkkhpccpnaa
