/-
  PoolCopies.
-/
import Derived.Test.YtfphlkkhpccpnaaEx
namespace Go.Proofs.Ytfphlkkhpccpnaa
open Go.RowKit Go.Proofs K

def BoolBelow (b : Bool) (w : World) (e : Ending) (w' : World) : Prop := e = .returned (.bool b) ∧ Below w.heap.size w w'
def addrB : ByteArray := ⟨#[98, 98, 98, 98, 98, 98, 98, 98, 98, 98, 98, 98, 98, 98, 98, 98, 98, 98, 98, 98]⟩
theorem addrB_list : addrB.toList = [98, 98, 98, 98, 98, 98, 98, 98, 98, 98, 98, 98, 98, 98, 98, 98, 98, 98, 98, 98] := by
  rw [ByteArray.toList_eq]
  rfl
/-- What PoolCopies adds. -/
def txC (l : List Wd) : TxS := { tx0 with kind := 1, frm := addrA, acc := [⟨addrB, l⟩] }
def one4 : Wd := ⟨0, 0, 0, 1⟩

theorem words_take : ∀ (l : List Wd) (n : Nat), wordsC (l.take n) = (wordsC l).take (n * 4)
  | [], n => by simp [wordsC]
  | y :: l, 0 => by simp [wordsC]
  | y :: l, n + 1 => by
    have ih := words_take l n
    rw [List.take_succ_cons, Nat.succ_mul]
    show wdC y ++ wordsC (l.take n) = List.take (n * 4 + 4) (wdC y ++ wordsC l)
    rw [ih]
    rfl
theorem args_eq {l : List Wd} {k : Nat} (h : k = l.length ∧ l.length ≤ 10 ∨ k = 10 ∧ 10 < l.length) : wdC one4 ++ (wordsC l).take (k * 4) = wordsC (one4 :: l.take 10) ∧ 1 + k = (one4 :: l.take 10).length := by
  rcases h with ⟨rfl, h⟩ | ⟨rfl, h⟩
  · rw [← words_take, List.take_length, List.take_of_length_le h]
    exact ⟨rfl, by simp; omega⟩
  · rw [← words_take]
    exact ⟨rfl, by simp; omega⟩
theorem args_rep {w4 : World} {F1 : Nat → Prop} {a : Hp} {r n c1 : Nat} {g : Nat} {xs : List Value} {l : List Wd}
    (hap : ∀ (j : Nat) (q : Hp), [a, own 30 2 (.slice (some ⟨r, 0, none⟩) 1 1) 1 [.string addrB, .slice (some ⟨g, 0, none⟩) n c1], own 28 4 (.slice (some ⟨g, 0, none⟩) n c1) n xs][j]? = some q → ∃ G, q.holds G w4 ∧ ∀ b, F1 b → ¬ G b)
    (hx : xs = wordsC l) (hn : n = l.length) : RepV (except w4 F1) (.slice (some ⟨r, 0, none⟩) 1 1) (accsD [⟨addrB, l⟩]) := by
  subst hx hn
  obtain ⟨G1, ⟨o1, f1⟩, d1⟩ := hap 1 _ rfl
  obtain ⟨G2, ⟨o2, f2⟩, d2⟩ := hap 2 _ rfl
  obtain ⟨A1, c1', e1, _, _, row1⟩ := Row.of_own (H := except w4 F1) o1 (fun k hk => except_some fun hf => d1 k hf (f1 k hk))
  obtain ⟨A2, c2', e2, hc2, _, row2⟩ := Row.of_own (H := except w4 F1) o2 (fun k hk => except_some fun hf => d2 k hf (f2 k hk))
  cases e1
  cases e2
  refine .sl (Nat.le_refl _) (fun e => by cases e) rfl row1 (.cons (.pl rfl) (.cons (.sl hc2 (fun e => by cases e) (by rw [List.length_map, wordsC_length]) row2 (RepL.plain_mk _ _ fun v hv => ?_)) .nil))
  obtain ⟨y, _, hy⟩ := List.mem_flatMap.1 hv
  simp only [wdC, List.mem_cons, List.not_mem_nil, or_false] at hy
  rcases hy with rfl | rfl | rfl | rfl <;> rfl

/-- One access, in new memory, with words. -/
theorem accs_open {Hn : Hs} {k : Nat} {s : Value} {a : ByteArray} {y : Wd} {l : List Wd} (h : RepV Hn s (accsD [⟨a, y :: l⟩])) (hf : Fresh Hn k) :
    ∃ b1 o1 c1 b2 o2 c2 cur t, s = .slice (some ⟨b1, o1, none⟩) 1 c1 ∧ (∀ w, Ag Hn w → w.cell? ⟨b1, o1, none⟩ = some (.string a) ∧ w.cell? ⟨b1, o1 + 1, none⟩ = some (.slice (some ⟨b2, o2, none⟩) (l.length + 1) c2)) ∧
      Hn b2 = some (.cells cur t (0, 0)) ∧ k ≤ b2 ∧ cur[o2]? = some (.int .u64 y.a) ∧ cur[o2 + 1]? = some (.int .u64 y.b) ∧ cur[o2 + 2]? = some (.int .u64 y.c) ∧ cur[o2 + 3]? = some (.int .u64 y.d) := by
  obtain ⟨A1, c1, cs1, rfl, _, _, _, row1, hd1⟩ := h.sl_inv
  obtain ⟨xs, rfl, h2⟩ := RepL.pl_inv hd1
  obtain ⟨v, ys, rfl, hv, h3⟩ := h2.cons_inv
  obtain rfl := h3.nil_inv
  obtain ⟨A2, c2, cs2, rfl, _, _, _, row2, hd2⟩ := hv.sl_inv
  obtain rfl := hd2.plain_inv
  rcases row1 with h | ⟨b1, o1, cur1, t1, fr1, rfl, hb1, g1⟩
  · cases h
  rcases row2 with h | ⟨b2, o2, cur2, t2, fr2, rfl, hb2, g2⟩
  · cases h
  obtain ⟨hk, cs, t, e⟩ := hf b2 _ hb2
  cases e
  refine ⟨b1, o1, c1, b2, o2, c2, _, _, rfl, fun w hw => ⟨?_, ?_⟩, hb2, hk, g2 0 _ rfl, g2 1 _ rfl, g2 2 _ rfl, g2 3 _ rfl⟩
  · rw [cell_of_row w b1 o1 _ _ _ (hw _ _ hb1)]; exact g1 0 _ rfl
  · rw [cell_of_row w b1 _ _ _ _ (hw _ _ hb1)]; exact g1 1 _ rfl
theorem ag_less {H H' : Hs} {w : World} (h : Ag H' w) (hl : Le H H') : Ag H w := fun b o hb => h b o (hl b o hb)

theorem txC_small {l : List Wd} (h : l.length ≤ 11) : (txC l).small := ⟨by show 1 * 40 ≤ _; decide, by intro a ha; simp only [txC, List.mem_cons, List.not_mem_nil, or_false] at ha; subst ha; show l.length * 32 ≤ _; omega⟩
theorem txC_right {l : List Wd} (h : l.length ≤ 11) : rightB (txC l) = true := by
  have : decide (l.length ≤ 64) = true := by simp; omega
  simp only [rightB, txC, List.all_cons, List.all_nil, acOk, this]
  rfl
theorem txC_addE {l : List Wd} (h : l.length ≤ 11) : addE [] (txC l) = 0 := by
  simp [addE, txC_right h]
theorem txC_addL {l : List Wd} (h : l.length ≤ 11) : addL [] (txC l) = [txC l] := by
  simp [addL, txC_addE h]

set_option maxRecDepth 100000 in
set_option maxHeartbeats 4000000 in
theorem copies_any (l : List Wd) (v : Value) (w : World) (hv : RepV (allOf w) v (wordsD l)) (hn : l.length ≤ 4398046511104) :
    Calls Try.prog 3 #[v] w (BoolBelow true w) := by
  obtain ⟨A, c, cs, rfl, hnc, hA, hl, hr, hd⟩ := hv.sl_inv
  obtain ⟨i0, hi, hz0, hz1, hz2⟩ := info_parts info28
  obtain rfl := hd.plain_inv
  generalize hH : allOf w = H at *
  have hw : Ag H w := hH ▸ ag_allOf w
  have hcase : ∃ k : Nat, (k = l.length ∧ l.length ≤ 10) ∨ (k = 10 ∧ 10 < l.length) := by
    rcases Nat.lt_or_ge 10 l.length with h | h
    · exact ⟨10, .inr ⟨rfl, h⟩⟩
    · exact ⟨l.length, .inl ⟨rfl, h⟩⟩
  obtain ⟨k, hk⟩ := hcase
  have HR := Lib.hid ((hr.take (k * 4)))
  have HW := Lib.hid hw
  have HK := Lib.hid hk
  clear hH hv hd hr hw hk
  go_enter Try.func3, Try.ntmps3
  go_wp2_with fail
  refine (examples_any H w HW.out).mono ?_
  rintro e w1 ⟨rfl, S1⟩
  have HS1 := Lib.hid S1
  clear S1
  go_wp2_with fail
  refine (new_any H w1 HS1.out.ag).mono ?_
  rintro e w2 ⟨p, rfl, S2⟩
  have HS2 := Lib.hid (HS1.out.more S2)
  clear S2 HS1
  have HS3 := Lib.hid (HS2.out.madeRow (e := 28) (size := 4) (n := 1) #[.int .u64 0, .int .u64 0, .int .u64 0, .int .u64 1] rfl (by decide))
  have hkl : ((wordsC l).take (k * 4)).length = k * 4 := by
    rw [List.length_take, wordsC_length]
    rcases HK.out with ⟨h1, h2⟩ | ⟨h1, h2⟩ <;> omega
  have hk11 : k ≤ 10 := by rcases HK.out with ⟨h1, h2⟩ | ⟨h1, h2⟩ <;> omega
  have H1 := Lib.hid (show ∀ u ∈ (wordsC l).take (k * 4), u.oneCell' = true from fun u hu => by
    have := List.mem_of_mem_take hu
    obtain ⟨y, _, hy⟩ := List.mem_flatMap.1 this
    simp only [wdC, List.mem_cons, List.not_mem_nil, or_false] at hy
    rcases hy with rfl | rfl | rfl | rfl <;> rfl)
  clear HS2
  rcases HK.out with ⟨rfl, h10⟩ | ⟨rfl, h10⟩
  all_goals
    go_wp2_with (at_builtin; refine wpList_append_opt 0 28 HS3.out rfl rfl (.tmp 18) (.tmp 23) 22 rfl i0 _ 32 Try.underlying22 hi hz0 hz1 hz2 rfl (by decide) rfl A _ c _ rfl hA HR.out (HS3.out.agOther HW.out fun _ h => h.elim) hkl H1.out (by unfold maxLen; omega) (by omega) ?_)
    intro A1 c1 w3 S3
    obtain ⟨g, rfl, hg⟩ := S3.ownForm 0 rfl (by omega)
    have HS4 := Lib.hid ((S3.madeHold (e := 30) 0 rfl (.string addrB)).alloc' (tx0.obj (.slice none 0 0)) (w3.heap.size + 1) (by simp))
    clear S3 HS3
    go_wp2_with (first
      | (refine wpList_store_st (cs := (txC (one4 :: l.take 10)).cells _) 0 HS4.out rfl rfl 33 (.tmp 5) (.tmp 28) rfl rfl rfl szTx rfl oneTx ?_)
      | fail)
    intro w4 S4
    have HS5 := Lib.hid S4
    clear S4 HS4
    go_wp2_with (first
      | (refine wpList_load_st 0 HS5.out rfl rfl 33 (.tmp 5) rfl rfl _ Try.underlying33 rfl szTx ?_)
      | fail)
  all_goals
    obtain ⟨F1, hp1, hF1, k1, hap⟩ := HS5.out.stepApart (i := 3) rfl
    have ha := args_eq (l := l) (by first | exact .inl ⟨rfl, h10⟩ | exact .inr ⟨rfl, h10⟩)
    have hrep := args_rep (l := one4 :: l.take 10) hap ha.1 ha.2
    refine (add_any p [] [] (txC (one4 :: l.take 10)) _ F1 (except w4 F1) H _ (ag_except _ _) (fun b hb => except_none hb) HS5.out.ag hp1 hF1 .nil hrep (txC_small (by simp; omega))).mono ?_
    rintro e w5 ⟨m5, H5, rfl, hl5, S5'⟩
    have HS6 := Lib.hid (k1 _ _ _ S5')
    rw [txC_addE (by simp; omega)]
    rw [txC_addL (by simp; omega)] at hl5
    have HL5 := Lib.hid hl5
    clear hl5 S5' hrep hap k1 hF1 hp1 HS5
    go_wp2_with (first
      | (refine wpList_setOwn_st 3 HS6.out rfl rfl 26 (.tmp 34) (.const (.int .u64 9)) rfl rfl rfl rfl rfl (by omega) ?_)
      | fail)
    intro w6 S6
    have HS7 := Lib.hid S6
    clear S6 HS6
    have x1 : w6.cell? ⟨w3.heap.size + 1, 18, none⟩ = some (.slice (some ⟨w3.heap.size, 0, none⟩) 1 1) := HS7.out.cell 2 rfl rfl
    go_wp2_with (first
      | (refine wpList_setOwn_st 3 HS7.out rfl rfl 9 (.tmp 38) (.const (.string _)) rfl rfl rfl rfl rfl (by decide) ?_)
      | fail)
    clear x1
    intro w7 S7
    have HS8 := Lib.hid S7
    clear S7 HS7
    have x1 : w7.cell? ⟨w3.heap.size + 1, 1, none⟩ = some (.string addrA) := HS8.out.cell 3 rfl rfl
    go_wp2_with fail
    obtain ⟨F1, hp1, hF1, k1⟩ := HS8.out.step (i := 2) rfl
    refine (get_any p m5 [txC (one4 :: l.take 10)] addrA 0 F1 H5 _ HS8.out.ag hp1 hF1 HL5.out (by intro t ht; simp at ht; subst ht; exact txC_small (by simp; omega))).mono ?_
    rintro e w8 ⟨s8, H8, Hn, rfl, hr8, S8', hn8, hle8, hf8⟩
    rw [show txGot [txC (one4 :: l.take 10)] (addrA, 0) = txC (one4 :: l.take 10) from rfl, show ([txC (one4 :: l.take 10)].find? (isKey (addrA, 0))).isSome = true from rfl]
    obtain ⟨b1, o1, c8, b2, o2, c9, cur, ty, rfl, hcl, hb2, hk2, d0, d1, d2, d3⟩ := accs_open hn8 hf8
    have h5n : H5 b2 = none := ag_none HS8.out.ag hk2
    have HS0 := Lib.hid (HS8.out.le)
    have HT := Lib.hid (And.intro S8'.le (And.intro (hle8 _ _ hb2) h5n))
    have HC := Lib.hid (And.intro hle8 hcl)
    have HS9 := Lib.hid ((k1 _ _ _ S8').alloc (tx0.obj (.slice none 0 0)))
    clear hr8 S8' hn8 hle8 hf8 k1 hp1 hF1 HS8 x1 hb2 hk2 h5n hcl
    go_wp2_with (first
      | (refine wpList_store_st (cs := (txC (one4 :: l.take 10)).cells _) 0 HS9.out rfl rfl 33 (.tmp 7) (.tmp 44) rfl rfl rfl szTx rfl oneTx ?_)
      | fail)
    intro w9 S9
    have HS10 := Lib.hid S9
    have x1 : w9.cell? ⟨w8.heap.size, 18, none⟩ = some (.slice (some ⟨b1, o1, none⟩) 1 c8) := S9.cell 0 rfl rfl
    obtain ⟨x2, x3⟩ := HC.out.2 w9 (ag_less S9.ag HC.out.1)
    have HS11 := Lib.hid (S9.thaw HT.out.1 HS0.out HT.out.2.1 HT.out.2.2)
    clear S9 HS9 HS10
    go_wp2_with (first
      | (refine wpList_setBlk_st (j := o2 + 1) 0 HS11.out rfl rfl 26 (.tmp 75) (.const (.int .u64 7)) rfl rfl rfl rfl rfl d1 ?_)
      | fail)
    intro w10 S10
    have HS12 := Lib.hid S10
    clear S10 HS11 x1 x2 x3
    have x1 : w10.cell? ⟨w3.heap.size + 1, 1, none⟩ = some (.string addrA) := HS12.out.cell 5 rfl rfl
    go_wp2_with fail
    obtain ⟨F1, hp1, hF1, k1⟩ := HS12.out.step (i := 2) rfl
    refine (get_any p m5 [txC (one4 :: l.take 10)] addrA 0 F1 H5 _ HS12.out.ag hp1 hF1 HL5.out (by intro t ht; simp at ht; subst ht; exact txC_small (by simp; omega))).mono ?_
    clear HC HT d0 d1 d2 d3
    rintro e w11 ⟨s11, H11, Hn, rfl, hr11, S11', hn11, hle11, hf11⟩
    rw [show txGot [txC (one4 :: l.take 10)] (addrA, 0) = txC (one4 :: l.take 10) from rfl, show ([txC (one4 :: l.take 10)].find? (isKey (addrA, 0))).isSome = true from rfl]
    obtain ⟨b3, o3, c10, b4, o4, c11, cur2, ty2, rfl, hcl, hb4, hk4, d0, d1, d2, d3⟩ := accs_open hn11 hf11
    have HC := Lib.hid (And.intro hle11 (And.intro hcl hb4))
    have HS13 := Lib.hid ((k1 _ _ _ S11').alloc (tx0.obj (.slice none 0 0)))
    clear hr11 S11' hn11 hle11 hf11 k1 hp1 hF1 HS12 x1 hb4 hk4 hcl
    go_wp2_with (first
      | (refine wpList_store_st (cs := (txC (one4 :: l.take 10)).cells _) 0 HS13.out rfl rfl 33 (.tmp 9) (.tmp 81) rfl rfl rfl szTx rfl oneTx ?_)
      | fail)
    intro w12 S12
    have HS14 := Lib.hid S12
    have x1 : w12.cell? ⟨w11.heap.size, 18, none⟩ = some (.slice (some ⟨b3, o3, none⟩) 1 c10) := S12.cell 0 rfl rfl
    obtain ⟨x2, x3⟩ := HC.out.2.1 w12 (ag_less S12.ag HC.out.1)
    have hrow := S12.ag _ _ (HC.out.1 _ _ HC.out.2.2)
    have y0 : w12.cell? ⟨b4, o4, none⟩ = some (.int .u64 0) := by rw [cell_of_row w12 b4 _ _ _ _ hrow]; exact d0
    have y1 : w12.cell? ⟨b4, o4 + 1, none⟩ = some (.int .u64 0) := by rw [cell_of_row w12 b4 _ _ _ _ hrow]; exact d1
    have y2 : w12.cell? ⟨b4, o4 + 2, none⟩ = some (.int .u64 0) := by rw [cell_of_row w12 b4 _ _ _ _ hrow]; exact d2
    have y3 : w12.cell? ⟨b4, o4 + 3, none⟩ = some (.int .u64 1) := by rw [cell_of_row w12 b4 _ _ _ _ hrow]; exact d3
    clear S12 HS13 hrow d0 d1 d2 d3 HC
    go_wp2_with fail
    all_goals first
      | (go_ret
         exact ⟨rfl, HS14.out.below⟩)
      | exact absurd addrB_list (by assumption)
end Go.Proofs.Ytfphlkkhpccpnaa
