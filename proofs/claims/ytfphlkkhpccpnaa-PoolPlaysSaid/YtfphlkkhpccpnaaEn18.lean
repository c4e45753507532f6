/-
  The document's own Encode of a transaction.
-/
import Derived.Test.YtfphlkkhpccpnaaE18
import Derived.Test.YtfphlkkhpccpnaaA19
import Derived.Deep.RegionLaw
namespace Go.Proofs.Ytfphlkkhpccpnaa.K
open Go.RowKit
section
variable {H0 H : Hs} {w0 w : World} {X : Nat → Prop} {ps : List Hp}
/-- 'append' onto an own row, at a step of a region that draws its order. -/
theorem step_append_st {P : Program} {ops : Array Oper} {o : Oper} {a : Act} {K : Act → World → Prop} {Q : Exit → Act → World → Prop} {E : Prop} {size n : Nat} {v : Value} {xs : List Value} (i : Nat) (e : TypeId) (S : St H0 w0 X H w ps) (hi : ps[i]? = some (own e size v n xs))
    (hgd : o.guard = none) (s x : Operand) (t : TypeId) (ho : o.op = .call { callee := .builtin .append, args := #[s, x], argTypes := #[t, t] }) (inf : TypeInfo) (z : Value) (bytes : Nat)
    (ht : P.underlying t = some (.slice e)) (hinf : P.info? e = some inf) (hz : inf.zero = some z) (hsize : inf.size = size) (hby : inf.bytes = bytes) (hzs : z.cells.size = size) (hsz : 0 < size)
    (hs : a.eval s = v) (ad : Addr) (m c : Nat) (news : List Value) (hx : a.eval x = .slice (some ad) m c) (hl : news.length = m * size) (hnews : ∀ j u, news[j]? = some u → w.cell? (ad.add j) = some u) (h1 : ∀ u ∈ news, u.oneCell' = true)
    (h63 : n + m ≤ maxLen) (hbytes : (n + m) * bytes ≤ 140737488355328)
    (h : ∀ A c w', St H0 w0 X H w' (own e size (.slice A (n + m) c) (n + m) (xs ++ news) :: ps.eraseIdx i) → K (a.put o.dst (.slice A (n + m) c)) w') : if Region.wanted o (yielded ops a.tmps) = true then Oper.wp P o a w K Q else E := by
  rw [if_pos (by simp [Region.wanted, hgd])]
  obtain ⟨v', w', hr, ho', hg, _, hb⟩ := run_append_own_at (P := P) w 0 t o.type e inf z size bytes ht hinf hz hsize hby hzs hsz v n xs (S.own_at i hi) ad m c news hl hnews h1 h63 hbytes (Nat.zero_le _)
  have S' := S.appended i hi ho' hg hb
  unfold Oper.wp execOp
  simp only [ho, resolve, invoke, builtin, Sem.run_bind, Sem.run_pure, Result.andThen_ok, List.map_toArray, List.map_cons, List.map_nil, hs, hx, hr]
  rcases ho'.2 with ⟨rfl, h0⟩ | ⟨g, cap, cur, rfl, _⟩
  · rw [h0] at S' h; exact h _ _ _ S'
  · exact h _ _ _ S'
end
end Go.Proofs.Ytfphlkkhpccpnaa.K
namespace Go.Proofs.Ytfphlkkhpccpnaa
open Go.RowKit Go.Proofs K
set_option linter.unusedVariables false

def itO (v : Value) : Obj := .cells #[.bool true, .string ⟨#[]⟩, v] 83
set_option maxRecDepth 100000 in
set_option maxHeartbeats 2000000 in
theorem rencode_no (t : TxS) (s : Value) (H : Hs) (w : World) (hw : Ag H w) (hs : RepV H s (accsD t.acc)) (h : rightB t = false) :
    Calls Try.prog 27 #[.agg (t.cells s)] w (RetV (.tuple #[.string ⟨#[]⟩, .bool false]) w) := by
  have HS1 := Lib.hid ((St.start hw).alloc (t.obj s))
  have HX := Lib.hid hs
  have HB := Lib.hid h
  clear hs hw h
  simp only [TxS.cells]
  go_enter Try.func27, Try.ntmps27
  go_wp2_with (first
    | (refine wpList_load_st (cs := t.cells s) 0 HS1.out rfl rfl 33 (.tmp 1) rfl rfl _ Try.underlying33 rfl szTx ?_)
    | fail)
  refine (rright_any t s H H _ HS1.out.ag HS1.out.ag HX.out).mono ?_
  rintro e w1 ⟨rfl, S1⟩
  rw [HB.out]
  have HS2 := Lib.hid (HS1.out.more S1)
  clear S1 HS1
  go_wp2_with fail
  go_ret2
  exact ⟨rfl, HS2.out.below⟩
/-- A word among an access's slots, where it lies. -/
theorem word_cells {H : Hs} {A : Option Addr} {l : List Wd} {w : World} (hr : Row H A (wordsC l)) (hw : Ag H w) {j : Nat} (hj : j < l.length) : ∃ b o, A = some ⟨b, o, none⟩ ∧ b < w.heap.size ∧ w.cell? ⟨b, o + j * 4, none⟩ = some (.int .u64 l[j].a) ∧ w.cell? ⟨b, o + j * 4 + 1, none⟩ = some (.int .u64 l[j].b) ∧ w.cell? ⟨b, o + j * 4 + 2, none⟩ = some (.int .u64 l[j].c) ∧ w.cell? ⟨b, o + j * 4 + 3, none⟩ = some (.int .u64 l[j].d) := by
  have hlen := wordsC_length l
  obtain ⟨b, o, rfl, hb, hc⟩ := hr.cells hw (by intro e; rw [e] at hlen; simp at hlen; omega)
  have g : ∀ q v, (wdC l[j])[q]? = some v → q < 4 → w.cell? ⟨b, o + (j * 4 + q), none⟩ = some v := fun q v hv hq => hc _ _ (by
    have := flat_get wdC_length (List.getElem?_eq_getElem hj) hq
    unfold wordsC
    rw [this]
    exact hv)
  refine ⟨b, o, rfl, hb, ?_, ?_, ?_, ?_⟩
  · exact g 0 _ rfl (by omega)
  · exact g 1 _ rfl (by omega)
  · exact g 2 _ rfl (by omega)
  · exact g 3 _ rfl (by omega)
theorem textsC_len (l : List ByteArray) : (textsC l).length = l.length * 3 := flat_length (f := textC) (s := 3) (fun _ => rfl) l
theorem textC_one (s : ByteArray) : ∀ u ∈ textC s, u.oneCell' = true := by
  intro u hu
  simp only [textC, List.mem_cons, List.not_mem_nil, or_false] at hu
  rcases hu with rfl | rfl | rfl <;> rfl
theorem textsC_succ {l : List Wd} {j : Nat} (h : j < l.length) : textsC ((l.take j).map wdS) ++ textC (wdS l[j]) = textsC ((l.take (j + 1)).map wdS) := by
  rw [List.take_succ_eq_append_getElem h, List.map_append]
  unfold textsC
  rw [List.flatMap_append]
  simp
theorem itsD_append (a b : List It) : itsD (a ++ b) = itsD a ++ itsD b := by rw [itsD_flat, itsD_flat, itsD_flat, List.flatMap_append]
theorem list_rep {H : Hs} {s : Value} {n : Nat} {l : List It} (h : RepV H s (.sl 3 n (itsD l))) (hn : l.length = n) : RepL H [.bool true, .string ⟨#[]⟩, s] (It.list l).d := by
  subst hn
  unfold It.d
  exact .cons (.pl rfl) (.cons (.pl rfl) (.cons h .nil))
theorem text_rep (H : Hs) (s : ByteArray) : RepL H [.bool false, .string s, .slice none 0 0] (It.text s).d := by
  unfold It.d
  exact .cons (.pl rfl) (.cons (.pl rfl) (.cons (.sl (Nat.le_refl _) (fun _ => rfl) rfl (.inl rfl) .nil) .nil))
theorem acI_eq (x : Ac) : acI x = .list [.text x.addr, .list ((x.slots.map wdS).map It.text)] := by
  unfold acI
  rw [List.map_map]
  rfl
theorem two_rep {H : Hs} {s : Value} {n : Nat} {addr : ByteArray} {l : List It} (h : RepV H s (.sl 3 n (itsD l))) (hn : l.length = n) : RepL H [.bool false, .string addr, .slice none 0 0, .bool true, .string ⟨#[]⟩, s] (itsD [.text addr, .list l]) := by
  rw [show ([.text addr, .list l] : List It) = [.text addr] ++ [.list l] from rfl, itsD_append]
  have e : ∀ i : It, itsD [i] = i.d := fun i => by unfold itsD; unfold itsD; exact List.append_nil _
  rw [e, e]
  exact (text_rep H addr).append (list_rep h hn)
theorem ac_rep {H : Hs} {s : Value} {x : Ac} (h : RepV H s (.sl 3 2 (itsD [.text x.addr, .list ((x.slots.map wdS).map It.text)]))) : RepL H [.bool true, .string ⟨#[]⟩, s] (itsD [acI x]) := by
  rw [acI_eq]
  have e : ∀ i : It, itsD [i] = i.d := fun i => by unfold itsD; unfold itsD; exact List.append_nil _
  rw [e]
  exact list_rep h rfl
theorem ten_rep {H : Hs} {s : Value} {n : Nat} {l : List It} (a1 a2 a3 a4 a5 a6 a7 a8 a9 : ByteArray) (h : RepV H s (.sl 3 n (itsD l))) (hn : l.length = n) :
    RepL H [.bool false, .string a1, .slice none 0 0, .bool false, .string a2, .slice none 0 0, .bool false, .string a3, .slice none 0 0, .bool false, .string a4, .slice none 0 0, .bool false, .string a5, .slice none 0 0, .bool false, .string a6, .slice none 0 0, .bool false, .string a7, .slice none 0 0, .bool false, .string a8, .slice none 0 0, .bool false, .string a9, .slice none 0 0, .bool true, .string ⟨#[]⟩, s] (itsD [.text a1, .text a2, .text a3, .text a4, .text a5, .text a6, .text a7, .text a8, .text a9, .list l]) := by
  have e : ∀ i : It, itsD [i] = i.d := fun i => by unfold itsD; unfold itsD; exact List.append_nil _
  rw [show ([.text a1, .text a2, .text a3, .text a4, .text a5, .text a6, .text a7, .text a8, .text a9, .list l] : List It) = [a1, a2, a3, a4, a5, a6, a7, a8, a9].map It.text ++ [.list l] from rfl, itsD_append, e]
  exact (texts_rep H [a1, a2, a3, a4, a5, a6, a7, a8, a9]).append (list_rep h hn)
set_option maxRecDepth 100000 in
set_option maxHeartbeats 8000000 in
theorem rencode_yes (t : TxS) (A : Option Addr) (c : Nat) (H : Hs) (w : World) (hw : Ag H w) (hs : RepV H (.slice A t.acc.length c) (accsD t.acc)) (hf : t.fits) (h : rightB t = true) :
    Calls Try.prog 27 #[.agg (t.cells (.slice A t.acc.length c))] w (RetV (.tuple #[.string (txI t).bytes, .bool true]) w) := by
  have HX := Lib.hid hs
  have HS1 := Lib.hid ((St.start hw).alloc (t.obj (.slice A t.acc.length c)))
  have HB := Lib.hid h
  have HF := Lib.hid hf
  obtain ⟨i0, hi0, hz0, hz1, hz2⟩ := info_parts infoRItem18
  have h64 : t.acc.length ≤ 64 := (pre_cases (right_all h).1).2.2.2.2
  have HOK : Hid (∀ x ∈ t.acc, acOk x = true) := Lib.hid (right_all h).2
  obtain ⟨A', c', cs, he, hnc, hA, hl, hr, hd⟩ := hs.sl_inv
  simp only [Value.slice.injEq, true_and] at he
  obtain ⟨rfl, rfl⟩ := he
  have HA := Lib.hid hw
  have HR := Lib.hid hr
  have HD := Lib.hid hd
  have HC := Lib.hid (hd.len.trans hl)
  clear hs hw hf h hr hd hl hA hnc
  simp only [TxS.cells]
  go_enter Try.func27, Try.ntmps27
  go_wp2_with (first
    | (refine wpList_load_st (cs := t.cells (.slice A t.acc.length c)) 0 HS1.out rfl rfl 33 (.tmp 1) rfl rfl _ Try.underlying33 rfl szTx ?_)
    | fail)
  refine (rright_any t _ H H _ HS1.out.ag HS1.out.ag HX.out).mono ?_
  rintro e w1 ⟨rfl, S1⟩
  rw [HB.out]
  have HS3 : Hid (St H w none_ H (w1.alloc (.cells #[.bool true, .string ⟨#[]⟩, .slice none 0 0] 83)) [own 83 3 (.slice none 0 0) 0 [], blk w1.heap.size (itO (.slice none 0 0)), blk w.heap.size (t.obj (.slice A t.acc.length c))]) := ((HS1.out.more S1).alloc (itO (.slice none 0 0))).own_nil
  clear S1 HS1
  go_wp2_with fail
  go_loopw [6] (fun i wr => ∃ (k : Nat) (Hk : Hs) (A2 : Option Addr) (c2 : Nat) (xs : List Value), i = .int .i64 k ∧ k ≤ t.acc.length ∧ Hid (Le H Hk) ∧ Hid (RepL Hk xs (itsD ((t.acc.take k).map acI))) ∧ Hid (St H w none_ Hk wr [own 83 3 (.slice A2 k c2) k xs, blk w1.heap.size (itO (.slice A2 k c2)), blk w.heap.size (t.obj (.slice A t.acc.length c))]))
    (fun i _ => t.acc.length - (intOf i).toNat)
  case atStart => exact ⟨0, H, none, 0, [], rfl, Nat.zero_le _, Lib.hid (Le.refl _), Lib.hid (by rw [List.take_zero]; exact .nil), HS3⟩
  case round =>
    clear HS3
    obtain ⟨k, Hk, A2, c2, xs, rfl, hk, HLE, HXS, HS⟩ := hrel
    have h18 : wr.cell? ⟨w.heap.size, 18, none⟩ = some (.slice A t.acc.length c) := HS.out.cell 2 rfl rfl
    by_cases hlt : k < t.acc.length
    · obtain ⟨b, o, rfl, hb, hcc⟩ := HR.out.cells (HS.out.agOther HA.out fun _ h => h.elim) (by intro e; have := HC.out; rw [e, List.length_nil] at this; omega)
      obtain ⟨s1, hs1, hv1⟩ := accs_slots HD.out (List.getElem?_eq_getElem hlt)
      have hadr := accs_addr HD.out (List.getElem?_eq_getElem hlt)
      have HX1 : Hid (t.acc[k] ∈ t.acc) := Lib.hid (List.getElem_mem hlt)
      have HT1 : Hid ((t.acc.take (k + 1)).map acI = (t.acc.take k).map acI ++ [acI t.acc[k]]) := Lib.hid (by rw [List.take_succ_eq_append_getElem hlt, List.map_append]; rfl)
      generalize t.acc[k] = x at hs1 hv1 hadr HX1 HT1
      obtain ⟨AS, cS, css, rfl, hncS, hAS, hlS, hrS, hdS⟩ := hv1.sl_inv
      obtain rfl := hdS.plain_inv
      have hok := HOK.out x HX1.out
      have hx64 : x.slots.length ≤ 64 := by
        simp only [acOk, Bool.and_eq_true, beq_iff_eq, decide_eq_true_eq] at hok
        exact hok.2
      have HRS := Lib.hid hrS
      -- what is read of the argument, in any later world
      have HG : Hid (∀ wx, Below w.heap.size w wx → wx.cell? ⟨b, o + k * 2 + 1, none⟩ = some (.slice AS x.slots.length cS) ∧ wx.cell? ⟨b, o + k * 2, none⟩ = some (.string x.addr)) := Lib.hid fun wx hwx => by
        obtain ⟨b', o', e', hb', hcc'⟩ := HR.out.cells (ag_below HA.out hwx) (by intro e; have := HC.out; rw [e, List.length_nil] at this; omega)
        cases e'
        have h1 := hcc' _ _ hs1
        exact ⟨by rwa [← Nat.add_assoc] at h1, hcc' _ _ hadr⟩
      have HW0 := Lib.hid HS.out.below
      obtain ⟨g1, g0⟩ := HG.out _ HS.out.below
      clear hv1 hdS hncS hAS hlS hrS hcc hs1 hadr hok
      have HS4 : Hid (St H w none_ Hk (wr.alloc (.cells #[.bool true, .string ⟨#[]⟩, .slice none 0 0] 83)) [own 83 3 (.slice none 0 0) 0 [], blk wr.heap.size (itO (.slice none 0 0)), own 83 3 (.slice A2 k c2) k xs, blk w1.heap.size (itO (.slice A2 k c2)), blk w.heap.size (t.obj (.slice (some ⟨b, o, none⟩) t.acc.length c))]) := (HS.out.alloc (itO (.slice none 0 0))).own_nil
      have hwl : w.heap.size < wr.heap.size := HS.out.blk_lt 2 rfl
      clear HS
      go_wp2_with fail
      obtain ⟨wo, rfl⟩ : ∃ wo : World, wo = wr := ⟨_, rfl⟩
      go_loopw [8] (fun i ws => ∃ (j : Nat) (A3 : Option Addr) (c3 : Nat), i = .int .i64 j ∧ j ≤ x.slots.length ∧ Hid (St H w none_ Hk ws [own 83 3 (.slice A3 j c3) j (textsC ((x.slots.take j).map wdS)), blk wo.heap.size (itO (.slice A3 j c3)), own 83 3 (.slice A2 k c2) k xs, blk w1.heap.size (itO (.slice A2 k c2)), blk w.heap.size (t.obj (.slice (some ⟨b, o, none⟩) t.acc.length c))]))
        (fun i _ => x.slots.length - (intOf i).toNat)
      case atStart => exact ⟨0, none, 0, rfl, Nat.zero_le _, HS4⟩
      case round =>
        clear HS4 h18 g1 g0
        obtain ⟨j, A3, c3, rfl, hj, HS5⟩ := hrel
        by_cases hlj : j < x.slots.length
        · obtain ⟨b2, o2, rfl, hb2, _⟩ := word_cells HRS.out (HS5.out.agOther HA.out fun _ h => h.elim) hlj
          have HWS : Hid (∀ wx, Below wr.heap.size wr wx → wx.cell? ⟨b2, o2 + j * 4, none⟩ = some (.int .u64 x.slots[j].a) ∧ wx.cell? ⟨b2, o2 + j * 4 + 1, none⟩ = some (.int .u64 x.slots[j].b) ∧ wx.cell? ⟨b2, o2 + j * 4 + 2, none⟩ = some (.int .u64 x.slots[j].c) ∧ wx.cell? ⟨b2, o2 + j * 4 + 3, none⟩ = some (.int .u64 x.slots[j].d)) := Lib.hid fun wx hwx => by
            obtain ⟨b', o', e', _, h0, h1, h2, h3⟩ := word_cells HRS.out ((HS5.out.grow hwx).agOther HA.out fun _ h => h.elim) hlj
            cases e'
            exact ⟨h0, h1, h2, h3⟩
          have HYT := Lib.hid (textsC_succ hlj)
          have HYO : Hid (Wd.ok x.slots[j]) := Lib.hid (HF.out.slots x HX1.out _ (List.getElem_mem hlj))
          generalize x.slots[j] = y at HWS HYT HYO
          have HWD := Lib.hid (rword18 y.a y.b y.c y.d HYO.out.1 HYO.out.2.1 HYO.out.2.2.1 HYO.out.2.2.2)
          have f7 : ∀ w', Below wr.heap.size wr w' → w'.cell? ⟨wo.heap.size, 2, none⟩ = some (.slice A3 j c3) := fun w' h => (HS5.out.grow h).cell 1 rfl rfl
          have f18 : ∀ w', Below wr.heap.size wr w' → w'.cell? ⟨w.heap.size, 18, none⟩ = some (.slice (some ⟨b, o, none⟩) t.acc.length c) := fun w' h => (HS5.out.grow h).cell 4 rfl rfl
          have fs : ∀ w', Below wr.heap.size wr w' → w'.cell? ⟨b, o + k * 2 + 1, none⟩ = some (.slice (some ⟨b2, o2, none⟩) x.slots.length cS) := fun w' h => (HG.out w' (HS5.out.grow h).below).1
          have fa : ∀ w', Below wr.heap.size wr w' → w'.cell? ⟨b2, o2 + j * 4, none⟩ = some (.int .u64 y.a) := fun w' h => (HWS.out w' h).1
          have fb : ∀ w', Below wr.heap.size wr w' → w'.cell? ⟨b2, o2 + j * 4 + 1, none⟩ = some (.int .u64 y.b) := fun w' h => (HWS.out w' h).2.1
          have fc : ∀ w', Below wr.heap.size wr w' → w'.cell? ⟨b2, o2 + j * 4 + 2, none⟩ = some (.int .u64 y.c) := fun w' h => (HWS.out w' h).2.2.1
          have fd : ∀ w', Below wr.heap.size wr w' → w'.cell? ⟨b2, o2 + j * 4 + 3, none⟩ = some (.int .u64 y.d) := fun w' h => (HWS.out w' h).2.2.2
          have hb0 : Below wr.heap.size wr wr := Below.refl _ _
          have hbd : Below wr.heap.size wr wr.drew := (Below.refl _ _).drew
          clear HWS HYO hb2
          go_wp2_with fail
          go_region_law (first
            | (go_simp; go_at_call 36; refine (retFrom (W := wr) ?_ (HWD.out _)).mono ?_; (first | assumption | exact (Below.refl _ _).drew); rintro e2 w2 ⟨rfl, hb3⟩; have HS6 : Hid (St H w none_ Hk (w2.alloc (.cells #[.bool false, .string (wordS y.a y.b y.c y.d), .slice none 0 0] 83)) [own 83 3 (.slice (some ⟨w2.heap.size, 0, none⟩) 1 1) 1 (textC (wdS y)), own 83 3 (.slice A3 j c3) j (textsC ((x.slots.take j).map wdS)), blk wo.heap.size (itO (.slice A3 j c3)), own 83 3 (.slice A2 k c2) k xs, blk w1.heap.size (itO (.slice A2 k c2)), blk w.heap.size (t.obj (.slice (some ⟨b, o, none⟩) t.acc.length c))]) := (HS5.out.grow hb3).madeRow #[.bool false, .string (wordS y.a y.b y.c y.d), .slice none 0 0] rfl (by decide); have m7 := f7 _ hb3; have m7b : (w2.alloc (.cells #[.bool false, .string (wordS y.a y.b y.c y.d), .slice none 0 0] 83)).cell? ⟨wo.heap.size, 2, none⟩ = some (.slice A3 j c3) := HS6.out.cell 2 rfl rfl)
            | (refine step_append_st 1 83 HS6.out rfl rfl (.tmp 35) (.tmp 46) 81 rfl i0 _ 48 Try.underlying81 hi0 hz0 hz1 hz2 rfl (by decide) rfl ⟨w2.heap.size, 0, none⟩ 1 1 (textC (wdS y)) rfl rfl (fun j u hj => ?_) ?_ ?_ ?_ ?_; (rw [Addr.add_lit, Nat.zero_add]; exact (HS6.out.ownCell 0 rfl j (by have := (List.getElem?_eq_some_iff.1 hj).1; simpa [textC] using this)).trans hj); (exact textC_one _); (unfold maxLen; omega); omega; intro A4 c4 w5 S4; have n0 : w5.cell? ⟨wo.heap.size, 2, none⟩ = some (.slice A3 j c3) := S4.cell 2 rfl rfl; have n1 : w5.frozen? ⟨wo.heap.size, 2, none⟩ = false := S4.frozen 2 rfl 2))
          all_goals
            have S5 := ((S4.setCell (j := 2) 2 rfl (.slice A4 (j + 1) c4)).pick 1 rfl).drop 2
            rw [HYT.out] at S5
            have HS7 : Hid (St H w none_ Hk (w5.setCell ⟨wo.heap.size, 2, none⟩ (.slice A4 (j + 1) c4)) [own 83 3 (.slice A4 (j + 1) c4) (j + 1) (textsC ((x.slots.take (j + 1)).map wdS)), blk wo.heap.size (itO (.slice A4 (j + 1) c4)), own 83 3 (.slice A2 k c2) k xs, blk w1.heap.size (itO (.slice A2 k c2)), blk w.heap.size (t.obj (.slice (some ⟨b, o, none⟩) t.acc.length c))]) := S5
            clear S4 S5 HS6 HS5 HYT f7 f18 fs fa fb fc fd n0 n1
            go_wp2_with fail
            go_roundw
            case rel => exact ⟨j + 1, A4, c4, by go_num, by omega, HS7⟩
            case measure => simp [intOf]; omega
        · obtain rfl : j = x.slots.length := by omega
          rw [List.take_length] at HS5
          obtain ⟨H2, hle2, hrep2, S6⟩ := HS5.out.keepOwn 0 rfl (ds := itsD ((x.slots.map wdS).map It.text)) (texts_rep Hk (x.slots.map wdS))
          have HS6 : Hid (St H w none_ H2 wr [blk wo.heap.size (itO (.slice A3 x.slots.length c3)), own 83 3 (.slice A2 k c2) k xs, blk w1.heap.size (itO (.slice A2 k c2)), blk w.heap.size (t.obj (.slice (some ⟨b, o, none⟩) t.acc.length c))]) := S6
          have HREP2 := Lib.hid hrep2
          have HLE2 := Lib.hid hle2
          have f7a : ∀ w', Below wr.heap.size wr w' → w'.cell? ⟨wo.heap.size, 0, none⟩ = some (.bool true) := fun w' h => (HS6.out.grow h).cell 0 rfl rfl
          have f7b : ∀ w', Below wr.heap.size wr w' → w'.cell? ⟨wo.heap.size, 1, none⟩ = some (.string ⟨#[]⟩) := fun w' h => (HS6.out.grow h).cell 0 rfl rfl
          have f7c : ∀ w', Below wr.heap.size wr w' → w'.cell? ⟨wo.heap.size, 2, none⟩ = some (.slice A3 x.slots.length c3) := fun w' h => (HS6.out.grow h).cell 0 rfl rfl
          have f5 : ∀ w', Below wr.heap.size wr w' → w'.cell? ⟨w1.heap.size, 2, none⟩ = some (.slice A2 k c2) := fun w' h => (HS6.out.grow h).cell 2 rfl rfl
          have f18 : ∀ w', Below wr.heap.size wr w' → w'.cell? ⟨w.heap.size, 18, none⟩ = some (.slice (some ⟨b, o, none⟩) t.acc.length c) := fun w' h => (HS6.out.grow h).cell 3 rfl rfl
          have fs : ∀ w', Below wr.heap.size wr w' → w'.cell? ⟨b, o + k * 2 + 1, none⟩ = some (.slice AS x.slots.length cS) := fun w' h => (HG.out w' (HS6.out.grow h).below).1
          have fn : ∀ w', Below wr.heap.size wr w' → w'.cell? ⟨b, o + k * 2, none⟩ = some (.string x.addr) := fun w' h => (HG.out w' (HS6.out.grow h).below).2
          have hb0 : Below wr.heap.size wr wr := Below.refl _ _
          have hbd : Below wr.heap.size wr wr.drew := (Below.refl _ _).drew
          clear S6 hrep2 hle2 HS5
          go_wp2_with fail
          go_region_law (first
            | (go_simp; go_at_call 37; refine (retFrom (W := wr) ?_ (rtext18 x.addr _)).mono ?_; (first | assumption | exact (Below.refl _ _).drew); rintro e2 w2 ⟨rfl, hb3⟩; have HS8 : Hid (St H w none_ H2 ((w2.alloc (.cells #[.bool false, .string x.addr, .slice none 0 0, .bool true, .string ⟨#[]⟩, .slice A3 x.slots.length c3] 83)).alloc (.cells #[.bool true, .string ⟨#[]⟩, .slice (some ⟨w2.heap.size, 0, none⟩) 2 2] 83)) [own 83 3 (.slice (some ⟨w2.heap.size + 1, 0, none⟩) 1 1) 1 [.bool true, .string ⟨#[]⟩, .slice (some ⟨w2.heap.size, 0, none⟩) 2 2], own 83 3 (.slice (some ⟨w2.heap.size, 0, none⟩) 2 2) 2 [.bool false, .string x.addr, .slice none 0 0, .bool true, .string ⟨#[]⟩, .slice A3 x.slots.length c3], blk wo.heap.size (itO (.slice A3 x.slots.length c3)), own 83 3 (.slice A2 k c2) k xs, blk w1.heap.size (itO (.slice A2 k c2)), blk w.heap.size (t.obj (.slice (some ⟨b, o, none⟩) t.acc.length c))]) := Lib.hid (by have S9 := ((HS6.out.grow hb3).madeRow (e := 83) (size := 3) (n := 2) #[.bool false, .string x.addr, .slice none 0 0, .bool true, .string ⟨#[]⟩, .slice A3 x.slots.length c3] rfl (by decide)).madeRow (e := 83) (size := 3) (n := 1) #[.bool true, .string ⟨#[]⟩, .slice (some ⟨w2.heap.size, 0, none⟩) 2 2] rfl (by decide); rw [show (w2.alloc (.cells #[.bool false, .string x.addr, .slice none 0 0, .bool true, .string ⟨#[]⟩, .slice A3 x.slots.length c3] 83)).heap.size = w2.heap.size + 1 by simp] at S9; exact S9); have HS8b := Lib.hid ((HS6.out.grow hb3).alloc (.cells #[.bool false, .string x.addr, .slice none 0 0, .bool true, .string ⟨#[]⟩, .slice A3 x.slots.length c3] 83)); have m7a := f7a _ hb3; have m7b := f7b _ hb3; have m7c := f7c _ hb3; have m5 := f5 _ hb3; have m5b : (w2.alloc (.cells #[.bool false, .string x.addr, .slice none 0 0, .bool true, .string ⟨#[]⟩, .slice A3 x.slots.length c3] 83)).cell? ⟨w1.heap.size, 2, none⟩ = some (.slice A2 k c2) := HS8b.out.cell 3 rfl rfl; have m5c : ((w2.alloc (.cells #[.bool false, .string x.addr, .slice none 0 0, .bool true, .string ⟨#[]⟩, .slice A3 x.slots.length c3] 83)).alloc (.cells #[.bool true, .string ⟨#[]⟩, .slice (some ⟨w2.heap.size, 0, none⟩) 2 2] 83)).cell? ⟨w1.heap.size, 2, none⟩ = some (.slice A2 k c2) := HS8.out.cell 4 rfl rfl)
            | (refine step_append_st 3 83 HS8.out rfl rfl (.tmp 50) (.tmp 61) 81 rfl i0 _ 48 Try.underlying81 hi0 hz0 hz1 hz2 rfl (by decide) rfl ⟨w2.heap.size + 1, 0, none⟩ 1 1 [.bool true, .string ⟨#[]⟩, .slice (some ⟨w2.heap.size, 0, none⟩) 2 2] rfl rfl (fun j u hj => ?_) ?_ ?_ ?_ ?_; (rw [Addr.add_lit, Nat.zero_add]; exact (HS8.out.ownCell 0 rfl j (by have := (List.getElem?_eq_some_iff.1 hj).1; simpa using this)).trans hj); (simp [Value.oneCell']); (unfold maxLen; omega); omega; intro A4 c4 w5 S4; have n0 : w5.cell? ⟨w1.heap.size, 2, none⟩ = some (.slice A2 k c2) := S4.cell 4 rfl rfl; have n1 : w5.frozen? ⟨w1.heap.size, 2, none⟩ = false := S4.frozen 4 rfl 2))
          all_goals
            have S5 := S4.setCell (j := 2) 4 rfl (.slice A4 (k + 1) c4)
            obtain ⟨H3, hle3, hrep3, S6⟩ := S5.keepOwn 3 rfl (ds := itsD [.text x.addr, .list ((x.slots.map wdS).map It.text)]) (two_rep HREP2.out (by simp))
            have hx3 : RepL H3 (xs ++ [.bool true, .string ⟨#[]⟩, .slice (some ⟨w2.heap.size, 0, none⟩) 2 2]) (itsD ((t.acc.take (k + 1)).map acI)) := by
              rw [HT1.out, itsD_append]
              exact (HXS.out.le (HLE2.out.trans hle3)).append (ac_rep hrep3)
            have HX3 := Lib.hid hx3
            have HL3 := Lib.hid (HLE.out.trans (HLE2.out.trans hle3))
            have HS9 : Hid (St H w none_ H3 (w5.setCell ⟨w1.heap.size, 2, none⟩ (.slice A4 (k + 1) c4)) [own 83 3 (.slice A4 (k + 1) c4) (k + 1) (xs ++ [.bool true, .string ⟨#[]⟩, .slice (some ⟨w2.heap.size, 0, none⟩) 2 2]), blk w1.heap.size (itO (.slice A4 (k + 1) c4)), blk w.heap.size (t.obj (.slice (some ⟨b, o, none⟩) t.acc.length c))]) := ((S6.pick 1 rfl).drop 2).drop 2
            clear S4 S5 S6 hrep3 hx3 hle3 HS8 HS8b HS6 f7a f7b f7c f5 f18 fs fn n0 n1 m7a m7b m7c m5 m5b m5c
            go_wp2_with fail
            go_roundw
            case rel => exact ⟨k + 1, H3, A4, c4, _, by go_num, by omega, HL3, HX3, HS9⟩
            case measure => simp [intOf]; omega
    · obtain rfl : k = t.acc.length := by omega
      rw [List.take_length] at HXS
      obtain ⟨H2, hle2, hrep2, S4⟩ := HS.out.keepOwn 0 rfl HXS.out
      have HS4 : Hid (St H w none_ H2 wr [blk w1.heap.size (itO (.slice A2 t.acc.length c2)), blk w.heap.size (t.obj (.slice A t.acc.length c))]) := S4
      have HREP2 := Lib.hid hrep2
      clear hrep2 hle2 S4 HS
      have hkind : 0 ≤ t.kind ∧ t.kind ≤ 2 := by
        have hc := (pre_cases (right_all HB.out).1).1
        cases hc <;> omega
      obtain ⟨hk0, hk2⟩ := hkind
      have wk : W64 t.kind := ⟨hk0, by omega⟩
      have hwk : IntKind.u64.wrap t.kind = t.kind := by simp [IntKind.wrap, IntKind.bits, IntKind.signed]; omega
      have wn := HF.out.nonce
      have wg := HF.out.gas
      obtain ⟨p1, p2, p3, p4⟩ := HF.out.p
      obtain ⟨q1, q2, q3, q4⟩ := HF.out.q
      obtain ⟨v1, v2, v3, v4⟩ := HF.out.v
      have HNK := Lib.hid (rnumber18 t.kind wk)
      have HNN := Lib.hid (rnumber18 t.nonce wn)
      have HNG := Lib.hid (rnumber18 t.gas wg)
      have HWP := Lib.hid (rword18 t.p.a t.p.b t.p.c t.p.d p1 p2 p3 p4)
      have HWQ := Lib.hid (rword18 t.q.a t.q.b t.q.c t.q.d q1 q2 q3 q4)
      have HWV := Lib.hid (rword18 t.v.a t.v.b t.v.c t.v.d v1 v2 v3 v4)
      clear wk wn wg p1 p2 p3 p4 q1 q2 q3 q4 v1 v2 v3 v4
      have e0 : ∀ w', Below wr.heap.size wr w' → w'.cell? ⟨w.heap.size, 0, none⟩ = some (.int .i64 t.kind) := fun w' h => (HS4.out.grow h).cell 1 rfl rfl
      have e1 : ∀ w', Below wr.heap.size wr w' → w'.cell? ⟨w.heap.size, 1, none⟩ = some (.string t.frm) := fun w' h => (HS4.out.grow h).cell 1 rfl rfl
      have e2 : ∀ w', Below wr.heap.size wr w' → w'.cell? ⟨w.heap.size, 2, none⟩ = some (.string t.to) := fun w' h => (HS4.out.grow h).cell 1 rfl rfl
      have e3 : ∀ w', Below wr.heap.size wr w' → w'.cell? ⟨w.heap.size, 3, none⟩ = some (.int .u64 t.nonce) := fun w' h => (HS4.out.grow h).cell 1 rfl rfl
      have e4 : ∀ w', Below wr.heap.size wr w' → w'.cell? ⟨w.heap.size, 4, none⟩ = some (.int .u64 t.gas) := fun w' h => (HS4.out.grow h).cell 1 rfl rfl
      have e5 : ∀ w', Below wr.heap.size wr w' → w'.cell? ⟨w.heap.size, 5, none⟩ = some (.int .u64 t.p.a) := fun w' h => (HS4.out.grow h).cell 1 rfl rfl
      have e6 : ∀ w', Below wr.heap.size wr w' → w'.cell? ⟨w.heap.size, 6, none⟩ = some (.int .u64 t.p.b) := fun w' h => (HS4.out.grow h).cell 1 rfl rfl
      have e7 : ∀ w', Below wr.heap.size wr w' → w'.cell? ⟨w.heap.size, 7, none⟩ = some (.int .u64 t.p.c) := fun w' h => (HS4.out.grow h).cell 1 rfl rfl
      have e8 : ∀ w', Below wr.heap.size wr w' → w'.cell? ⟨w.heap.size, 8, none⟩ = some (.int .u64 t.p.d) := fun w' h => (HS4.out.grow h).cell 1 rfl rfl
      have e9 : ∀ w', Below wr.heap.size wr w' → w'.cell? ⟨w.heap.size, 9, none⟩ = some (.int .u64 t.q.a) := fun w' h => (HS4.out.grow h).cell 1 rfl rfl
      have e10 : ∀ w', Below wr.heap.size wr w' → w'.cell? ⟨w.heap.size, 10, none⟩ = some (.int .u64 t.q.b) := fun w' h => (HS4.out.grow h).cell 1 rfl rfl
      have e11 : ∀ w', Below wr.heap.size wr w' → w'.cell? ⟨w.heap.size, 11, none⟩ = some (.int .u64 t.q.c) := fun w' h => (HS4.out.grow h).cell 1 rfl rfl
      have e12 : ∀ w', Below wr.heap.size wr w' → w'.cell? ⟨w.heap.size, 12, none⟩ = some (.int .u64 t.q.d) := fun w' h => (HS4.out.grow h).cell 1 rfl rfl
      have e13 : ∀ w', Below wr.heap.size wr w' → w'.cell? ⟨w.heap.size, 13, none⟩ = some (.int .u64 t.v.a) := fun w' h => (HS4.out.grow h).cell 1 rfl rfl
      have e14 : ∀ w', Below wr.heap.size wr w' → w'.cell? ⟨w.heap.size, 14, none⟩ = some (.int .u64 t.v.b) := fun w' h => (HS4.out.grow h).cell 1 rfl rfl
      have e15 : ∀ w', Below wr.heap.size wr w' → w'.cell? ⟨w.heap.size, 15, none⟩ = some (.int .u64 t.v.c) := fun w' h => (HS4.out.grow h).cell 1 rfl rfl
      have e16 : ∀ w', Below wr.heap.size wr w' → w'.cell? ⟨w.heap.size, 16, none⟩ = some (.int .u64 t.v.d) := fun w' h => (HS4.out.grow h).cell 1 rfl rfl
      have e17 : ∀ w', Below wr.heap.size wr w' → w'.cell? ⟨w.heap.size, 17, none⟩ = some (.string t.data) := fun w' h => (HS4.out.grow h).cell 1 rfl rfl
      have e5a : ∀ w', Below wr.heap.size wr w' → w'.cell? ⟨w1.heap.size, 0, none⟩ = some (.bool true) := fun w' h => (HS4.out.grow h).cell 0 rfl rfl
      have e5b : ∀ w', Below wr.heap.size wr w' → w'.cell? ⟨w1.heap.size, 1, none⟩ = some (.string ⟨#[]⟩) := fun w' h => (HS4.out.grow h).cell 0 rfl rfl
      have e5c : ∀ w', Below wr.heap.size wr w' → w'.cell? ⟨w1.heap.size, 2, none⟩ = some (.slice A2 t.acc.length c2) := fun w' h => (HS4.out.grow h).cell 0 rfl rfl
      have hb0 : Below wr.heap.size wr wr := Below.refl _ _
      have hbd : Below wr.heap.size wr wr.drew := (Below.refl _ _).drew
      go_wp2_with fail
      go_region_held3 (fun w' => Below wr.heap.size wr w') (repeat (first | assumption | exact Below.refl _ _ | apply Below.drew | (refine Below.alloc ?_ (by first | exact Nat.le_refl _ | exact Below.size (by assumption) | simp) _))) (first
        | (go_simp; go_at_call 38; (with_reducible refine (retFrom (W := wr) ?_ (HNK.out _)).mono ?_); (first | assumption | exact (Below.refl _ _).drew); rintro _ wq ⟨rfl, hbq⟩)
        | (go_simp; go_at_call 38; (with_reducible refine (retFrom (W := wr) ?_ (HNN.out _)).mono ?_); (first | assumption | exact (Below.refl _ _).drew); rintro _ wq ⟨rfl, hbq⟩)
        | (go_simp; go_at_call 38; (with_reducible refine (retFrom (W := wr) ?_ (HNG.out _)).mono ?_); (first | assumption | exact (Below.refl _ _).drew); rintro _ wq ⟨rfl, hbq⟩)
        | (go_simp; go_at_call 36; (with_reducible refine (retFrom (W := wr) ?_ (HWP.out _)).mono ?_); (first | assumption | exact (Below.refl _ _).drew); rintro _ wq ⟨rfl, hbq⟩)
        | (go_simp; go_at_call 36; (with_reducible refine (retFrom (W := wr) ?_ (HWQ.out _)).mono ?_); (first | assumption | exact (Below.refl _ _).drew); rintro _ wq ⟨rfl, hbq⟩)
        | (go_simp; go_at_call 36; (with_reducible refine (retFrom (W := wr) ?_ (HWV.out _)).mono ?_); (first | assumption | exact (Below.refl _ _).drew); rintro _ wq ⟨rfl, hbq⟩)
        | (go_simp; go_at_call 37; (with_reducible refine (retFrom (W := wr) ?_ (rtext18 t.frm _)).mono ?_); (first | assumption | exact (Below.refl _ _).drew); rintro _ wq ⟨rfl, hbq⟩)
        | (go_simp; go_at_call 37; (with_reducible refine (retFrom (W := wr) ?_ (rtext18 t.to _)).mono ?_); (first | assumption | exact (Below.refl _ _).drew); rintro _ wq ⟨rfl, hbq⟩)
        | (go_simp; go_at_call 37; (with_reducible refine (retFrom (W := wr) ?_ (rtext18 t.data _)).mono ?_); (first | assumption | exact (Below.refl _ _).drew); rintro _ w20 ⟨rfl, hb20⟩))
      all_goals
        have HS20 : Hid (St H w none_ H2 (w20.alloc (.cells #[.bool false, .string (numS t.kind), .slice none 0 0, .bool false, .string t.frm, .slice none 0 0, .bool false, .string (numS t.nonce), .slice none 0 0, .bool false, .string (wordS t.p.a t.p.b t.p.c t.p.d), .slice none 0 0, .bool false, .string (wordS t.q.a t.q.b t.q.c t.q.d), .slice none 0 0, .bool false, .string (numS t.gas), .slice none 0 0, .bool false, .string t.to, .slice none 0 0, .bool false, .string (wordS t.v.a t.v.b t.v.c t.v.d), .slice none 0 0, .bool false, .string t.data, .slice none 0 0, .bool true, .string ⟨#[]⟩, .slice A2 t.acc.length c2] 83)) [own 83 3 (.slice (some ⟨w20.heap.size, 0, none⟩) 10 10) 10 (#[.bool false, .string (numS t.kind), .slice none 0 0, .bool false, .string t.frm, .slice none 0 0, .bool false, .string (numS t.nonce), .slice none 0 0, .bool false, .string (wordS t.p.a t.p.b t.p.c t.p.d), .slice none 0 0, .bool false, .string (wordS t.q.a t.q.b t.q.c t.q.d), .slice none 0 0, .bool false, .string (numS t.gas), .slice none 0 0, .bool false, .string t.to, .slice none 0 0, .bool false, .string (wordS t.v.a t.v.b t.v.c t.v.d), .slice none 0 0, .bool false, .string t.data, .slice none 0 0, .bool true, .string ⟨#[]⟩, .slice A2 t.acc.length c2] : Array Value).toList, blk w1.heap.size (itO (.slice A2 t.acc.length c2)), blk w.heap.size (t.obj (.slice A t.acc.length c))]) := (HS4.out.grow hb20).madeRow #[.bool false, .string (numS t.kind), .slice none 0 0, .bool false, .string t.frm, .slice none 0 0, .bool false, .string (numS t.nonce), .slice none 0 0, .bool false, .string (wordS t.p.a t.p.b t.p.c t.p.d), .slice none 0 0, .bool false, .string (wordS t.q.a t.q.b t.q.c t.q.d), .slice none 0 0, .bool false, .string (numS t.gas), .slice none 0 0, .bool false, .string t.to, .slice none 0 0, .bool false, .string (wordS t.v.a t.v.b t.v.c t.v.d), .slice none 0 0, .bool false, .string t.data, .slice none 0 0, .bool true, .string ⟨#[]⟩, .slice A2 t.acc.length c2] rfl (by decide)
        obtain ⟨H3, hle3, hrep3, S6⟩ := HS20.out.keepOwn 0 rfl (ds := itsD [.text (numS t.kind), .text t.frm, .text (numS t.nonce), .text (wdS t.p), .text (wdS t.q), .text (numS t.gas), .text t.to, .text (wdS t.v), .text t.data, .list (t.acc.map acI)]) (ten_rep _ _ _ _ _ _ _ _ _ HREP2.out (by simp))
        have HREP3 : Hid (RepL H3 [.bool true, .string ⟨#[]⟩, .slice (some ⟨w20.heap.size, 0, none⟩) 10 10] (txI t).d) := Lib.hid (by unfold txI; exact list_rep hrep3 rfl)
        have HS21 := Lib.hid S6
        have HSH := Lib.hid (txI_short HB.out)
        have HLN := Lib.hid (Nat.le_trans (txI_le HB.out) (show 1000000 ≤ 1099511627776 by decide))
        clear S6 hrep3 hle3 HS20
        go_wp2_with fail
        refine (renc_ok (txI t) HSH.out H3 _ _ _ _ HS21.out.ag HREP3.out HLN.out).mono ?_
        rintro e w21 ⟨rfl, hb21⟩
        have HS22 := Lib.hid (HS21.out.grow hb21)
        go_wp2_with fail
        go_ret2
        exact ⟨rfl, HS22.out.below⟩
theorem rencode_any (t : TxS) (s : Value) (H : Hs) (w : World) (hw : Ag H w) (hs : RepV H s (accsD t.acc)) (hf : t.fits) :
    Calls Try.prog 27 #[.agg (t.cells s)] w (RetV (.tuple #[.string (encR t).1, .bool (encR t).2]) w) := by
  cases h : rightB t with
  | false =>
    have e : encR t = (⟨#[]⟩, false) := by unfold encR; rw [h]; rfl
    rw [e]
    exact rencode_no t s H w hw hs h
  | true =>
    have e : encR t = ((txI t).bytes, true) := by unfold encR; rw [h]; rfl
    rw [e]
    obtain ⟨A, c, cs, rfl, _⟩ := hs.sl_inv
    exact rencode_yes t A c H w hw hs hf h
end Go.Proofs.Ytfphlkkhpccpnaa
