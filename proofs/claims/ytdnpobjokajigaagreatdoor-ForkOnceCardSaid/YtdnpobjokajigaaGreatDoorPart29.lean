/-
  ForkOnce, plain.
  Several ways of a walk that end alike are shown once: the end is taken as a hypothesis whose statement is found on the first way ('refine'' share ?_ ?_; rotate_left'; on each way 'revert ..; exact L.out').
-/
import Derived.Test.YtdnpobjokajigaaGreatDoorPart28
import Derived.WalkKit
namespace Go.Proofs.YtdnpobjokajigaaGreatDoor
open Go.RowKit Go.Proofs K
set_option linter.unusedVariables false

/-! ### Frames are read back -/
theorem four_list {n : Int} : (fourS n).data.toList = (sumL n).map fun z => UInt8.ofNat z.toNat := by simp [fourS, strOfNums]
theorem four_num {n : Nat} (h : n < 4294967296) (r : List UInt8) : numI ((fourS (n : Int)).data.toList ++ r) = n := by
  have e : ∀ k : Nat, k < 256 → (UInt8.ofNat k).toNat = k := fun k hk => by rw [UInt8.toNat_ofNat']; omega
  have h0 : ((n : Int) / 16777216).toNat = n / 16777216 := by omega
  have h1 : ((n : Int) / 65536 % 256).toNat = n / 65536 % 256 := by omega
  have h2 : ((n : Int) / 256 % 256).toNat = n / 256 % 256 := by omega
  have h3 : ((n : Int) % 256).toNat = n % 256 := by omega
  rw [four_list]
  unfold numI sumL
  simp only [List.map_cons, List.map_nil, List.cons_append, List.nil_append, List.getD_cons_zero, List.getD_cons_succ, h0, h1, h2, h3]
  rw [e _ (by omega), e _ (by omega), e _ (by omega), e _ (by omega)]
  omega
theorem frame_list (s : ByteArray) : (frameB s).data.toList = (fourS (s.size : Int)).data.toList ++ ((fourS (crcI (crcI 0 (fourS (s.size : Int))) s)).data.toList ++ s.data.toList) := by
  unfold frameB
  rw [data_append, data_append, List.append_assoc]
theorem four_len (n : Int) : (fourS n).data.toList.length = 4 := by rw [sizeL, fourS_size]
theorem one_frame (s : ByteArray) (r : List UInt8) (hs : s.size ≤ 65536) : oneB ((frameB s).data.toList ++ r) = (s.data.toList, true) := by
  have hl := frame_len s
  have hn : numI ((frameB s).data.toList ++ r) = s.size := by
    rw [frame_list, List.append_assoc]
    exact four_num (by omega) _
  have ht : ((frameB s).data.toList ++ r).take 4 = (fourS (s.size : Int)).data.toList := by
    rw [frame_list, List.append_assoc, List.take_left' (four_len _)]
  have hd : ((frameB s).data.toList ++ r).drop 4 = (fourS (crcI (crcI 0 (fourS (s.size : Int))) s)).data.toList ++ (s.data.toList ++ r) := by
    rw [frame_list, List.append_assoc, List.drop_left' (four_len _), List.append_assoc]
  have hd8 : ((frameB s).data.toList ++ r).drop 8 = s.data.toList ++ r := by
    rw [show 8 = 4 + 4 from rfl, ← List.drop_drop, hd, List.drop_left' (four_len _)]
  have hc : 0 ≤ crcI (crcI 0 (fourS (s.size : Int))) s ∧ crcI (crcI 0 (fourS (s.size : Int))) s < 4294967296 := cnot_bd _
  have hcn : (numI (((frameB s).data.toList ++ r).drop 4) : Int) = crcI (crcI 0 (fourS (s.size : Int))) s := by
    obtain ⟨k, hk⟩ := Int.eq_ofNat_of_zero_le hc.1
    rw [hd, hk]
    have := four_num (n := k) (by omega) (s.data.toList ++ r)
    rw [this]
  have htk : ((((frameB s).data.toList ++ r).drop 8).take s.size) = s.data.toList := by
    rw [hd8, List.take_left' (sizeL s)]
  unfold oneB
  rw [if_neg (by rw [List.length_append, hl]; omega), hn, if_neg (by rw [List.length_append, hl]; omega), htk, ht, bs_list, bs_list, hcn]
  rw [decide_eq_true rfl]
theorem frames_cons (s : ByteArray) (r : List UInt8) (hs : s.size ≤ 65536) : framesL ((frameB s).data.toList ++ r) = s.data.toList :: framesL r := by
  have h := one_frame s r hs
  rw [framesL_step (by rw [h]), h]
  congr 2
  rw [List.drop_left' (by rw [frame_len, sizeL])]
theorem frames_nil : framesL [] = [] := rfl
/-- What was laid down of an ask is known anew. -/
theorem learn_rec {K : List (AskS × ReplyS)} {x : AskS} {r : ReplyS} (hid : x.id = 0) (ha : W64 x.a) (hb : W64 x.b) (hc : W64 x.c) (hd : W64 x.d) (hx : AskOk 0 x.addr x.a x.b x.c x.d x.kind) (hr : r.id = 0) (hg : gotF x.kind (r.put x.kind).data.toList = some r) (hs : (recB x r).size ≤ 65536) :
    learnOne K (recB x r).data.toList = putR K x r := by
  have h1 : decF (recB x r).data.toList = some (.list [.text (x.put x.id), .text (r.put x.kind)]) := by
    unfold recB
    have := decF_put (ts := [x.put x.id, r.put x.kind]) (by rw [sizeL]; exact hs)
    exact this
  have h2 : gotA (x.put x.id).data.toList = some x := by
    rw [hid, gotA_put (n := 0) ⟨by decide, by decide⟩ ha hb hc hd hx]
    obtain ⟨i, s, a, b, c, d, k⟩ := x
    simp only at hid
    rw [hid]
  rw [learn_rep h1 h2 hid, hg]
  simp only
  rw [if_pos hr]
/-! ### A reply that is none -/
def wrongB : ByteArray := ⟨#[119, 114, 111, 110, 103]⟩
theorem wrong_none (k : Int) : gotF k wrongB.data.toList = none := by
  unfold gotF
  rw [if_neg]
  intro h
  have h2 := h.1.2
  revert h2
  decide +kernel
/-- Some that are none, ahead. -/
theorem ask_wrongs (x : AskS) (D : Dk) : ∀ (k m : Nat) (C : Cl) (rest : List ByteArray), C.script = List.replicate k wrongB ++ rest → k ≤ m →
    ∃ C' : Cl, askN m C D x = askN (m - k) C' D x ∧ C'.script = rest ∧ C'.next = C.next + k ∧ C'.asked.length = C.asked.length + k ∧ C'.known = C.known ∧ C'.name = C.name
  | 0, m, C, rest, h, _ => ⟨C, rfl, h, by simp, rfl, rfl, rfl⟩
  | k + 1, m, C, rest, h, hk => by
    obtain ⟨m', rfl⟩ : ∃ m', m = m' + 1 := ⟨m - 1, by omega⟩
    have h' : C.script = wrongB :: (List.replicate k wrongB ++ rest) := by rw [h, List.replicate_succ]; rfl
    obtain ⟨C', e1, e2, e3, e4, e5, e6⟩ := ask_wrongs x D k m' (C.asks x (List.replicate k wrongB ++ rest)) rest rfl (by omega)
    refine ⟨C', ?_, e2, ?_, ?_, e5, e6⟩
    · rw [ask_miss (x := x) h' (fun G hG => by rw [wrong_none] at hG; cases hG), e1, show m' + 1 - (k + 1) = m' - k by omega]
    · rw [e3]; show C.next + 1 + (k : Int) = _; omega
    · rw [e4]; simp [Cl.asks]; omega
def onS (n : Nat) (xn xa xb xc xd : Int) (code : ByteArray) : ByteArray := (putReplyR 1 ((n : Int) + 1) xn xa xb xc xd code 0 0 0 0).1
def onT (n : Nat) (e f g h : Int) : ByteArray := (putReplyR 2 ((n : Int) + 2) 0 0 0 0 0 ⟨#[]⟩ e f g h).1
def onC (n : Nat) (s t : ByteArray) : Cl := { freshC with script := List.replicate n wrongB ++ [s, t] }
theorem once_many {n : Nat} (hn : 3 ≤ n) (s t : ByteArray) (D : Dk) (T : Told) (hT : T = askF0 (onC n s t) D (accX (addrB 0))) : T.out = none ∧ T.err = 4 ∧ T.c.asked.length = 3 ∧ T.c.known.length = 0 ∧ T.c.script.length = n + 2 - 3 := by
  obtain ⟨C', e1, e2, e3, e4, e5, e6⟩ := ask_wrongs (accX (addrB 0)) D 3 3 (onC n s t) (List.replicate (n - 3) wrongB ++ [s, t]) (by
    show List.replicate n wrongB ++ [s, t] = _
    rw [← List.append_assoc, List.replicate_append_replicate, show 3 + (n - 3) = n by omega]) (by omega)
  rw [ask_new rfl rfl, e1] at hT
  rw [hT]
  refine ⟨rfl, rfl, ?_, ?_, ?_⟩
  · show C'.asked.length = 3; rw [e4]; rfl
  · show C'.known.length = 0; rw [e5]; rfl
  · show C'.script.length = _; rw [e2]; simp; omega
def OnceP (n : Nat) (R V : ReplyS) (x y : AskS) (T1 T2 T3 U1 U2 : Told) (E : Cl) : Prop :=
  T1.out = some R ∧ T1.err = 0 ∧ T2.out = some V ∧ T2.err = 0 ∧ T3.out = some R ∧ T3.err = 0 ∧ T3.c.asked.length = n + 2 ∧ U1.out = some R ∧ U1.err = 0 ∧ U2.out = some V ∧ U2.err = 0 ∧ U2.c.asked.length = 0 ∧ U2.c.known.length = 2
theorem once_plain {n : Nat} (hn : n < 3) {xn xa xb xc xd k0 k1 k2 k3 e f g h : Int} {code : ByteArray} (hcode : code.size ≤ 60) (wn : W64 xn) (wa : W64 xa) (wb : W64 xb) (wc : W64 xc) (wd : W64 xd) (v0 : W64 k0) (v1 : W64 k1) (v2 : W64 k2) (v3 : W64 k3) (we : W64 e) (wf : W64 f) (wg : W64 g) (wh : W64 h)
    (T1 T2 T3 U1 U2 : Told) (E : Cl) (h1 : T1 = askF0 (onC n (onS n xn xa xb xc xd code) (onT n e f g h)) (freshD 100000) (accX (addrB 0))) (h2 : T2 = askF0 T1.c T1.d (sltX (addrB 0) k0 k1 k2 k3)) (h3 : T3 = askF0 T2.c T2.d (accX (addrB 0)))
    (hE : E = newC T3.d nameC) (h4 : U1 = askF0 E T3.d (accX (addrB 0))) (h5 : U2 = askF0 U1.c U1.d (sltX (addrB 0) k0 k1 k2 k3)) :
    OnceP n ⟨0, xn, xa, xb, xc, xd, code, 0, 0, 0, 0⟩ ⟨0, 0, 0, 0, 0, 0, ⟨#[]⟩, e, f, g, h⟩ (accX (addrB 0)) (sltX (addrB 0) k0 k1 k2 k3) T1 T2 T3 U1 U2 E := by
  obtain ⟨x, hx⟩ : ∃ x, x = accX (addrB 0) := ⟨_, rfl⟩
  obtain ⟨y, hy⟩ : ∃ y, y = sltX (addrB 0) k0 k1 k2 k3 := ⟨_, rfl⟩
  obtain ⟨R, hR⟩ : ∃ R : ReplyS, R = ⟨0, xn, xa, xb, xc, xd, code, 0, 0, 0, 0⟩ := ⟨_, rfl⟩
  obtain ⟨V, hV⟩ : ∃ V : ReplyS, V = ⟨0, 0, 0, 0, 0, 0, ⟨#[]⟩, e, f, g, h⟩ := ⟨_, rfl⟩
  obtain ⟨s, hs⟩ : ∃ s, s = onS n xn xa xb xc xd code := ⟨_, rfl⟩
  obtain ⟨t, ht⟩ : ∃ t, t = onT n e f g h := ⟨_, rfl⟩
  have hxk : x.kind = 1 := by rw [hx]; rfl
  have hyk : y.kind = 2 := by rw [hy]; rfl
  have hxs : x.addr.size = 20 := by rw [hx]; rfl
  have hys : y.addr.size = 20 := by rw [hy]; rfl
  have hxy : x ≠ y := by intro hc; have := congrArg AskS.kind hc; rw [hxk, hyk] at this; cases this
  have wid1 : W64 ((n : Int) + 1) := ⟨by omega, by omega⟩
  have wid2 : W64 ((n : Int) + 2) := ⟨by omega, by omega⟩
  have hg : gotF x.kind s.data.toList = some ⟨(n : Int) + 1, xn, xa, xb, xc, xd, code, 0, 0, 0, 0⟩ := by rw [hxk, hs]; exact gotF_one wid1 wn wa wb wc wd (by omega)
  have hg' : gotF y.kind t.data.toList = some ⟨(n : Int) + 2, 0, 0, 0, 0, 0, ⟨#[]⟩, e, f, g, h⟩ := by rw [hyk, ht]; exact gotF_two wid2 we wf wg wh
  have hz : (⟨(n : Int) + 1, xn, xa, xb, xc, xd, code, 0, 0, 0, 0⟩ : ReplyS).zeroId = R := by rw [hR]; rfl
  have hz' : (⟨(n : Int) + 2, 0, 0, 0, 0, 0, ⟨#[]⟩, e, f, g, h⟩ : ReplyS).zeroId = V := by rw [hV]; rfl
  have w00 : W64 0 := ⟨by decide, by decide⟩
  have hRp : (R.put x.kind).size ≤ 160 := by rw [hxk, hR]; exact Nat.le_trans (one_size (by show code.size ≤ _; omega)) (by show 100 + code.size ≤ _; omega)
  have hVp : (V.put y.kind).size ≤ 160 := by rw [hyk, hV]; exact Nat.le_trans two_size (by decide)
  have hr1 := rec_size hxs hRp
  have hr2 := rec_size hys hVp
  rw [← hx, ← hs, ← ht] at h1
  rw [← hy] at h2 h5
  rw [← hx] at h3 h4
  unfold OnceP
  rw [← hR, ← hV]
  obtain ⟨C', e1, e2, e3, e4, e5, e6⟩ := ask_wrongs x (freshD 100000) n 3 (onC n s t) [s, t] rfl (by omega)
  have hn1 : C'.next = (n : Int) + 1 := by rw [e3]; show (1 : Int) + n = _; omega
  rw [ask_new hxs rfl, e1, show 3 - n = (2 - n) + 1 by omega, ask_hit (x := x) e2 hg hn1.symm, hz, show C'.name = nameC from e6, add_fits (freshD_calm _) (by omega) (by show ((0 : Nat) : Int) + 8 + _ ≤ 100000; omega), if_pos rfl] at h1
  obtain ⟨D1, hD1⟩ : ∃ D1, D1 = addedD (freshD 100000) nameC (recB x R) := ⟨_, rfl⟩
  have hc1 : D1.calm := by rw [hD1]; exact added_calm (freshD_calm _) _ _
  have hu1 : used D1.files = 8 + (recB x R).size := by rw [hD1, added_used]; show 0 + _ = _; omega
  have hm1 : D1.room = 100000 := by rw [hD1]; rfl
  have hread1 : readF D1.files nameC = some ([] ++ (frameB (recB x R)).data.toList) := by rw [hD1, added_read]; rfl
  rw [← hD1] at h1
  have hk1 : ((C'.asks x [t]).learn x R).known = [(x, R)] := by show putR C'.known x R = _; rw [e5]; rfl
  subst h1
  have hl2 : lookR ((C'.asks x [t]).learn x R).known y = none := by rw [hk1]; simp [lookR, hxy]
  have hnm2 : ((C'.asks x [t]).learn x R).name = nameC := e6
  rw [ask_new hys hl2, ask_hit (x := y) (C := (C'.asks x [t]).learn x R) rfl hg' (by show (n : Int) + 2 = C'.next + 1; rw [hn1]; omega), hz', hnm2, add_fits hc1 (by omega) (by rw [hu1, hm1]; omega), if_pos rfl] at h2
  obtain ⟨D2, hD2⟩ : ∃ D2, D2 = addedD D1 nameC (recB y V) := ⟨_, rfl⟩
  have hread2 : readF D2.files nameC = some ((frameB (recB x R)).data.toList ++ (frameB (recB y V)).data.toList) := by rw [hD2, added_read, hread1]; rfl
  rw [← hD2] at h2
  have hk2 : ((((C'.asks x [t]).learn x R).asks y []).learn y V).known = [(x, R), (y, V)] := by show putR ((C'.asks x [t]).learn x R).known y V = _; rw [hk1]; simp [putR, hxy]
  subst h2
  rw [ask_known (r := R) hxs (by rw [hk2]; simp [lookR])] at h3
  subst h3
  have hE2 : E = ⟨nameC, [(x, R), (y, V)], [], [], 1⟩ := by
    rw [hE]
    unfold newC
    rw [show readF ((Told.mk (some R) 0 ((((C'.asks x [t]).learn x R).asks y []).learn y V) D2).d).files nameC = _ from hread2, Option.getD_some]
    rw [frames_cons _ _ (by omega), show (frameB (recB y V)).data.toList = (frameB (recB y V)).data.toList ++ [] by simp, frames_cons _ _ (by omega), frames_nil]
    have l1 : learnOne [] (recB x R).data.toList = putR [] x R := learn_rec (by rw [hx]; rfl) (by rw [hx]; exact ⟨by decide, by decide⟩) (by rw [hx]; exact ⟨by decide, by decide⟩) (by rw [hx]; exact ⟨by decide, by decide⟩) (by rw [hx]; exact ⟨by decide, by decide⟩) (by rw [hx]; exact ⟨rfl, .inr ⟨rfl, rfl, rfl, rfl, rfl⟩⟩) (by rw [hR]) (by
      rw [hxk, hR]
      exact gotF_one (id := 0) (code := code) w00 wn wa wb wc wd (by omega)) (by omega)
    have l2 : learnOne (putR [] x R) (recB y V).data.toList = putR (putR [] x R) y V := learn_rec (by rw [hy]; rfl) (by rw [hy]; exact v0) (by rw [hy]; exact v1) (by rw [hy]; exact v2) (by rw [hy]; exact v3) (by rw [hy]; exact ⟨rfl, .inl rfl⟩) (by rw [hV]) (by
      rw [hyk, hV]
      exact gotF_two (id := 0) w00 we wf wg wh) (by omega)
    unfold learnL
    simp only [List.foldl_cons, List.foldl_nil, l1, l2]
    simp [putR, hxy]
  rw [ask_known (r := R) hxs (by rw [hE2]; simp [lookR])] at h4
  subst h4
  rw [ask_known (r := V) hys (by show lookR E.known y = _; rw [hE2]; simp [lookR, hxy])] at h5
  subst h5
  refine ⟨rfl, rfl, rfl, rfl, rfl, rfl, ?_, rfl, rfl, rfl, rfl, ?_, ?_⟩
  · show ((C'.asked ++ [x.put C'.next]) ++ [y.put (C'.next + 1)]).length = n + 2
    rw [List.length_append, List.length_append, e4]
    show 0 + n + 1 + 1 = _
    omega
  · show E.asked.length = 0; rw [hE2]; rfl
  · show E.known.length = 2; rw [hE2]; rfl
end Go.Proofs.YtdnpobjokajigaaGreatDoor

namespace Go.Proofs.YtdnpobjokajigaaGreatDoor
set_option linter.unusedVariables false
structure Box (P : Prop) : Prop where
  out : P
theorem share {P G : Prop} (h : Box P → G) (p : P) : G := h ⟨p⟩
end Go.Proofs.YtdnpobjokajigaaGreatDoor
