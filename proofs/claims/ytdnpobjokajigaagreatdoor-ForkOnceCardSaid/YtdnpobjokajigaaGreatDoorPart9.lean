/-
  A struct stored into the middle of a block that one has.
  What is told, read.
  What is told by bytes.
-/
import Derived.Test.YtdnpobjokajigaaGreatDoorK
import Derived.Deep.MidRow
import Derived.Test.YtdnpobjokajigaaGreatDoorPart7
namespace Go.Proofs.YtdnpobjokajigaaGreatDoor
open Go.RowKit Go.Proofs K
namespace K
section
variable {H0 H : Hs} {w0 w : World} {X : Nat → Prop} {ps : List Hp}
def setL (cs : Array Value) (o : Nat) : List Value → Array Value
  | [] => cs
  | v :: r => setL (cs.setIfInBounds o v) (o + 1) r
theorem St.setCells {b : Nat} {t : TypeId} {fr : Nat × Nat} : ∀ (vs : List Value) (o : Nat) (w : World) (ps : List Hp) (cs : Array Value) (_ : St H0 w0 X H w ps) (i : Nat) (_ : ps[i]? = some (blk b (.cells cs t fr))),
    St H0 w0 X H (w.setCells b o vs) (blk b (.cells (setL cs o vs) t fr) :: ps.eraseIdx i)
  | [], o, w, ps, cs, h, i, hi => by
    have := h.pick i hi
    exact this
  | v :: r, o, w, ps, cs, h, i, hi => by
    have := St.setCells r (o + 1) _ _ _ (h.setCell (j := o) i hi v) 0 rfl
    exact this
theorem wpList_mid_st {P : Program} {ops : Array Oper} {rest : List Oper} {op : Oper} {a : Act} {Q : Exit → Act → World → Prop} {b : Nat} {cs old : Array Value} {t : TypeId} (i : Nat) (S : St H0 w0 X H w ps) (hi : ps[i]? = some (blk b (.cells old t (0, 0))))
    (hgd : op.guard = none) (ty : TypeId) (x y : Operand) (ho : op.op = .store ty x y) (o : Nat) (hx : a.eval x = .pointer (some ⟨b, o, none⟩)) (hy : a.eval y = .agg cs)
    (hs : (P.info? ty).map (·.size) = some cs.size) (hold : o + cs.size ≤ old.size) (h1 : cs.all (·.oneCell') = true)
    (h : ∀ w', St H0 w0 X H w' (blk b (.cells (setL old o cs.toList) t (0, 0)) :: ps.eraseIdx i) → wpList P ops Q rest (a.put op.dst undef) w') : wpList P ops Q (op :: rest) a w := by
  refine wpList_store_mid hgd ty x y ho b o cs hx hy (fun j hj => ⟨?_, S.frozen i hi _⟩) hs h1 (h _ (St.setCells cs.toList o w ps old S i hi))
  rw [S.cell i hi (j := o + j) (v := old[o + j]'(by omega)) (by simp)]
  rfl
end
end K
end Go.Proofs.YtdnpobjokajigaaGreatDoor

namespace Go.Proofs.YtdnpobjokajigaaGreatDoor
open Go.RowKit Go.Proofs K

def accC (nonce a b c d : Int) (code : ByteArray) : Array Value := #[.int .u64 nonce, .int .u64 a, .int .u64 b, .int .u64 c, .int .u64 d, .string code]
theorem szAcc : (Tryz.prog.info? 26).map (·.size) = some 6 := by kernel_rfl
theorem oneAcc (nonce a b c d : Int) (code : ByteArray) : (accC nonce a b c d code).all (·.oneCell') = true := by simp [accC, Value.oneCell']
section
variable {H0 H : Hs} {w0 w : World} {X : Nat → Prop} {ps : List Hp} {q : Nat}
set_option maxRecDepth 100000 in
set_option maxHeartbeats 4000000 in
theorem reply_any (kind : Int) (kb : Nat) (hkb : H kb = some (.cells #[.int .i64 kind] 3 (0, 0))) (l : List It) (hl : l.length ≤ 65536) (S : St H0 w0 X H w ps) (i : Nat) {v : Value} (hi : ps[i]? = some (blk q (fldO v))) (hv : RepV H v (.sl 3 l.length (itsD l))) :
    Calls Tryz.prog 125 #[.pointer (some ⟨q, 0, none⟩), .pointer (some ⟨kb, 0, none⟩)] w (FldP ((replyR kind l).map fun x => (.agg x.1, x.2)) H0 H w0 X q (ps.eraseIdx i)) := by
  have hp : ∀ w, (Instr.panic (.iface 235 (.agg #[]))).run Tryz.prog w = .halt (.panic (.iface 235 (.agg #[]))) w := fun _ => rfl
  have hka : ∀ (w' : World), Ag H w' → w'.cell? ⟨kb, 0, none⟩ = some (.int .i64 kind) := fun w' h => by rw [cell_of_row _ _ _ _ _ _ (h _ _ hkb)]; rfl
  have HKA := Lib.hid hka
  clear hka hkb
  have HS := Lib.hid (S.alloc (.cells zReply 37))
  have HI := Lib.hid hi
  have HV := Lib.hid hv
  have HLN := Lib.hid hl
  clear S hi hv hl
  go_enter Tryz.func125, Tryz.ntmps125
  go_wp2_with fail
  refine (fnumber_any l HLN.out HS.out (i + 1) HI.out HV.out).mono ?_
  intro e w1 hM
  cases h1 : numR l with
  | none =>
    rw [h1] at hM
    obtain ⟨rfl, S1⟩ := hM
    have HP := Lib.hid (show replyR kind l = none by simp [replyR, h1])
    clear h1
    go_wp2_with fail
    exact bodyPost_pan rfl (by rw [HP.out]; exact ⟨rfl, (S1).drop 0⟩)
  | some z1 =>
    obtain ⟨id, l1⟩ := z1
    rw [h1] at hM
    obtain ⟨v1, rfl, hv1, S1⟩ := hM
    have HS1 : Hid (St H0 w0 X H w1 (blk q (fldO v1) :: blk w.heap.size (.cells zReply 37) :: ps.eraseIdx i)) := S1
    have HV1 := Lib.hid hv1
    have H1 := Lib.hid h1
    have ck1 := HKA.out _ S1.ag
    have hkl : kb < w1.heap.size := World.block_lt_of_cell? _ _ ck1
    have HT := Lib.hid (HS1.out.alloc (.cells (replyC id 0 0 0 0 0 ⟨#[]⟩ 0 0 0 0) 37))
    clear S1 hv1 h1 HS
    by_cases hk : kind = 2
    · have e1 : (kind == 2) = true := beq_iff_eq.2 hk
      have HK := Lib.hid hk
      clear hk
      go_wp2_with fail
      refine (fword_any l1 (Nat.le_trans (numR_len H1.out) HLN.out) HT.out 1 rfl HV1.out).mono ?_
      intro e w2 hM
      cases h2 : txtR 32 l1 with
      | none =>
        rw [h2] at hM
        obtain ⟨rfl, S2⟩ := hM
        have HP := Lib.hid (show replyR kind l = none by simp [replyR, H1.out, h2, HK.out])
        clear h2
        go_wp2_with fail
        exact bodyPost_pan rfl (by rw [HP.out]; exact ⟨rfl, ((S2).drop 0).drop 0⟩)
      | some z2 =>
        obtain ⟨sl, l2⟩ := z2
        rw [h2] at hM
        obtain ⟨v2, rfl, hv2, S2⟩ := hM
        have HP : Hid (replyR kind l = some (replyC id 0 0 0 0 0 ⟨#[]⟩ (ofL sl sl.size 3) (ofL sl sl.size 2) (ofL sl sl.size 1) (ofL sl sl.size 0), l2)) := by
          unfold Hid
          simp [replyR, H1.out, h2, HK.out]
        unfold ofV
        obtain ⟨a, ha⟩ : ∃ a, a = ofL sl sl.size 3 := ⟨_, rfl⟩
        obtain ⟨b, hb⟩ : ∃ b, b = ofL sl sl.size 2 := ⟨_, rfl⟩
        obtain ⟨c, hc⟩ : ∃ c, c = ofL sl sl.size 1 := ⟨_, rfl⟩
        obtain ⟨d, hd⟩ : ∃ d, d = ofL sl sl.size 0 := ⟨_, rfl⟩
        rw [← ha, ← hb, ← hc, ← hd] at HP ⊢
        have HS5 : Hid (St H0 w0 X H w2 (blk q (fldO v2) :: blk w1.heap.size (.cells (replyC id 0 0 0 0 0 ⟨#[]⟩ 0 0 0 0) 37) :: blk w.heap.size (.cells zReply 37) :: ps.eraseIdx i)) := S2
        have HV2 := Lib.hid hv2
        have c7 : w2.cell? ⟨w1.heap.size, 7, none⟩ = some (.int .u64 0) := HS5.out.cell 1 rfl rfl
        have g7 := HS5.out.frozen 1 rfl 7
        have c8 : w2.cell? ⟨w1.heap.size, 8, none⟩ = some (.int .u64 0) := HS5.out.cell 1 rfl rfl
        have g8 := HS5.out.frozen 1 rfl 8
        have c9 : w2.cell? ⟨w1.heap.size, 9, none⟩ = some (.int .u64 0) := HS5.out.cell 1 rfl rfl
        have g9 := HS5.out.frozen 1 rfl 9
        have c10 : w2.cell? ⟨w1.heap.size, 10, none⟩ = some (.int .u64 0) := HS5.out.cell 1 rfl rfl
        have g10 := HS5.out.frozen 1 rfl 10
        have HS6 : Hid (St H0 w0 X H _ (blk w1.heap.size (.cells (replyC id 0 0 0 0 0 ⟨#[]⟩ a b c d) 37) :: blk q (fldO v2) :: blk w.heap.size (.cells zReply 37) :: ps.eraseIdx i)) := Lib.hid ((((HS5.out.setCell (j := 7) 1 rfl (.int .u64 a)).setCell (j := 8) 0 rfl (.int .u64 b)).setCell (j := 9) 0 rfl (.int .u64 c)).setCell (j := 10) 0 rfl (.int .u64 d))
        clear S2 hv2 h2 HT ha hb hc hd HS5
        go_wp2_with (first
          | (refine wpList_load_st (cs := replyC id 0 0 0 0 0 ⟨#[]⟩ a b c d) 0 HS6.out rfl rfl 37 (.tmp 4) rfl rfl _ Tryz.underlying37 rfl szReply ?_)
          | (refine wpList_store_st (cs := replyC id 0 0 0 0 0 ⟨#[]⟩ a b c d) 2 HS6.out rfl rfl 37 (.tmp 3) (.tmp 13) rfl rfl rfl szReply rfl (oneReply _ _ _ _ _ _ _ _ _ _ _) ?_)
          | fail)
        intro w8 S8
        go_wp2_with fail
        exact post_cell 0 S8 rfl Tryz.results125 rfl _ Tryz.underlying37 rfl szReply rfl (by rw [HP.out]; exact ⟨v2, rfl, HV2.out, (S8.drop 0).drop 0⟩)
    · have e1 : (kind == 2) = false := beq_eq_false_iff_ne.2 hk
      have HK := Lib.hid hk
      clear hk
      go_wp2_with fail
      refine (fnumber_any l1 (Nat.le_trans (numR_len H1.out) HLN.out) HT.out 1 rfl HV1.out).mono ?_
      intro e w2 hM
      cases h2 : numR l1 with
      | none =>
        rw [h2] at hM
        obtain ⟨rfl, S2⟩ := hM
        have HP := Lib.hid (show replyR kind l = none by simp [replyR, H1.out, h2, HK.out])
        clear h2
        go_wp2_with fail
        exact bodyPost_pan rfl (by rw [HP.out]; exact ⟨rfl, ((S2).drop 0).drop 0⟩)
      | some z2 =>
        obtain ⟨nonce, l2⟩ := z2
        rw [h2] at hM
        obtain ⟨v2, rfl, hv2, S2⟩ := hM
        have HT2 : Hid (St H0 w0 X H w2 (blk q (fldO v2) :: blk w1.heap.size (.cells (replyC id 0 0 0 0 0 ⟨#[]⟩ 0 0 0 0) 37) :: blk w.heap.size (.cells zReply 37) :: ps.eraseIdx i)) := S2
        have HV2 := Lib.hid hv2
        have H2 := Lib.hid h2
        clear S2 hv2 h2 HT
        go_wp2_with fail
        refine (fword_any l2 (Nat.le_trans (numR_len H2.out) (Nat.le_trans (numR_len H1.out) HLN.out)) HT2.out 0 rfl HV2.out).mono ?_
        intro e w3 hM
        cases h3 : txtR 32 l2 with
        | none =>
          rw [h3] at hM
          obtain ⟨rfl, S3⟩ := hM
          have HP := Lib.hid (show replyR kind l = none by simp [replyR, H1.out, H2.out, h3, HK.out])
          clear h3
          go_wp2_with fail
          exact bodyPost_pan rfl (by rw [HP.out]; exact ⟨rfl, ((S3).drop 0).drop 0⟩)
        | some z3 =>
          obtain ⟨sl, l3⟩ := z3
          rw [h3] at hM
          obtain ⟨v3, rfl, hv3, S3⟩ := hM
          unfold ofV
          obtain ⟨a, ha⟩ : ∃ a, a = ofL sl sl.size 3 := ⟨_, rfl⟩
          obtain ⟨b, hb⟩ : ∃ b, b = ofL sl sl.size 2 := ⟨_, rfl⟩
          obtain ⟨c, hc⟩ : ∃ c, c = ofL sl sl.size 1 := ⟨_, rfl⟩
          obtain ⟨d, hd⟩ : ∃ d, d = ofL sl sl.size 0 := ⟨_, rfl⟩
          have HT3 : Hid (St H0 w0 X H w3 (blk q (fldO v3) :: blk w1.heap.size (.cells (replyC id 0 0 0 0 0 ⟨#[]⟩ 0 0 0 0) 37) :: blk w.heap.size (.cells zReply 37) :: ps.eraseIdx i)) := S3
          rw [← ha, ← hb, ← hc, ← hd]
          have HABCD := Lib.hid (And.intro ha (And.intro hb (And.intro hc hd)))
          have HV3 := Lib.hid hv3
          have H3 := Lib.hid h3
          clear S3 hv3 h3 HT2 ha hb hc hd
          go_wp2_with fail
          refine (ftext_any l3 (Nat.le_trans (txtR_len H3.out) (Nat.le_trans (numR_len H2.out) (Nat.le_trans (numR_len H1.out) HLN.out))) (-1) HT3.out 0 rfl HV3.out).mono ?_
          intro e w4 hM
          cases h4 : txtR (-1) l3 with
          | none =>
            rw [h4] at hM
            obtain ⟨rfl, S4⟩ := hM
            have HP := Lib.hid (show replyR kind l = none by simp [replyR, H1.out, H2.out, H3.out, h4, HK.out])
            clear h4
            go_wp2_with fail
            exact bodyPost_pan rfl (by rw [HP.out]; exact ⟨rfl, ((S4).drop 0).drop 0⟩)
          | some z4 =>
            obtain ⟨code, l4⟩ := z4
            rw [h4] at hM
            obtain ⟨v4, rfl, hv4, S4⟩ := hM
            have HT4 : Hid (St H0 w0 X H w4 (blk q (fldO v4) :: blk w1.heap.size (.cells (replyC id 0 0 0 0 0 ⟨#[]⟩ 0 0 0 0) 37) :: blk w.heap.size (.cells zReply 37) :: ps.eraseIdx i)) := S4
            have HV4 := Lib.hid hv4
            have H4 := Lib.hid h4
            clear S4 hv4 h4 HT3
            go_wp2_with (first
              | (refine wpList_mid_st (cs := accC nonce a b c d code) 1 HT4.out rfl rfl 26 (.tmp 21) (.tmp 20) rfl 1 rfl rfl szAcc (by show (1 + 6 : Nat) ≤ 11; omega) (oneAcc _ _ _ _ _ _) ?_)
              | fail)
            intro w5 S5
            have HS6 : Hid (St H0 w0 X H w5 (blk w1.heap.size (.cells (replyC id nonce a b c d code 0 0 0 0) 37) :: blk q (fldO v4) :: blk w.heap.size (.cells zReply 37) :: ps.eraseIdx i)) := S5
            have c6 : w5.cell? ⟨w1.heap.size, 6, none⟩ = some (.string code) := HS6.out.cell 0 rfl rfl
            clear S5 HT4
            by_cases hc : 24576 < code.size
            · have HP : Hid (replyR kind l = none) := by
                unfold Hid
                simp [replyR, H1.out, H2.out, H3.out, H4.out, HK.out, hc]
              have hc' : (24576 : Int) < (code.size : Int) := by omega
              clear hc
              go_wp2_with fail
              exact bodyPost_pan rfl (by rw [HP.out]; exact ⟨rfl, ((HS6.out.drop 0).drop 0).drop 0⟩)
            · have HP : Hid (replyR kind l = some (replyC id nonce a b c d code 0 0 0 0, l4)) := by
                unfold Hid
                obtain ⟨ha, hb, hc2, hd⟩ := HABCD.out
                simp [replyR, H1.out, H2.out, H3.out, H4.out, HK.out, hc, ha, hb, hc2, hd]
              have hc' : ¬ (24576 : Int) < (code.size : Int) := by omega
              clear hc
              go_wp2_with (first
                | (refine wpList_load_st (cs := replyC id nonce a b c d code 0 0 0 0) 0 HS6.out rfl rfl 37 (.tmp 4) rfl rfl _ Tryz.underlying37 rfl szReply ?_)
                | (refine wpList_store_st (cs := replyC id nonce a b c d code 0 0 0 0) 2 HS6.out rfl rfl 37 (.tmp 3) (.tmp 29) rfl rfl rfl szReply rfl (oneReply _ _ _ _ _ _ _ _ _ _ _) ?_)
                | fail)
              intro w8 S8
              go_wp2_with fail
              exact post_cell 0 S8 rfl Tryz.results125 rfl _ Tryz.underlying37 rfl szReply rfl (by rw [HP.out]; exact ⟨v4, rfl, HV4.out, (S8.drop 0).drop 0⟩)
end
end Go.Proofs.YtdnpobjokajigaaGreatDoor

namespace Go.Proofs.YtdnpobjokajigaaGreatDoor
open Go.RowKit Go.Proofs K

section
variable {H0 H : Hs} {w0 w : World} {X : Nat → Prop} {ps : List Hp} {p : Nat}
set_option maxRecDepth 100000 in
theorem repc_catch {cs0 : Array Value} (h7 : cs0.size = 11) (S : St H0 w0 X H w (blk p (.cells cs0 37) :: blk (p + 1) (flagO false) :: ps)) (older : List PanicEntry) :
    CallsD Tryz.prog 167 #[.pointer (some ⟨p, 0, none⟩), .pointer (some ⟨p + 1, 0, none⟩)] (.panicking ({ v := refusedV, recovered := false } :: older)) w fun e u' w' =>
      e = .returned (.tuple #[]) ∧ u' = .panicking ({ v := refusedV, recovered := true } :: older) ∧ St H0 w0 X H w' (blk (p + 1) (flagO false) :: blk p (.cells zReply 37) :: ps) := by
  refine callsD_of_wpS Tryz.func167 rfl fun c₀ cs hu => ?_
  unfold refusedV at hu
  have hta : ∀ w, (Instr.typeAssert (.iface 235 (.agg #[])) 20 235 true).run Tryz.prog w = .ok (.tuple #[.agg #[], .bool true]) w := fun w => by kernel_rfl
  simp only [Tryz.ntmps167, List.size_toArray, List.length_cons, List.length_nil, Nat.reduceAdd, Nat.reduceSub, Array.replicate_succ, Array.replicate_zero, List.push_toArray, List.append_toArray, List.nil_append, List.cons_append]
  apply wpS_seq
  apply wpS_region
  simp [wpOpsS, go_sem, recoverD, hu, Exit.thenS, hta]
  apply wpS_seq
  apply wpS_region
  simp [wpOpsS, go_sem, Exit.thenS]
  obtain ⟨w1, hw1⟩ : ∃ w1, w1 = w.alloc (.cells #[] 235) := ⟨_, rfl⟩
  have S1 : St H0 w0 X H w1 (blk p (.cells cs0 37) :: blk (p + 1) (flagO false) :: ps) := hw1 ▸ (S.alloc (.cells #[] 235)).drop 0
  rw [← hw1]
  have HS1 := Lib.hid S1
  have HS2 := Lib.hid (S1.alloc (.cells zReply 37))
  clear S1 S hw1
  refine wpS_cond (t := true) rfl ?_
  simp only [if_true]
  refine wpS_of_wp ?_
  go_wp2_with (first
    | (refine wpList_load_st (cs := zReply) 0 HS2.out rfl rfl 37 (.tmp 4) rfl rfl _ Tryz.underlying37 rfl szReply ?_)
    | (refine wpList_store_st (cs := zReply) 1 HS2.out rfl rfl 37 (.tmp 0) (.tmp 11) rfl rfl rfl szReply h7 (oneReply _ _ _ _ _ _ _ _ _ _ _) ?_)
    | fail)
  intro w4 S4
  have d0 : w4.cell? ⟨p + 1, 0, none⟩ = some (.bool false) := by have hbk := S4.blk_at 2 rfl; rw [cell_of_row _ _ _ _ _ _ hbk]; rfl
  have g0 := S4.frozen 2 rfl 0
  have HS4 := Lib.hid ((S4.setCell (j := 0) 2 rfl (.bool false)).drop 2)
  clear S4 HS2 HS1
  go_wp2_with fail
  exact ⟨rfl, _, rfl, _, by simp [results, Tryz.results167], rfl, rfl, HS4.out⟩
set_option maxRecDepth 100000 in
theorem repc_idle (S : St H0 w0 X H w ps) (a b : Addr) :
    CallsD Tryz.prog 167 #[.pointer (some a), .pointer (some b)] .returning w fun e u' w' =>
      e = .returned (.tuple #[]) ∧ u' = .returning ∧ St H0 w0 X H w' ps := by
  refine callsD_of_wpS Tryz.func167 rfl fun c₀ cs hu => ?_
  have hta : ∀ w, (Instr.typeAssert .nilIface 20 235 true).run Tryz.prog w = .ok (.tuple #[.agg #[], .bool false]) w := fun w => by kernel_rfl
  simp only [Tryz.ntmps167, List.size_toArray, List.length_cons, List.length_nil, Nat.reduceAdd, Nat.reduceSub, Array.replicate_succ, Array.replicate_zero, List.push_toArray, List.append_toArray, List.nil_append, List.cons_append]
  apply wpS_seq
  apply wpS_region
  simp [wpOpsS, go_sem, recoverD, hu, Exit.thenS, hta]
  apply wpS_seq
  apply wpS_region
  simp [wpOpsS, go_sem, Exit.thenS]
  refine wpS_cond (t := false) rfl ?_
  simp only [Bool.false_eq_true, if_false]
  refine wpS_of_wp (wp_skip ?_)
  have S1 := (S.alloc (.cells #[] 235)).drop 0
  cases c₀
  simp_all [bodyPostS, results, Tryz.results167]
end

/-- The item of bytes, if it is a list: what read tells. -/
inductive ReplyD (kind : Int) : List UInt8 → Option (Array Value) → Prop
  | bad {l : List UInt8} (h : DecR l none) : ReplyD kind l none
  | text {l : List UInt8} {s : ByteArray} (h : DecR l (some (.text s))) : ReplyD kind l none
  | none {l : List UInt8} {k : List It} (h : DecR l (some (.list k))) (ha : replyR kind k = none) : ReplyD kind l none
  | more {l : List UInt8} {k k' : List It} {a : Array Value} (h : DecR l (some (.list k))) (ha : replyR kind k = some (a, k')) (hk : k' ≠ []) : ReplyD kind l none
  | good {l : List UInt8} {k : List It} {a : Array Value} (h : DecR l (some (.list k))) (ha : replyR kind k = some (a, [])) : ReplyD kind l (some a)
def ReplyP (kind : Int) (l : List UInt8) (w : World) (e : Ending) (w' : World) : Prop := ∃ o, ReplyD kind l o ∧ e = .returned (.tuple #[.agg (o.getD zReply), .bool o.isSome]) ∧ Below w.heap.size w w'
theorem replyR_len {kind : Int} {l l' : List It} {a : Array Value} (h : replyR kind l = some (a, l')) : l'.length ≤ l.length := by
  unfold replyR at h
  obtain ⟨x, h1, h⟩ := Option.bind_eq_some_iff.1 h
  have e1 := numR_len (n := x.1) (l' := x.2) h1
  split at h
  · obtain ⟨t, h4, h⟩ := Option.map_eq_some_iff.1 h
    have e4 := txtR_len (s := t.1) (l' := t.2) h4
    cases h
    omega
  · obtain ⟨y, h2, h⟩ := Option.bind_eq_some_iff.1 h
    obtain ⟨z, h3, h⟩ := Option.bind_eq_some_iff.1 h
    obtain ⟨t, h4, h⟩ := Option.bind_eq_some_iff.1 h
    have e2 := numR_len (n := y.1) (l' := y.2) h2
    have e3 := txtR_len (s := z.1) (l' := z.2) h3
    have e4 := txtR_len (s := t.1) (l' := t.2) h4
    split at h
    · cases h
    · cases h; omega
theorem replyR_form {kind : Int} {l l' : List It} {x : Array Value} (h : replyR kind l = some (x, l')) : ∃ id nn a b c d code e f g h, x = replyC id nn a b c d code e f g h := by
  unfold replyR at h
  obtain ⟨x, h1, h⟩ := Option.bind_eq_some_iff.1 h
  split at h
  · obtain ⟨t, h4, h⟩ := Option.map_eq_some_iff.1 h
    cases h
    exact ⟨_, _, _, _, _, _, _, _, _, _, _, rfl⟩
  · obtain ⟨y, h2, h⟩ := Option.bind_eq_some_iff.1 h
    obtain ⟨z, h3, h⟩ := Option.bind_eq_some_iff.1 h
    obtain ⟨t, h4, h⟩ := Option.bind_eq_some_iff.1 h
    split at h
    · cases h
    · cases h
      exact ⟨_, _, _, _, _, _, _, _, _, _, _, rfl⟩
/-- The results, read at the end. -/
theorem readDoneR {Hk H : Hs} {w w5 : World} {qs : List Hp} {id nn a b c d e f g h : Int} {code : ByteArray} {bb : Bool} {R : Ending → World → Prop} (S : St Hk w none_ H w5 qs) (i j : Nat) (hi : qs[i]? = some (blk w.heap.size (.cells (replyC id nn a b c d code e f g h) 37))) (hj : qs[j]? = some (blk (w.heap.size + 1) (flagO bb)))
    {tmps : Array Value} (h4 : tmps[4]? = some (.pointer (some ⟨w.heap.size, 0, none⟩))) (h5 : tmps[5]? = some (.pointer (some ⟨w.heap.size + 1, 0, none⟩))) (hR : R (.returned (.tuple #[.agg (replyC id nn a b c d code e f g h), .bool bb])) w5) : Leaves Tryz.prog Tryz.f124 tmps R [] .returning w5 := by
  refine ⟨_, ?_, hR⟩
  have hl := run_loadVar_row (P := Tryz.prog) w5 w.heap.size 37 37 _ _ _ (S.blk_at i hi) Tryz.underlying37 rfl szReply
  have k3 := cell_of_row _ _ 0 _ _ _ (S.blk_at j hj)
  simp at k3
  have h4' : tmps[4]?.getD undef = .pointer (some ⟨w.heap.size, 0, none⟩) := by rw [h4]; rfl
  have h5' : tmps[5]?.getD undef = .pointer (some ⟨w.heap.size + 1, 0, none⟩) := by rw [h5]; rfl
  have hl2 : (loadVar 4 ⟨w.heap.size + 1, 0, none⟩).run Tryz.prog w5 = .ok (.bool bb) w5 := by simp [go_sem, k3]
  simp [results, Tryz.results124, h4', h5', asAddr, hl, hl2]
set_option maxRecDepth 100000 in
set_option maxHeartbeats 1000000 in
theorem readReply_any (kind : Int) {Hk : Hs} (kb : Nat) (hkb : Hk kb = some (.cells #[.int .i64 kind] 3 (0, 0))) (l : List UInt8) (w : World) (hw : Ag Hk w) : Calls Tryz.prog 124 #[.string (bs l), .func (.func 125) #[] #[.pointer (some ⟨kb, 0, none⟩)]] w (ReplyP kind l w) := by
  have hp : ∀ w, (Instr.panic (.iface 235 (.agg #[]))).run Tryz.prog w = .halt (.panic (.iface 235 (.agg #[]))) w := fun _ => rfl
  have hmf : ∀ (fn : Fn) (first cap : Array Value) (w : World), (Instr.makeFunc fn first cap).run Tryz.prog w = .ok (.func fn first cap) w := fun _ _ _ _ => rfl
  have HKB := Lib.hid hkb
  have HS := Lib.hid (((St.start hw).alloc (.cells zReply 37)).alloc' (flagO false) (w.heap.size + 1) (by simp))
  clear hw hkb
  go_enter_defers Tryz.func124, Tryz.ntmps124
  go_wp2_with fail
  refine (decodeL l HS.out.ag).mono ?_
  rintro e0 w1 hD
  rcases hD with ⟨i, x, y, z, H1, hR, rfl, hrep, S1⟩ | ⟨n, hR, hn, rfl, S1⟩
  · have HR := Lib.hid hR
    have HREP := Lib.hid hrep
    have HS0 := Lib.hid (HS.out.more S1)
    cases i with
    | text s =>
      obtain ⟨A1, c1, rfl, rfl, rfl⟩ := text_cells hrep
      have HS1 : Hid (St Hk w none_ H1 _ [blk w.heap.size (.cells zReply 37), blk (w.heap.size + 1) (flagO false), blk w1.heap.size (.cells #[.bool false, .string s, .slice A1 0 c1] 123)]) := ((HS0.out.alloc (.cells #[.bool false, .string s, .slice A1 0 c1] 123)).pick 1 rfl).pick 2 rfl
      clear hR hrep S1 HS HS0
      go_wp2_with (first
        | (refine wpList_load_st (cs := zReply) 0 HS1.out rfl rfl 37 (.tmp 4) rfl rfl _ Tryz.underlying37 rfl szReply ?_)
        | (refine wpList_store_st (cs := zReply) 0 HS1.out rfl rfl 37 (.tmp 4) (.tmp 22) rfl rfl rfl szReply rfl (oneReply _ _ _ _ _ _ _ _ _ _ _) ?_)
        | fail)
      intro w4 S4
      have d0 : w4.cell? ⟨w.heap.size + 1, 0, none⟩ = some (.bool false) := by have hbk := S4.blk_at 1 rfl; rw [cell_of_row _ _ _ _ _ _ hbk]; rfl
      have g0 := S4.frozen 1 rfl 0
      have HS4 := Lib.hid (S4.setCell (j := 0) 1 rfl (.bool false))
      clear S4 HS1
      go_wp2_with fail
      refine leaves_cons (f := 167) (args := #[.pointer (some ⟨w.heap.size, 0, none⟩), .pointer (some ⟨w.heap.size + 1, 0, none⟩)]) (by simp) (by simp [go_sem]) ?_
      refine (repc_idle HS4.out _ _).mono ?_
      rintro e0 u' w5 ⟨rfl, rfl, S3⟩
      simp only [settle]
      exact readDoneR S3 1 0 rfl rfl rfl rfl ⟨none, .text HR.out, rfl, S3.below⟩
    | list k =>
      obtain ⟨A1, c1, rfl, rfl, rfl, hv⟩ := list_cells hrep
      have HV := Lib.hid hv
      have HKL := Lib.hid (decR_len HR.out)
      have HS1 : Hid (St Hk w none_ H1 ((w1.alloc (.cells #[.bool true, .string ⟨#[]⟩, .slice A1 k.length c1] 123)).alloc (fldO (.slice A1 k.length c1))) [blk (w1.heap.size + 1) (fldO (.slice A1 k.length c1)), blk w.heap.size (.cells zReply 37), blk (w.heap.size + 1) (flagO false), blk w1.heap.size (.cells #[.bool true, .string ⟨#[]⟩, .slice A1 k.length c1] 123)]) := (((HS0.out.alloc (.cells #[.bool true, .string ⟨#[]⟩, .slice A1 k.length c1] 123)).pick 1 rfl).pick 2 rfl).alloc' _ (w1.heap.size + 1) (by simp)
      clear hR hrep S1 HS HS0 hv
      go_wp2_with fail
      refine (reply_any kind kb (HS1.out.le _ _ HKB.out) k HKL.out HS1.out 0 rfl HV.out).mono ?_
      intro e0 w2 hM
      cases ha : replyR kind k with
      | none =>
        rw [ha] at hM
        obtain ⟨rfl, S2⟩ := hM
        have HA := Lib.hid ha
        have HS2 : Hid (St Hk w none_ H1 w2 [blk w.heap.size (.cells zReply 37), blk (w.heap.size + 1) (flagO false), blk w1.heap.size (.cells #[.bool true, .string ⟨#[]⟩, .slice A1 k.length c1] 123)]) := S2
        clear ha S2
        go_wp2_with fail
        refine leaves_cons (f := 167) (args := #[.pointer (some ⟨w.heap.size, 0, none⟩), .pointer (some ⟨w.heap.size + 1, 0, none⟩)]) (by simp) (by simp [go_sem]) ?_
        refine (repc_catch rfl HS2.out []).mono ?_
        rintro e0 u' w5 ⟨rfl, rfl, S3⟩
        simp only [settle, List.dropWhile]
        exact readDoneR S3 1 0 rfl rfl rfl rfl ⟨none, .none HR.out HA.out, rfl, S3.below⟩
      | some x =>
        obtain ⟨x, k'⟩ := x
        rw [ha] at hM
        obtain ⟨v', rfl, hv', S2⟩ := hM
        obtain ⟨id, nn, a, b, c, d, code, e, f, g, h, rfl⟩ := replyR_form ha
        have HA := Lib.hid ha
        have HS2 : Hid (St Hk w none_ H1 w2 [blk (w1.heap.size + 1) (fldO v'), blk w.heap.size (.cells zReply 37), blk (w.heap.size + 1) (flagO false), blk w1.heap.size (.cells #[.bool true, .string ⟨#[]⟩, .slice A1 k.length c1] 123)]) := S2
        have hk16 := replyR_len ha
        have HK16 := Lib.hid hk16
        obtain ⟨A2, c2, cs2, rfl, _⟩ := hv'.sl_inv
        clear ha S2 HS1 hv' hk16
        go_wp2_with (first
          | (refine wpList_store_st (cs := replyC id nn a b c d code e f g h) 1 HS2.out rfl rfl 37 (.tmp 4) (.tmp 26) rfl rfl rfl szReply rfl (oneReply _ _ _ _ _ _ _ _ _ _ _) ?_)
          | fail)
        intro w3 S3
        have HS3 : Hid (St Hk w none_ H1 w3 [blk w.heap.size (.cells (replyC id nn a b c d code e f g h) 37), blk (w.heap.size + 1) (flagO false), blk (w1.heap.size + 1) (fldO (.slice A2 k'.length c2)), blk w1.heap.size (.cells #[.bool true, .string ⟨#[]⟩, .slice A1 k.length c1] 123)]) := (S3.pick 2 rfl).pick 1 rfl
        have cq : w3.cell? ⟨w1.heap.size + 1, 0, none⟩ = some (.slice A2 k'.length c2) := by have hbk := HS3.out.blk_at 2 rfl; rw [cell_of_row _ _ _ _ _ _ hbk]; rfl
        clear S3 HS2
        by_cases hk : k' = []
        · subst hk
          go_wp2_with (first
            | (refine wpList_load_st (cs := replyC id nn a b c d code e f g h) 0 HS3.out rfl rfl 37 (.tmp 4) rfl rfl _ Tryz.underlying37 rfl szReply ?_)
            | (refine wpList_store_st (cs := replyC id nn a b c d code e f g h) 0 HS3.out rfl rfl 37 (.tmp 4) (.tmp 32) rfl rfl rfl szReply rfl (oneReply _ _ _ _ _ _ _ _ _ _ _) ?_)
            | fail)
          intro w4 S4
          have d0 : w4.cell? ⟨w.heap.size + 1, 0, none⟩ = some (.bool false) := by have hbk := S4.blk_at 1 rfl; rw [cell_of_row _ _ _ _ _ _ hbk]; rfl
          have g0 := S4.frozen 1 rfl 0
          have HS4 := Lib.hid (S4.setCell (j := 0) 1 rfl (.bool true))
          clear S4 HS3
          go_wp2_with fail
          refine leaves_cons (f := 167) (args := #[.pointer (some ⟨w.heap.size, 0, none⟩), .pointer (some ⟨w.heap.size + 1, 0, none⟩)]) (by simp) (by simp [go_sem]) ?_
          refine (repc_idle HS4.out _ _).mono ?_
          rintro e0 u' w5 ⟨rfl, rfl, S3⟩
          simp only [settle]
          exact readDoneR S3 1 0 rfl rfl rfl rfl ⟨some _, .good HR.out HA.out, rfl, S3.below⟩
        · have hpos : 0 < k'.length := List.length_pos_iff.2 hk
          have HK := Lib.hid hk
          clear hk
          go_wp2_with fail
          refine leaves_cons (f := 167) (args := #[.pointer (some ⟨w.heap.size, 0, none⟩), .pointer (some ⟨w.heap.size + 1, 0, none⟩)]) (by simp) (by simp [go_sem]) ?_
          refine (repc_catch rfl HS3.out []).mono ?_
          rintro e0 u' w5 ⟨rfl, rfl, S3⟩
          simp only [settle, List.dropWhile]
          exact readDoneR S3 1 0 rfl rfl rfl rfl ⟨none, .more HR.out HA.out HK.out, rfl, S3.below⟩
  · have HR := Lib.hid hR
    have HS1 : Hid (St Hk w none_ Hk _ [blk w.heap.size (.cells zReply 37), blk (w.heap.size + 1) (flagO false), blk w1.heap.size (.cells #[.bool false, .string ⟨#[]⟩, .slice none 0 0] 123)]) := (((HS.out.more S1).alloc (.cells #[.bool false, .string ⟨#[]⟩, .slice none 0 0] 123)).pick 1 rfl).pick 2 rfl
    have e1 : (n != 0) = true := by rw [bne_iff_ne]; omega
    clear hR S1 HS hn
    go_wp2_with (first
      | (refine wpList_load_st (cs := zReply) 0 HS1.out rfl rfl 37 (.tmp 4) rfl rfl _ Tryz.underlying37 rfl szReply ?_)
      | (refine wpList_store_st (cs := zReply) 0 HS1.out rfl rfl 37 (.tmp 4) (.tmp 22) rfl rfl rfl szReply rfl (oneReply _ _ _ _ _ _ _ _ _ _ _) ?_)
      | fail)
    intro w4 S4
    have d0 : w4.cell? ⟨w.heap.size + 1, 0, none⟩ = some (.bool false) := by have hbk := S4.blk_at 1 rfl; rw [cell_of_row _ _ _ _ _ _ hbk]; rfl
    have g0 := S4.frozen 1 rfl 0
    have HS4 := Lib.hid (S4.setCell (j := 0) 1 rfl (.bool false))
    clear S4 HS1
    go_wp2_with fail
    refine leaves_cons (f := 167) (args := #[.pointer (some ⟨w.heap.size, 0, none⟩), .pointer (some ⟨w.heap.size + 1, 0, none⟩)]) (by simp) (by simp [go_sem]) ?_
    refine (repc_idle HS4.out _ _).mono ?_
    rintro e0 u' w5 ⟨rfl, rfl, S3⟩
    simp only [settle]
    exact readDoneR S3 1 0 rfl rfl rfl rfl ⟨none, .bad HR.out, rfl, S3.below⟩
end Go.Proofs.YtdnpobjokajigaaGreatDoor
