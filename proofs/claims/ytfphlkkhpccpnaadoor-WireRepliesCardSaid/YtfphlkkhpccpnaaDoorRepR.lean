/-
  What is told, read.
-/
import Derived.Test.YtfphlkkhpccpnaaDoorRepR0
import Derived.Test.YtfphlkkhpccpnaaDoorMid
namespace Go.Proofs.YtfphlkkhpccpnaaDoor
open Go.RowKit Go.Proofs K

def accC (nonce a b c d : Int) (code : ByteArray) : Array Value := #[.int .u64 nonce, .int .u64 a, .int .u64 b, .int .u64 c, .int .u64 d, .string code]
theorem szAcc : (Tryd.prog.info? 40).map (·.size) = some 6 := by kernel_rfl
theorem oneAcc (nonce a b c d : Int) (code : ByteArray) : (accC nonce a b c d code).all (·.oneCell') = true := by simp [accC, Value.oneCell']
section
variable {H0 H : Hs} {w0 w : World} {X : Nat → Prop} {ps : List Hp} {q : Nat}
set_option maxRecDepth 100000 in
set_option maxHeartbeats 4000000 in
theorem reply_any (kind : Int) (kb : Nat) (hkb : H kb = some (.cells #[.int .i64 kind] 3 (0, 0))) (l : List It) (hl : l.length ≤ 65536) (S : St H0 w0 X H w ps) (i : Nat) {v : Value} (hi : ps[i]? = some (blk q (fldO v))) (hv : RepV H v (.sl 3 l.length (itsD l))) :
    Calls Tryd.prog 50 #[.pointer (some ⟨q, 0, none⟩), .pointer (some ⟨kb, 0, none⟩)] w (FldP ((replyR kind l).map fun x => (.agg x.1, x.2)) H0 H w0 X q (ps.eraseIdx i)) := by
  have hp : ∀ w, (Instr.panic (.iface 106 (.agg #[]))).run Tryd.prog w = .halt (.panic (.iface 106 (.agg #[]))) w := fun _ => rfl
  have hka : ∀ (w' : World), Ag H w' → w'.cell? ⟨kb, 0, none⟩ = some (.int .i64 kind) := fun w' h => by rw [cell_of_row _ _ _ _ _ _ (h _ _ hkb)]; rfl
  have HKA := Lib.hid hka
  clear hka hkb
  have HS := Lib.hid (S.alloc (.cells zReply 42))
  have HI := Lib.hid hi
  have HV := Lib.hid hv
  have HLN := Lib.hid hl
  clear S hi hv hl
  go_enter Tryd.func50, Tryd.ntmps50
  go_wp2_with fail
  refine (fnumber_any l HLN.out HS.out (i + 1) HI.out HV.out).mono ?_
  intro e w1 hM
  cases h1 : numR l with
  | none =>
    rw [h1] at hM
    obtain ⟨rfl, S1⟩ := hM
    have HP := Lib.hid (show replyR kind l = none by simp [replyR, h1])
    clear h1
    go_wp2_with fail
    exact bodyPost_pan rfl (by rw [HP.out]; exact ⟨rfl, (S1).drop 0⟩)
  | some z1 =>
    obtain ⟨id, l1⟩ := z1
    rw [h1] at hM
    obtain ⟨v1, rfl, hv1, S1⟩ := hM
    have HS1 : Hid (St H0 w0 X H w1 (blk q (fldO v1) :: blk w.heap.size (.cells zReply 42) :: ps.eraseIdx i)) := S1
    have HV1 := Lib.hid hv1
    have H1 := Lib.hid h1
    have ck1 := HKA.out _ S1.ag
    have hkl : kb < w1.heap.size := World.block_lt_of_cell? _ _ ck1
    have HT := Lib.hid (HS1.out.alloc (.cells (replyC id 0 0 0 0 0 ⟨#[]⟩ 0 0 0 0) 42))
    clear S1 hv1 h1 HS
    by_cases hk : kind = 2
    · have e1 : (kind == 2) = true := beq_iff_eq.2 hk
      have HK := Lib.hid hk
      clear hk
      go_wp2_with fail
      refine (fword_any l1 (Nat.le_trans (numR_len H1.out) HLN.out) HT.out 1 rfl HV1.out).mono ?_
      intro e w2 hM
      cases h2 : txtR 32 l1 with
      | none =>
        rw [h2] at hM
        obtain ⟨rfl, S2⟩ := hM
        have HP := Lib.hid (show replyR kind l = none by simp [replyR, H1.out, h2, HK.out])
        clear h2
        go_wp2_with fail
        exact bodyPost_pan rfl (by rw [HP.out]; exact ⟨rfl, ((S2).drop 0).drop 0⟩)
      | some z2 =>
        obtain ⟨sl, l2⟩ := z2
        rw [h2] at hM
        obtain ⟨v2, rfl, hv2, S2⟩ := hM
        have HP : Hid (replyR kind l = some (replyC id 0 0 0 0 0 ⟨#[]⟩ (ofL sl sl.size 3) (ofL sl sl.size 2) (ofL sl sl.size 1) (ofL sl sl.size 0), l2)) := by
          unfold Hid
          simp [replyR, H1.out, h2, HK.out]
        unfold ofV
        obtain ⟨a, ha⟩ : ∃ a, a = ofL sl sl.size 3 := ⟨_, rfl⟩
        obtain ⟨b, hb⟩ : ∃ b, b = ofL sl sl.size 2 := ⟨_, rfl⟩
        obtain ⟨c, hc⟩ : ∃ c, c = ofL sl sl.size 1 := ⟨_, rfl⟩
        obtain ⟨d, hd⟩ : ∃ d, d = ofL sl sl.size 0 := ⟨_, rfl⟩
        rw [← ha, ← hb, ← hc, ← hd] at HP ⊢
        have HS5 : Hid (St H0 w0 X H w2 (blk q (fldO v2) :: blk w1.heap.size (.cells (replyC id 0 0 0 0 0 ⟨#[]⟩ 0 0 0 0) 42) :: blk w.heap.size (.cells zReply 42) :: ps.eraseIdx i)) := S2
        have HV2 := Lib.hid hv2
        have c7 : w2.cell? ⟨w1.heap.size, 7, none⟩ = some (.int .u64 0) := HS5.out.cell 1 rfl rfl
        have g7 := HS5.out.frozen 1 rfl 7
        have c8 : w2.cell? ⟨w1.heap.size, 8, none⟩ = some (.int .u64 0) := HS5.out.cell 1 rfl rfl
        have g8 := HS5.out.frozen 1 rfl 8
        have c9 : w2.cell? ⟨w1.heap.size, 9, none⟩ = some (.int .u64 0) := HS5.out.cell 1 rfl rfl
        have g9 := HS5.out.frozen 1 rfl 9
        have c10 : w2.cell? ⟨w1.heap.size, 10, none⟩ = some (.int .u64 0) := HS5.out.cell 1 rfl rfl
        have g10 := HS5.out.frozen 1 rfl 10
        have HS6 : Hid (St H0 w0 X H _ (blk w1.heap.size (.cells (replyC id 0 0 0 0 0 ⟨#[]⟩ a b c d) 42) :: blk q (fldO v2) :: blk w.heap.size (.cells zReply 42) :: ps.eraseIdx i)) := Lib.hid ((((HS5.out.setCell (j := 7) 1 rfl (.int .u64 a)).setCell (j := 8) 0 rfl (.int .u64 b)).setCell (j := 9) 0 rfl (.int .u64 c)).setCell (j := 10) 0 rfl (.int .u64 d))
        clear S2 hv2 h2 HT ha hb hc hd HS5
        go_wp2_with (first
          | (refine wpList_load_st (cs := replyC id 0 0 0 0 0 ⟨#[]⟩ a b c d) 0 HS6.out rfl rfl 42 (.tmp 4) rfl rfl _ Tryd.underlying42 rfl szReply ?_)
          | (refine wpList_store_st (cs := replyC id 0 0 0 0 0 ⟨#[]⟩ a b c d) 2 HS6.out rfl rfl 42 (.tmp 3) (.tmp 13) rfl rfl rfl szReply rfl (oneReply _ _ _ _ _ _ _ _ _ _ _) ?_)
          | fail)
        intro w8 S8
        go_wp2_with fail
        exact post_cell 0 S8 rfl Tryd.results50 rfl _ Tryd.underlying42 rfl szReply rfl (by rw [HP.out]; exact ⟨v2, rfl, HV2.out, (S8.drop 0).drop 0⟩)
    · have e1 : (kind == 2) = false := beq_eq_false_iff_ne.2 hk
      have HK := Lib.hid hk
      clear hk
      go_wp2_with fail
      refine (fnumber_any l1 (Nat.le_trans (numR_len H1.out) HLN.out) HT.out 1 rfl HV1.out).mono ?_
      intro e w2 hM
      cases h2 : numR l1 with
      | none =>
        rw [h2] at hM
        obtain ⟨rfl, S2⟩ := hM
        have HP := Lib.hid (show replyR kind l = none by simp [replyR, H1.out, h2, HK.out])
        clear h2
        go_wp2_with fail
        exact bodyPost_pan rfl (by rw [HP.out]; exact ⟨rfl, ((S2).drop 0).drop 0⟩)
      | some z2 =>
        obtain ⟨nonce, l2⟩ := z2
        rw [h2] at hM
        obtain ⟨v2, rfl, hv2, S2⟩ := hM
        have HT2 : Hid (St H0 w0 X H w2 (blk q (fldO v2) :: blk w1.heap.size (.cells (replyC id 0 0 0 0 0 ⟨#[]⟩ 0 0 0 0) 42) :: blk w.heap.size (.cells zReply 42) :: ps.eraseIdx i)) := S2
        have HV2 := Lib.hid hv2
        have H2 := Lib.hid h2
        clear S2 hv2 h2 HT
        go_wp2_with fail
        refine (fword_any l2 (Nat.le_trans (numR_len H2.out) (Nat.le_trans (numR_len H1.out) HLN.out)) HT2.out 0 rfl HV2.out).mono ?_
        intro e w3 hM
        cases h3 : txtR 32 l2 with
        | none =>
          rw [h3] at hM
          obtain ⟨rfl, S3⟩ := hM
          have HP := Lib.hid (show replyR kind l = none by simp [replyR, H1.out, H2.out, h3, HK.out])
          clear h3
          go_wp2_with fail
          exact bodyPost_pan rfl (by rw [HP.out]; exact ⟨rfl, ((S3).drop 0).drop 0⟩)
        | some z3 =>
          obtain ⟨sl, l3⟩ := z3
          rw [h3] at hM
          obtain ⟨v3, rfl, hv3, S3⟩ := hM
          unfold ofV
          obtain ⟨a, ha⟩ : ∃ a, a = ofL sl sl.size 3 := ⟨_, rfl⟩
          obtain ⟨b, hb⟩ : ∃ b, b = ofL sl sl.size 2 := ⟨_, rfl⟩
          obtain ⟨c, hc⟩ : ∃ c, c = ofL sl sl.size 1 := ⟨_, rfl⟩
          obtain ⟨d, hd⟩ : ∃ d, d = ofL sl sl.size 0 := ⟨_, rfl⟩
          have HT3 : Hid (St H0 w0 X H w3 (blk q (fldO v3) :: blk w1.heap.size (.cells (replyC id 0 0 0 0 0 ⟨#[]⟩ 0 0 0 0) 42) :: blk w.heap.size (.cells zReply 42) :: ps.eraseIdx i)) := S3
          rw [← ha, ← hb, ← hc, ← hd]
          have HABCD := Lib.hid (And.intro ha (And.intro hb (And.intro hc hd)))
          have HV3 := Lib.hid hv3
          have H3 := Lib.hid h3
          clear S3 hv3 h3 HT2 ha hb hc hd
          go_wp2_with fail
          refine (ftext_any l3 (Nat.le_trans (txtR_len H3.out) (Nat.le_trans (numR_len H2.out) (Nat.le_trans (numR_len H1.out) HLN.out))) (-1) HT3.out 0 rfl HV3.out).mono ?_
          intro e w4 hM
          cases h4 : txtR (-1) l3 with
          | none =>
            rw [h4] at hM
            obtain ⟨rfl, S4⟩ := hM
            have HP := Lib.hid (show replyR kind l = none by simp [replyR, H1.out, H2.out, H3.out, h4, HK.out])
            clear h4
            go_wp2_with fail
            exact bodyPost_pan rfl (by rw [HP.out]; exact ⟨rfl, ((S4).drop 0).drop 0⟩)
          | some z4 =>
            obtain ⟨code, l4⟩ := z4
            rw [h4] at hM
            obtain ⟨v4, rfl, hv4, S4⟩ := hM
            have HT4 : Hid (St H0 w0 X H w4 (blk q (fldO v4) :: blk w1.heap.size (.cells (replyC id 0 0 0 0 0 ⟨#[]⟩ 0 0 0 0) 42) :: blk w.heap.size (.cells zReply 42) :: ps.eraseIdx i)) := S4
            have HV4 := Lib.hid hv4
            have H4 := Lib.hid h4
            clear S4 hv4 h4 HT3
            go_wp2_with (first
              | (refine wpList_mid_st (cs := accC nonce a b c d code) 1 HT4.out rfl rfl 40 (.tmp 21) (.tmp 20) rfl 1 rfl rfl szAcc (by show (1 + 6 : Nat) ≤ 11; omega) (oneAcc _ _ _ _ _ _) ?_)
              | fail)
            intro w5 S5
            have HS6 : Hid (St H0 w0 X H w5 (blk w1.heap.size (.cells (replyC id nonce a b c d code 0 0 0 0) 42) :: blk q (fldO v4) :: blk w.heap.size (.cells zReply 42) :: ps.eraseIdx i)) := S5
            have c6 : w5.cell? ⟨w1.heap.size, 6, none⟩ = some (.string code) := HS6.out.cell 0 rfl rfl
            clear S5 HT4
            by_cases hc : 24576 < code.size
            · have HP : Hid (replyR kind l = none) := by
                unfold Hid
                simp [replyR, H1.out, H2.out, H3.out, H4.out, HK.out, hc]
              have hc' : (24576 : Int) < (code.size : Int) := by omega
              clear hc
              go_wp2_with fail
              exact bodyPost_pan rfl (by rw [HP.out]; exact ⟨rfl, ((HS6.out.drop 0).drop 0).drop 0⟩)
            · have HP : Hid (replyR kind l = some (replyC id nonce a b c d code 0 0 0 0, l4)) := by
                unfold Hid
                obtain ⟨ha, hb, hc2, hd⟩ := HABCD.out
                simp [replyR, H1.out, H2.out, H3.out, H4.out, HK.out, hc, ha, hb, hc2, hd]
              have hc' : ¬ (24576 : Int) < (code.size : Int) := by omega
              clear hc
              go_wp2_with (first
                | (refine wpList_load_st (cs := replyC id nonce a b c d code 0 0 0 0) 0 HS6.out rfl rfl 42 (.tmp 4) rfl rfl _ Tryd.underlying42 rfl szReply ?_)
                | (refine wpList_store_st (cs := replyC id nonce a b c d code 0 0 0 0) 2 HS6.out rfl rfl 42 (.tmp 3) (.tmp 29) rfl rfl rfl szReply rfl (oneReply _ _ _ _ _ _ _ _ _ _ _) ?_)
                | fail)
              intro w8 S8
              go_wp2_with fail
              exact post_cell 0 S8 rfl Tryd.results50 rfl _ Tryd.underlying42 rfl szReply rfl (by rw [HP.out]; exact ⟨v4, rfl, HV4.out, (S8.drop 0).drop 0⟩)
end
end Go.Proofs.YtfphlkkhpccpnaaDoor
