/-
  What is asked, read.
-/
import Derived.Test.YtfphlkkhpccpnaaDoorFlds
import Derived.Laws.Bits64b
namespace Go.Proofs.YtfphlkkhpccpnaaDoor
open Go.RowKit Go.Proofs K

theorem smallR_bd (s : ByteArray) : 0 ≤ smallR s ∧ smallR s < 18446744073709551616 := by
  unfold smallR
  split
  · exact smallV_bd _
  · exact ⟨by decide, by decide⟩
theorem numR_bd {l l' : List It} {n : Int} (h : numR l = some (n, l')) : 0 ≤ n ∧ n < 18446744073709551616 := by
  unfold numR at h
  split at h
  · split at h
    · cases h; exact smallR_bd _
    · cases h
  · cases h
theorem numR_len {l l' : List It} {n : Int} (h : numR l = some (n, l')) : l'.length ≤ l.length := by
  unfold numR at h
  split at h
  · split at h
    · cases h; simp
    · cases h
  · cases h
theorem txtR_len {l l' : List It} {n : Int} {s : ByteArray} (h : txtR n l = some (s, l')) : l'.length ≤ l.length := by
  unfold txtR at h
  split at h
  · split at h
    · cases h; simp
    · cases h
  · cases h
theorem and3 {k : Int} (h0 : 0 ≤ k) (h1 : k < 18446744073709551616) : bits BinOp.and IntKind.u64 k 3 = k % 4 := by
  obtain ⟨n, rfl⟩ := Int.eq_ofNat_of_zero_le h0
  have h2 := bits_and_u64_nat n 3 (by omega) (by decide)
  have h3 : n &&& 3 = n % 4 := Nat.and_two_pow_sub_one_eq_mod n 2
  rw [show ((3 : Int)) = ((3 : Nat) : Int) from rfl, h2, h3]
  omega
def askR (l : List It) : Option (Array Value × List It) :=
  (numR l).bind fun x => (numR x.2).bind fun y => (txtR 20 y.2).bind fun z =>
    if y.1 % 4 = 1 then some (askC x.1 z.1 0 0 0 0 (y.1 % 4), z.2)
    else if y.1 % 4 = 2 then (txtR 32 z.2).map fun s => (askC x.1 z.1 (ofL s.1 s.1.size 3) (ofL s.1 s.1.size 2) (ofL s.1 s.1.size 1) (ofL s.1 s.1.size 0) (y.1 % 4), s.2)
    else none
def zAsk : Array Value := askC 0 ⟨#[]⟩ 0 0 0 0 0
theorem szAsk : (Tryd.prog.info? 26).map (·.size) = some 7 := by kernel_rfl
theorem oneAsk (id : Int) (s : ByteArray) (a b c d k : Int) : (askC id s a b c d k).all (·.oneCell') = true := by simp [askC, Value.oneCell']
section
variable {H0 H : Hs} {w0 w : World} {X : Nat → Prop} {ps : List Hp} {q : Nat}
set_option maxRecDepth 100000 in
set_option maxHeartbeats 1000000 in
theorem ask_any (l : List It) (hl : l.length ≤ 65536) (S : St H0 w0 X H w ps) (i : Nat) {v : Value} (hi : ps[i]? = some (blk q (fldO v))) (hv : RepV H v (.sl 3 l.length (itsD l))) :
    Calls Tryd.prog 43 #[.pointer (some ⟨q, 0, none⟩)] w (FldP ((askR l).map fun x => (.agg x.1, x.2)) H0 H w0 X q (ps.eraseIdx i)) := by
  have hp : ∀ w, (Instr.panic (.iface 106 (.agg #[]))).run Tryd.prog w = .halt (.panic (.iface 106 (.agg #[]))) w := fun _ => rfl
  have hmf : ∀ (fn : Fn) (first cap : Array Value) (w : World), (Instr.makeFunc fn first cap).run Tryd.prog w = .ok (.func fn first cap) w := fun _ _ _ _ => rfl
  have HS := Lib.hid (S.alloc (.cells zAsk 26))
  have HI := Lib.hid hi
  have HV := Lib.hid hv
  have HLN := Lib.hid hl
  clear S hi hv hl
  go_enter Tryd.func43, Tryd.ntmps43
  go_wp2_with fail
  refine (fnumber_any l HLN.out HS.out (i + 1) HI.out HV.out).mono ?_
  intro e w1 hM
  cases h1 : numR l with
  | none =>
    rw [h1] at hM
    obtain ⟨rfl, S1⟩ := hM
    have HP := Lib.hid (show askR l = none by simp [askR, h1])
    clear h1
    go_wp2_with fail
    exact bodyPost_pan rfl (by rw [HP.out]; exact ⟨rfl, S1.drop 0⟩)
  | some x =>
    obtain ⟨id, l1⟩ := x
    rw [h1] at hM
    obtain ⟨v1, rfl, hv1, S1⟩ := hM
    have HS1 : Hid (St H0 w0 X H w1 (blk q (fldO v1) :: blk w.heap.size (.cells zAsk 26) :: ps.eraseIdx i)) := S1
    have HV1 := Lib.hid hv1
    have H1 := Lib.hid h1
    clear S1 hv1 h1 HS
    go_wp2_with fail
    refine (fnumber_any l1 (Nat.le_trans (numR_len H1.out) HLN.out) HS1.out 0 rfl HV1.out).mono ?_
    intro e w2 hM
    cases h2 : numR l1 with
    | none =>
      rw [h2] at hM
      obtain ⟨rfl, S2⟩ := hM
      have HP := Lib.hid (show askR l = none by simp [askR, H1.out, h2])
      clear h2
      go_wp2_with fail
      exact bodyPost_pan rfl (by rw [HP.out]; exact ⟨rfl, S2.drop 0⟩)
    | some y =>
      obtain ⟨k, l2⟩ := y
      rw [h2] at hM
      obtain ⟨v2, rfl, hv2, S2⟩ := hM
      have HS2 : Hid (St H0 w0 X H w2 (blk q (fldO v2) :: blk w.heap.size (.cells zAsk 26) :: ps.eraseIdx i)) := S2
      have HV2 := Lib.hid hv2
      have H2 := Lib.hid h2
      obtain ⟨hk0, hk1⟩ := numR_bd h2
      have hand := and3 hk0 hk1
      have HK := Lib.hid (And.intro hk0 hk1)
      have hm0 : 0 ≤ k % 4 := by omega
      have hm1 : k % 4 < 4 := by omega
      obtain ⟨kd, hkd⟩ : ∃ kd, kd = k % 4 := ⟨_, rfl⟩
      rw [← hkd] at hand hm0 hm1
      have HKD := Lib.hid hkd
      clear hkd
      clear S2 hv2 h2 HS1 hk0 hk1
      go_wp2_with fail
      refine (ftext_any l2 (Nat.le_trans (numR_len H2.out) (Nat.le_trans (numR_len H1.out) HLN.out)) 20 HS2.out 0 rfl HV2.out).mono ?_
      intro e w3 hM
      cases h3 : txtR 20 l2 with
      | none =>
        rw [h3] at hM
        obtain ⟨rfl, S3⟩ := hM
        have HP := Lib.hid (show askR l = none by simp [askR, H1.out, H2.out, h3])
        clear h3
        go_wp2_with fail
        exact bodyPost_pan rfl (by rw [HP.out]; exact ⟨rfl, S3.drop 0⟩)
      | some z =>
        obtain ⟨addr, l3⟩ := z
        rw [h3] at hM
        obtain ⟨v3, rfl, hv3, S3⟩ := hM
        have HS3 : Hid (St H0 w0 X H w3 (blk q (fldO v3) :: blk w.heap.size (.cells zAsk 26) :: ps.eraseIdx i)) := S3
        have HV3 := Lib.hid hv3
        have H3 := Lib.hid h3
        clear S3 hv3 h3 HS2
        by_cases hk1 : kd = 1
        · have HP : Hid (askR l = some (askC id addr 0 0 0 0 kd, l3)) := by
            unfold Hid
            simp [askR, H1.out, H2.out, H3.out, ← HKD.out, hk1]
          have e1 : (kd == 1) = true := beq_iff_eq.2 hk1
          have HS4 := Lib.hid (HS3.out.alloc (.cells (askC id addr 0 0 0 0 kd) 26))
          clear hk1 HS3
          go_wp2_with (first
            | (refine wpList_load_st (cs := askC id addr 0 0 0 0 kd) 0 HS4.out rfl rfl 26 (.tmp 5) rfl rfl _ Tryd.underlying26 rfl szAsk ?_)
            | (refine wpList_store_st (cs := askC id addr 0 0 0 0 kd) 2 HS4.out rfl rfl 26 (.tmp 2) (.tmp 30) rfl rfl rfl szAsk rfl (oneAsk _ _ _ _ _ _ _) ?_)
            | fail)
          intro w8 S8
          go_wp2_with fail
          exact post_cell 0 S8 rfl Tryd.results43 rfl _ Tryd.underlying26 rfl szAsk rfl (by rw [HP.out]; exact ⟨v3, rfl, HV3.out, (S8.drop 0).drop 0⟩)
        · by_cases hk2 : kd = 2
          · have e1 : (kd == 1) = false := beq_eq_false_iff_ne.2 hk1
            have e2 : (kd == 2) = true := beq_iff_eq.2 hk2
            have HK2 := Lib.hid hk2
            have HS4 := Lib.hid (HS3.out.alloc (.cells (askC id addr 0 0 0 0 kd) 26))
            clear hk1 hk2 HS3
            go_wp2_with fail
            refine (fword_any l3 (Nat.le_trans (txtR_len H3.out) (Nat.le_trans (numR_len H2.out) (Nat.le_trans (numR_len H1.out) HLN.out))) HS4.out 1 rfl HV3.out).mono ?_
            intro e w4 hM
            cases h4 : txtR 32 l3 with
            | none =>
              rw [h4] at hM
              obtain ⟨rfl, S4⟩ := hM
              have HP := Lib.hid (show askR l = none by simp [askR, H1.out, H2.out, H3.out, h4, ← HKD.out, HK2.out])
              clear h4
              go_wp2_with fail
              exact bodyPost_pan rfl (by rw [HP.out]; exact ⟨rfl, (S4.drop 0).drop 0⟩)
            | some sx =>
              obtain ⟨sl, l4⟩ := sx
              rw [h4] at hM
              obtain ⟨v4, rfl, hv4, S4⟩ := hM
              have HP : Hid (askR l = some (askC id addr (ofL sl sl.size 3) (ofL sl sl.size 2) (ofL sl sl.size 1) (ofL sl sl.size 0) kd, l4)) := by
                unfold Hid
                simp [askR, H1.out, H2.out, H3.out, h4, ← HKD.out, HK2.out]
              unfold ofV
              obtain ⟨a, ha⟩ : ∃ a, a = ofL sl sl.size 3 := ⟨_, rfl⟩
              obtain ⟨b, hb⟩ : ∃ b, b = ofL sl sl.size 2 := ⟨_, rfl⟩
              obtain ⟨c, hc⟩ : ∃ c, c = ofL sl sl.size 1 := ⟨_, rfl⟩
              obtain ⟨d, hd⟩ : ∃ d, d = ofL sl sl.size 0 := ⟨_, rfl⟩
              rw [← ha, ← hb, ← hc, ← hd] at HP ⊢
              have HS5 : Hid (St H0 w0 X H w4 (blk q (fldO v4) :: blk w3.heap.size (.cells (askC id addr 0 0 0 0 kd) 26) :: blk w.heap.size (.cells zAsk 26) :: ps.eraseIdx i)) := S4
              have HV4 := Lib.hid hv4
              have c2 : w4.cell? ⟨w3.heap.size, 2, none⟩ = some (.int .u64 0) := HS5.out.cell 1 rfl rfl
              have c3 : w4.cell? ⟨w3.heap.size, 3, none⟩ = some (.int .u64 0) := HS5.out.cell 1 rfl rfl
              have c4 : w4.cell? ⟨w3.heap.size, 4, none⟩ = some (.int .u64 0) := HS5.out.cell 1 rfl rfl
              have c5 : w4.cell? ⟨w3.heap.size, 5, none⟩ = some (.int .u64 0) := HS5.out.cell 1 rfl rfl
              have g2 := HS5.out.frozen 1 rfl 2
              have g3 := HS5.out.frozen 1 rfl 3
              have g4 := HS5.out.frozen 1 rfl 4
              have g5 := HS5.out.frozen 1 rfl 5
              have HS6 : Hid (St H0 w0 X H _ (blk w3.heap.size (.cells (askC id addr a b c d kd) 26) :: blk q (fldO v4) :: blk w.heap.size (.cells zAsk 26) :: ps.eraseIdx i)) := Lib.hid ((((HS5.out.setCell (j := 2) 1 rfl (.int .u64 a)).setCell (j := 3) 0 rfl (.int .u64 b)).setCell (j := 4) 0 rfl (.int .u64 c)).setCell (j := 5) 0 rfl (.int .u64 d))
              clear S4 hv4 h4 HS4 ha hb hc hd HS5
              go_wp2_with (first
                | (refine wpList_load_st (cs := askC id addr a b c d kd) 0 HS6.out rfl rfl 26 (.tmp 5) rfl rfl _ Tryd.underlying26 rfl szAsk ?_)
                | (refine wpList_store_st (cs := askC id addr a b c d kd) 2 HS6.out rfl rfl 26 (.tmp 2) (.tmp 30) rfl rfl rfl szAsk rfl (oneAsk _ _ _ _ _ _ _) ?_)
                | fail)
              intro w8 S8
              go_wp2_with fail
              exact post_cell 0 S8 rfl Tryd.results43 rfl _ Tryd.underlying26 rfl szAsk rfl (by rw [HP.out]; exact ⟨v4, rfl, HV4.out, (S8.drop 0).drop 0⟩)
          · have HP := Lib.hid (show askR l = none by simp [askR, H1.out, H2.out, H3.out, ← HKD.out, hk1, hk2])
            have e1 : (kd == 1) = false := beq_eq_false_iff_ne.2 hk1
            have e2 : (kd == 2) = false := beq_eq_false_iff_ne.2 hk2
            have HS4 := Lib.hid (HS3.out.alloc (.cells (askC id addr 0 0 0 0 kd) 26))
            clear hk1 hk2 HS3
            go_wp2_with fail
            exact bodyPost_pan rfl (by rw [HP.out]; exact ⟨rfl, ((HS4.out.drop 0).drop 0).drop 0⟩)
end
end Go.Proofs.YtfphlkkhpccpnaaDoor
