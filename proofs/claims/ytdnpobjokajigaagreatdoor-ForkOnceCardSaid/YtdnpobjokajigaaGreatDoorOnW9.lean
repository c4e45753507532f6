/-
  ForkOnce, walked (written by genonce.py).
-/
import Derived.Test.YtdnpobjokajigaaGreatDoorPart29
namespace Go.Proofs.YtdnpobjokajigaaGreatDoor
open Go.RowKit Go.Proofs K
set_option linter.unusedVariables false
def Four (w : World) (b : Nat) (k0 k1 k2 k3 : Int) : Prop := w.cell? ⟨b, 0, none⟩ = some (.int .u64 k0) ∧ w.cell? ⟨b, 1, none⟩ = some (.int .u64 k1) ∧ w.cell? ⟨b, 2, none⟩ = some (.int .u64 k2) ∧ w.cell? ⟨b, 3, none⟩ = some (.int .u64 k3)
theorem four_later {w w' : World} {b : Nat} {k0 k1 k2 k3 : Int} (hb : Below w.heap.size w w') (h : w.cell? ⟨b, 0, none⟩ = some (.int .u64 k0) ∧ w.cell? ⟨b, 1, none⟩ = some (.int .u64 k1) ∧ w.cell? ⟨b, 2, none⟩ = some (.int .u64 k2) ∧ w.cell? ⟨b, 3, none⟩ = some (.int .u64 k3)) : Four w' b k0 k1 k2 k3 :=
  ⟨cell_later hb h.1, cell_later hb h.2.1, cell_later hb h.2.2.1, cell_later hb h.2.2.2⟩
set_option maxRecDepth 100000 in
set_option maxHeartbeats 16000000 in
theorem once_any (xn xa xb xc xd k0 k1 k2 k3 e f g h wrong : Int) (code : ByteArray) (hcs : code.size ≤ 140737488355328) (hw : 0 ≤ wrong) (wn : W64 xn) (wa : W64 xa) (wb : W64 xb) (wc : W64 xc) (wd : W64 xd) (v0 : W64 k0) (v1 : W64 k1) (v2 : W64 k2) (v3 : W64 k3) (we : W64 e) (wf : W64 f) (wg : W64 g) (wh : W64 h) (w : World) :
    Calls Tryz.prog 5 #[.agg (accC xn xa xb xc xd code), .agg (wrdC k0 k1 k2 k3), .agg (wrdC e f g h), .int .u8 wrong] w (RetV (.bool true) w) := by
  have HS := Lib.hid ((((St.start (ag_emp w)).alloc' (.cells (accC xn xa xb xc xd code) 26) w.heap.size rfl).alloc' (.cells (wrdC k0 k1 k2 k3) 24) (w.heap.size + 1) (by simp)).alloc' (.cells (wrdC e f g h) 24) (w.heap.size + 2) (by simp))
  obtain ⟨n, hn⟩ : ∃ n : Nat, (n : Int) = wrong.tmod 5 := by
    refine ⟨(wrong.tmod 5).toNat, ?_⟩
    have := Int.tmod_nonneg 5 hw
    omega
  have hn5 : n < 5 := by
    rw [Int.tmod_eq_emod_of_nonneg hw] at hn
    omega
  have hc60 : (cut60 code).size ≤ 60 := by
    unfold cut60
    rw [ByteArray.size_extract]
    omega
  obtain ⟨cd, hcd⟩ : ∃ cd, cd = cut60 code := ⟨_, rfl⟩
  rw [← hcd] at hc60
  have HP := Lib.hid (fun (hn : n < 3) => once_plain hn hc60 wn wa wb wc wd v0 v1 v2 v3 we wf wg wh)
  have HN5 := Lib.hid hn5
  have HNW := Lib.hid hn
  have HCD := Lib.hid hcd
  have H60 := Lib.hid hc60
  have hcl : (code.size : Int) ≤ 140737488355328 := by omega
  have hcm : (0 : Int) ≤ min (code.size : Int) 60 := by omega
  have hcm2 : min (code.size : Int) 60 ≤ (code.size : Int) := by omega
  clear wn wa wb wc wd v0 v1 v2 v3 we wf wg wh hw hn hn5 hcd hc60 hcs
  simp only [accC, wrdC] at HS ⊢
  go_enter Tryz.func5, Tryz.ntmps5
  go_wp2_with fail
  refine (examples9 _).mono ?_
  rintro e9 w1 ⟨rfl, hb1⟩
  have HS1 := Lib.hid (HS.out.grow hb1)
  have k5 : w1.cell? ⟨w.heap.size, 5, none⟩ = some (.string code) := HS1.out.cell 2 rfl rfl
  have f5 : w1.frozen? ⟨w.heap.size, 5, none⟩ = false := HS1.out.frozen 2 rfl 5
  clear HS hb1
  go_upto_region 5 with (fail)
  obtain ⟨w2, hw2⟩ : ∃ w2, w2 = w1.setCell ⟨w.heap.size, 5, none⟩ (.string cd) := ⟨_, rfl⟩
  have HS2 : Hid (St empH w none_ empH w2 [blk w.heap.size (.cells (accC xn xa xb xc xd cd) 26), blk (w.heap.size + 2) (.cells (wrdC e f g h) 24), blk (w.heap.size + 1) (.cells (wrdC k0 k1 k2 k3) 24)]) := by
    rw [hw2]
    exact Lib.hid (HS1.out.setCell (j := 5) 2 rfl (.string cd))
  have hw2' : w1.setCell ⟨w.heap.size, 5, none⟩ (.string (code.extract 0 (min (code.size : Int) 60).toNat)) = w2 := by
    rw [hw2, HCD.out]
    rfl
  rw [hw2']
  clear hw2 hw2' HS1 k5 f5 hcl hcm hcm2
  have hwr : IntKind.i64.wrap (wrong.tmod 5) = (n : Int) := by
    rw [← HNW.out]
    exact IntWalk.i64_in _ ⟨by omega, by have := HN5.out; omega⟩
  go_wp2_with fail
  refine (new6_at HS2.out 100000 (by decide) (by decide)).mono ?_
  rintro e9 w4 ⟨dd, rfl, S4⟩
  have HS4 := Lib.hid S4
  clear S4 HS2 hwr
  simp only [ptr]
  go_wp2_with fail
  refine (newC_any HS4.out (freshD_ok (by decide)) nameC).mono ?_
  rintro e9 w5 ⟨cc, rfl, S5⟩
  rw [new_fresh] at S5
  have HS5 := Lib.hid (S5.own_nil (e := 9) (size := 1))
  clear S5 HS4
  obtain ⟨i0, hi0, hz0, hz1, hz2⟩ := info_parts infoStr
  have hnI : (n : Int) < 5 := by have := HN5.out; omega
  go_wp2_with fail
  go_loopw [14, 15] (fun l i wr => ∃ (k : Nat) (A : Option Addr) (c : Nat), i = .int .i64 k ∧ k ≤ n ∧ l = .slice A k c ∧ Hid (St empH w none_ empH wr [own 9 1 (.slice A k c) k (strS (List.replicate k wrongB)), cliP cc dd freshC, diskP dd (freshD 100000), blk w.heap.size (.cells (accC xn xa xb xc xd cd) 26), blk (w.heap.size + 2) (.cells (wrdC e f g h) 24), blk (w.heap.size + 1) (.cells (wrdC k0 k1 k2 k3) 24)])) (fun _ i _ => n - (intOf i).toNat)
  case atStart => exact ⟨0, none, 0, rfl, Nat.zero_le _, rfl, HS5⟩
  case round =>
    clear HS5
    obtain ⟨k, A, c, rfl, hk, rfl, HI⟩ := hrel
    by_cases hlt : k < n
    · have hltI : (k : Int) < (n : Int) := by omega
      have HS6 := Lib.hid (HI.out.alloc (.cells #[.string wrongB] 9))
      go_wp2_with (first
        | (at_builtin; refine wpList_append_st 1 9 HS6.out rfl rfl _ _ 39 rfl i0 _ 16 Tryz.underlying39 hi0 hz0 hz1 hz2 rfl (by decide) rfl ⟨wr.heap.size, 0, none⟩ 1 1 [.string wrongB] rfl rfl (fun j u hj => by
            rcases j with _ | j
            · cases hj; exact HS6.out.cell 0 rfl rfl
            · simp at hj) (by simp [Value.oneCell']) (by unfold maxLen; omega) (by omega) ?_)
        | fail)
      intro A3 c3 w8 S8
      have HS8 := Lib.hid (S8.drop 1)
      clear S8 HS6 HI
      go_wp2_with fail
      go_roundw
      case rel => exact ⟨k + 1, A3, c3, by go_num, by omega, rfl, Lib.hid (by
        rw [List.replicate_succ', show strS (List.replicate k wrongB ++ [wrongB]) = strS (List.replicate k wrongB) ++ [.string wrongB] by simp [strS]]
        exact HS8.out)⟩
      case measure => simp [intOf]; omega
    · obtain rfl : k = n := by omega
      clear hk hlt
      go_wp2_with (first
        | (refine wpList_load_st (cs := #[.int .u64 xn, .int .u64 xa, .int .u64 xb, .int .u64 xc, .int .u64 xd, .string cd]) 3 HI.out rfl rfl 26 (.tmp 4) rfl rfl _ Tryz.underlying26 rfl szAcc ?_)
        | fail)
      refine (putReply_all 1 ((k : Int) + 1) xn xa xb xc xd cd 0 0 0 0 _).mono ?_
      rintro e9 w6 ⟨rfl, hb6⟩
      have HS6 := Lib.hid (HI.out.grow hb6)
      clear HI hb6
      go_wp2_with (first
        | (refine wpList_load_st (cs := #[.int .u64 e, .int .u64 f, .int .u64 g, .int .u64 h]) 4 HS6.out rfl rfl 24 (.tmp 6) rfl rfl _ Tryz.underlying24 rfl szWord4 ?_)
        | fail)
      refine (putReply_all 2 ((k : Int) + 2) 0 0 0 0 0 ⟨#[]⟩ e f g h _).mono ?_
      rintro e9 w7 ⟨rfl, hb7⟩
      rw [show (putReplyR 1 ((k : Int) + 1) xn xa xb xc xd cd 0 0 0 0).1 = onS k xn xa xb xc xd cd from rfl, show (putReplyR 2 ((k : Int) + 2) 0 0 0 0 0 ⟨#[]⟩ e f g h).1 = onT k e f g h from rfl]
      obtain ⟨s, hs⟩ : ∃ s, s = onS k xn xa xb xc xd cd := ⟨_, rfl⟩
      obtain ⟨t, ht⟩ : ∃ t, t = onT k e f g h := ⟨_, rfl⟩
      have HSZ : Hid (s.size ≤ 100000 ∧ t.size ≤ 100000) := Lib.hid ⟨by have := H60.out; rw [hs]; exact Nat.le_trans (one_size (by omega)) (by omega), by rw [ht]; exact Nat.le_trans two_size (by decide)⟩
      rw [← hs, ← ht] at HP ⊢
      have HS8 := Lib.hid ((HS6.out.grow hb7).alloc (.cells #[.string s, .string t] 9))
      clear HS6 hb7 hs ht
      go_upto_region 19 with (fail)
      go_wp2_with (first
        | (at_builtin; refine wpList_append_st 1 9 HS8.out rfl rfl _ _ 39 rfl i0 _ 16 Tryz.underlying39 hi0 hz0 hz1 hz2 rfl (by decide) rfl ⟨w7.heap.size, 0, none⟩ 2 2 [.string s, .string t] rfl rfl (fun j u hj => by
            rcases j with _ | _ | j
            · cases hj; exact HS8.out.cell 0 rfl rfl
            · cases hj; exact HS8.out.cell 0 rfl rfl
            · simp at hj) (by simp [Value.oneCell']) (by unfold maxLen; omega) (by omega) ?_)
        | fail)
      intro A3 c3 w8 S8
      have HS9 : Hid (St empH w none_ empH w8 [own 9 1 (.slice A3 (k + 2) c3) (k + 2) (strS (List.replicate k wrongB ++ [s, t])), cliP cc dd freshC, diskP dd (freshD 100000), blk w.heap.size (.cells (accC xn xa xb xc xd cd) 26), blk (w.heap.size + 2) (.cells (wrdC e f g h) 24), blk (w.heap.size + 1) (.cells (wrdC k0 k1 k2 k3) 24)]) := Lib.hid (by
        rw [show strS (List.replicate k wrongB ++ [s, t]) = strS (List.replicate k wrongB) ++ [.string s, .string t] by simp [strS]]
        exact S8.drop 1)
      clear S8 HS8
      have hA3 : A3 = none → k + 2 = 0 ∧ c3 = 0 := by
        obtain ⟨A', c', e', _, h'⟩ := own_form (HS9.out.own_at 0 rfl)
        cases e'
        exact h'
      have hll : (List.replicate k wrongB ++ [s, t]).length = k + 2 := by simp
      have HSC := script_any (C := freshC) HS9.out 1 rfl A3 c3 (List.replicate k wrongB ++ [s, t]) (fun e' => by rw [hll]; exact hA3 e') (fun ad e' j u h' => by
        subst e'
        exact (rowO_of (HS9.out.own_at 0 rfl)).cells j u h') (by rw [hll]; show 0 + (k + 2) ≤ _; omega)
      rw [hll] at HSC
      have HSC := Lib.hid HSC
      clear hA3 hll
      go_wp2_with fail
      refine HSC.out.mono ?_
      rintro e9 w9 ⟨rfl, S9⟩
      have HS10 : Hid (St empH w none_ empH w9 [cliP cc dd (onC k s t), diskP dd (freshD 100000), own 9 1 (.slice A3 (k + 2) c3) (k + 2) (strS (List.replicate k wrongB ++ [s, t])), blk w.heap.size (.cells (accC xn xa xb xc xd cd) 26), blk (w.heap.size + 2) (.cells (wrdC e f g h) 24), blk (w.heap.size + 1) (.cells (wrdC k0 k1 k2 k3) 24)]) := Lib.hid (by
        have S10 : St empH w none_ empH w9 (cliP cc dd (onC k s t) :: _) := S9
        exact (S10.pick 2 rfl).pick 1 rfl)
      clear S9 HSC HS9
      have HM0 : Hid ((onC k s t).may 3) := Lib.hid (by
        refine ⟨by show (0 : Int) ≤ 1; omega, by show (1 : Int) + 9 ≤ _; omega, by show 0 + 9 ≤ _; omega, fun q hq => ?_⟩
        have hq : q ∈ List.replicate k wrongB ++ [s, t] := hq
        have h1 := HSZ.out.1
        have h2 := HSZ.out.2
        rw [List.mem_append] at hq
        rcases hq with hq | hq
        · rw [(List.mem_replicate.1 hq).2]; decide
        · simp only [List.mem_cons, List.not_mem_nil, or_false] at hq
          rcases hq with rfl | rfl <;> omega)
      have HO0 : Hid (freshD 100000).ok := Lib.hid (freshD_ok (by decide))
      go_wp2_with fail
      refine (address_any 0 (by decide) _).mono ?_
      rintro e9 w10 ⟨rfl, hb⟩
      have HSw10 := Lib.hid (HS10.out.grow hb)
      clear HS10 hb
      have HA := account_any HSw10.out HO0.out (addrB 0) HM0.out.ok
      rw [show ((0 : Int) % 5) = 0 from rfl]
      obtain ⟨T1, hT1⟩ : ∃ T1, T1 = askF0 (onC k s t) (freshD 100000) (accX (addrB 0)) := ⟨_, rfl⟩
      rw [← hT1] at HA
      have HA := Lib.hid HA
      have HT1 := Lib.hid hT1
      clear hT1
      go_wp2_with fail
      refine HA.out.mono ?_
      rintro e9 w11 ⟨rfl, S⟩
      obtain ⟨rc1, hrc⟩ : ∃ rc, rc = (T1.out.map ReplyS.acc).getD acc0 := ⟨_, rfl⟩
      have h61 : rc1.size = 6 := by rw [hrc]; exact outLen (f := ReplyS.acc) (z := acc0) (fun _ => rfl) rfl _
      have h11 : rc1.all (·.oneCell') = true := by rw [hrc]; exact outOne (fun _ => oneAcc _ _ _ _ _ _) (oneAcc _ _ _ _ _ _) _
      have HRC1 := Lib.hid hrc
      rw [← hrc]
      have HZ := Lib.hid (S.alloc' (.cells acc0 26) w11.heap.size rfl)
      clear hrc S HA HSw10
      simp only [acc0, accC] at HZ
      go_wp2_with (first
        | (refine wpList_store_st (cs := rc1) 0 HZ.out rfl rfl 26 (.tmp 20) (.tmp 96) rfl rfl rfl (by rw [h61]; exact szAcc) (by rw [h61]; rfl) h11 ?_)
        | fail)
      intro w12 S
      clear h61 h11
      have HF1 := Lib.hid (show After (onC k s t) T1 by rw [HT1.out]; exact ask_after _ _ _ HO0.out)
      have HM1 := Lib.hid (HM0.out.next HF1.out)
      by_cases h3 : 3 ≤ k
      · have h3I : (3 : Int) ≤ (k : Int) := by omega
        obtain ⟨m1, m2, m3, m4, m5⟩ := once_many h3 s t (freshD 100000) T1 HT1.out
        have hrc : rc1 = acc0 := by rw [HRC1.out, m1]; rfl
        obtain ⟨wF, hwF⟩ : ∃ wF, wF = w12 := ⟨_, rfl⟩
        rw [hrc, ← hwF] at S
        rw [← hwF]
        have HSF := Lib.hid S
        have p0 : wF.cell? ⟨w11.heap.size, 0, none⟩ = some (.int .u64 0) := HSF.out.cell 0 rfl rfl
        have p1 : wF.cell? ⟨w11.heap.size, 1, none⟩ = some (.int .u64 0) := HSF.out.cell 0 rfl rfl
        have p2 : wF.cell? ⟨w11.heap.size, 2, none⟩ = some (.int .u64 0) := HSF.out.cell 0 rfl rfl
        have p3 : wF.cell? ⟨w11.heap.size, 3, none⟩ = some (.int .u64 0) := HSF.out.cell 0 rfl rfl
        have p4 : wF.cell? ⟨w11.heap.size, 4, none⟩ = some (.int .u64 0) := HSF.out.cell 0 rfl rfl
        have p5 : wF.cell? ⟨w11.heap.size, 5, none⟩ = some (.string ⟨#[]⟩) := HSF.out.cell 0 rfl rfl
        have HAS := asked_any HSF.out 1 rfl (by rw [m3]; decide)
        have HME := Lib.hid (And.intro m3 (And.intro m4 m5))
        rw [m2]
        have HAS := Lib.hid HAS
        have hsub : ((k + 2 - 3 : Nat) : Int) = (k : Int) + 2 - 3 := by omega
        clear m1 m2 m3 m4 m5 hrc hwF S HZ HP
        go_wp2_with fail
        refine HAS.out.mono ?_
        rintro e9 w13 ⟨A9, n9, rfl, S⟩
        rw [HME.out.1]
        have HKN := known_any S 1 rfl
        rw [HME.out.2.1] at HKN
        have HKN := Lib.hid HKN
        clear S HAS p0 p1 p2 p3 p4 p5
        go_wp2_with fail
        refine HKN.out.mono ?_
        rintro e9 w14 ⟨rfl, S⟩
        have HLF := left_any S 0 rfl
        rw [HME.out.2.2, hsub] at HLF
        have HLF := Lib.hid HLF
        clear S HKN
        go_wp2_with fail
        refine HLF.out.mono ?_
        rintro e9 w15 ⟨rfl, S⟩
        have HB := Lib.hid S.below
        clear S HLF
        go_wp2_with fail
        go_ret
        exact ⟨rfl, HB.out⟩
      · have hkI : (k : Int) < 3 := by omega
        have hk3 : k < 3 := by omega
        have HK3 := Lib.hid hk3
        have HS13 := Lib.hid ((S.pick 2 rfl).pick 2 rfl)
        clear S HZ h3 hk3
        obtain ⟨T2, hT2⟩ : ∃ T2, T2 = askF0 T1.c T1.d (sltX (addrB 0) k0 k1 k2 k3) := ⟨_, rfl⟩
        have HSL := Lib.hid (fun (w' : World) (qs : List Hp) (S : St empH w none_ empH w' (cliP cc dd T1.c :: diskP dd T1.d :: qs)) => slot_any S HF1.out.d (addrB 0) k0 k1 k2 k3 HM1.out.ok)
        rw [← hT2] at HSL
        obtain ⟨rc2, hrc⟩ : ∃ rc, rc = (T2.out.map ReplyS.val).getD wrd0 := ⟨_, rfl⟩
        have hsz : rc2.size = 4 := by rw [hrc]; exact outLen (f := ReplyS.val) (z := wrd0) (fun _ => rfl) rfl _
        have hone : rc2.all (·.oneCell') = true := by rw [hrc]; exact outOne (fun _ => oneWrd _ _ _ _) (oneWrd _ _ _ _) _
        unfold AskQ at HSL
        rw [← hrc] at HSL
        have HRC2 := Lib.hid hrc
        have HT2 := Lib.hid hT2
        have st2 : ∀ X : World, (storeCells ⟨X.heap.size, 0, none⟩ rc2.toList 0).run Tryz.prog (X.alloc (.cells wrd0 24)) = .ok () (X.alloc (.cells rc2 24)) :=
          fun X => run_storeCells_new (P := Tryz.prog) X 24 wrd0 rc2 (by rw [hsz]; kernel_rfl) (by rw [hsz]; rfl) hone
        simp only [wrd0, wrdC] at st2 HSL
        have c4 : w12.cell? ⟨w.heap.size + 1, 0, none⟩ = some (.int .u64 k0) ∧ w12.cell? ⟨w.heap.size + 1, 1, none⟩ = some (.int .u64 k1) ∧ w12.cell? ⟨w.heap.size + 1, 2, none⟩ = some (.int .u64 k2) ∧ w12.cell? ⟨w.heap.size + 1, 3, none⟩ = some (.int .u64 k3) := ⟨HS13.out.cell 6 rfl rfl, HS13.out.cell 6 rfl rfl, HS13.out.cell 6 rfl rfl, HS13.out.cell 6 rfl rfl⟩
        clear hT2 hrc
        go_wp2_with fail
        refine' share ?_ ?_
        rotate_left
        · intro L
          go_region_held3 (fun w' => w'.cell? ⟨w.heap.size + 1, 0, none⟩ = some (.int .u64 k0) ∧ w'.cell? ⟨w.heap.size + 1, 1, none⟩ = some (.int .u64 k1) ∧ w'.cell? ⟨w.heap.size + 1, 2, none⟩ = some (.int .u64 k2) ∧ w'.cell? ⟨w.heap.size + 1, 3, none⟩ = some (.int .u64 k3)) (first
            | assumption
            | exact d4
            | exact four_later hb22 (by assumption)
            | exact four_later (Below.refl _ _).drew (by assumption)
            | exact four_later ((Below.refl _ _).alloc (Nat.le_refl _) _) (by assumption)
            | exact four_later ((Below.refl _ _).alloc (Nat.le_refl _) _).drew (by assumption)
            | exact hset)
            (first
            | (go_at_call 20; refine (address_any 0 (by decide) _).mono ?_; rintro e9 w21 ⟨rfl, hb21⟩; have hb22 := hb21; rw [show ((0 : Int) % 5) = 0 from rfl])
            | (go_at_call 26; first
                | (refine (HSL.out _ _ (HS13.out.drew.grow hb21)).mono ?_; rintro e9 w22 ⟨rfl, S22⟩; have d4 : Four w22 (w.heap.size + 1) k0 k1 k2 k3 := ⟨S22.cell 6 rfl rfl, S22.cell 6 rfl rfl, S22.cell 6 rfl rfl, S22.cell 6 rfl rfl⟩; have HS24 := Lib.hid (S22.alloc' (.cells rc2 24) w22.heap.size rfl))
                | (refine (HSL.out _ _ ((((HS13.out.alloc' (.cells wrd0 24) w12.heap.size rfl).pick 2 rfl).pick 2 rfl).drew.grow hb21)).mono ?_; rintro e9 w22 ⟨rfl, S22⟩; have d4 : Four w22 (w.heap.size + 1) k0 k1 k2 k3 := ⟨S22.cell 7 rfl rfl, S22.cell 7 rfl rfl, S22.cell 7 rfl rfl, S22.cell 7 rfl rfl⟩; have st4 := run_storeCells_from (P := Tryz.prog) w12.heap.size 24 rc2.toList 0 wrd0 w22 (S22.blk_at 2 rfl) (by rw [Array.length_toList, hsz]; rfl) (fun v hv => (Array.all_eq_true_iff_forall_mem.1 hone) v (by simpa using hv)); have S23 := S22.setRow 2 rfl rc2; have hset : Four (w22.setRow w12.heap.size rc2) (w.heap.size + 1) k0 k1 k2 k3 := ⟨S23.cell 7 rfl rfl, S23.cell 7 rfl rfl, S23.cell 7 rfl rfl, S23.cell 7 rfl rfl⟩; have HS24 := Lib.hid S23)
                | (refine (HSL.out _ _ ((((HS13.out.drew.grow hb21).alloc' (.cells wrd0 24) w21.heap.size rfl).pick 2 rfl).pick 2 rfl)).mono ?_; rintro e9 w22 ⟨rfl, S22⟩; have d4 : Four w22 (w.heap.size + 1) k0 k1 k2 k3 := ⟨S22.cell 7 rfl rfl, S22.cell 7 rfl rfl, S22.cell 7 rfl rfl, S22.cell 7 rfl rfl⟩; have st4 := run_storeCells_from (P := Tryz.prog) w21.heap.size 24 rc2.toList 0 wrd0 w22 (S22.blk_at 2 rfl) (by rw [Array.length_toList, hsz]; rfl) (fun v hv => (Array.all_eq_true_iff_forall_mem.1 hone) v (by simpa using hv)); have S23 := S22.setRow 2 rfl rc2; have hset : Four (w22.setRow w21.heap.size rc2) (w.heap.size + 1) k0 k1 k2 k3 := ⟨S23.cell 7 rfl rfl, S23.cell 7 rfl rfl, S23.cell 7 rfl rfl, S23.cell 7 rfl rfl⟩; have HS24 := Lib.hid S23)))
          all_goals
            first
              | (obtain ⟨w23, hw23⟩ : ∃ w23, w23 = w22.alloc (.cells rc2 24) := ⟨_, rfl⟩; rw [← hw23] at HS24 ⊢; obtain ⟨b23, hb23⟩ : ∃ b, b = w22.heap.size := ⟨_, rfl⟩; rw [← hb23] at HS24 ⊢; clear hw23 hb23)
              | (obtain ⟨w23, hw23⟩ : ∃ w23, w23 = w22.setRow w12.heap.size rc2 := ⟨_, rfl⟩; rw [← hw23] at HS24 ⊢; obtain ⟨b23, hb23⟩ : ∃ b, b = w12.heap.size := ⟨_, rfl⟩; rw [← hb23] at HS24 ⊢; clear hw23 hb23)
              | (obtain ⟨w23, hw23⟩ : ∃ w23, w23 = w22.setRow w21.heap.size rc2 := ⟨_, rfl⟩; rw [← hw23] at HS24 ⊢; obtain ⟨b23, hb23⟩ : ∃ b, b = w21.heap.size := ⟨_, rfl⟩; rw [← hb23] at HS24 ⊢; clear hw23 hb23)
            have HS25 : Hid (St empH w none_ empH w23 (blk b23 (.cells rc2 24) :: cliP cc dd T2.c :: diskP dd T2.d :: [blk w11.heap.size (.cells rc1 26), own 9 1 (.slice A3 (k + 2) c3) (k + 2) (strS (List.replicate k wrongB ++ [s, t])), blk w.heap.size (.cells (accC xn xa xb xc xd cd) 26), blk (w.heap.size + 2) (.cells (wrdC e f g h) 24), blk (w.heap.size + 1) (.cells (wrdC k0 k1 k2 k3) 24)])) := HS24
            clear HS24
            revert HS25
            revert b23
            revert w23
            exact L.out
        · intro w23 b23 HS25
          have HF2 := Lib.hid (show After T1.c T2 by rw [HT2.out]; exact ask_after _ _ _ HF1.out.d)
          have HM2 := Lib.hid (HM1.out.next HF2.out)
          have HS26 := Lib.hid ((HS25.out.pick 2 rfl).pick 2 rfl)
          clear HS25 HSL st2 c4 hsz hone HS13
          go_wp2_with fail
          refine (address_any 0 (by decide) _).mono ?_
          rintro e9 w24 ⟨rfl, hb⟩
          have HSw24 := Lib.hid (HS26.out.grow hb)
          clear HS26 hb
          have HA := account_any HSw24.out HF2.out.d (addrB 0) HM2.out.ok
          rw [show ((0 : Int) % 5) = 0 from rfl]
          obtain ⟨T3, hT3⟩ : ∃ T3, T3 = askF0 T2.c T2.d (accX (addrB 0)) := ⟨_, rfl⟩
          rw [← hT3] at HA
          have HA := Lib.hid HA
          have HT3 := Lib.hid hT3
          clear hT3
          go_wp2_with fail
          refine HA.out.mono ?_
          rintro e9 w25 ⟨rfl, S⟩
          obtain ⟨rc3, hrc⟩ : ∃ rc, rc = (T3.out.map ReplyS.acc).getD acc0 := ⟨_, rfl⟩
          have h63 : rc3.size = 6 := by rw [hrc]; exact outLen (f := ReplyS.acc) (z := acc0) (fun _ => rfl) rfl _
          have h13 : rc3.all (·.oneCell') = true := by rw [hrc]; exact outOne (fun _ => oneAcc _ _ _ _ _ _) (oneAcc _ _ _ _ _ _) _
          have HRC3 := Lib.hid hrc
          rw [← hrc]
          have HZ := Lib.hid (S.alloc' (.cells acc0 26) w25.heap.size rfl)
          clear hrc S HA HSw24
          simp only [acc0, accC] at HZ
          go_wp2_with (first
            | (refine wpList_store_st (cs := rc3) 0 HZ.out rfl rfl 26 (.tmp 24) (.tmp 140) rfl rfl rfl (by rw [h63]; exact szAcc) (by rw [h63]; rfl) h13 ?_)
            | fail)
          intro w26 S
          clear h63 h13
          have HF3 := Lib.hid (show After T2.c T3 by rw [HT3.out]; exact ask_after _ _ _ HF2.out.d)
          have HS27 := Lib.hid (S.pick 2 rfl)
          clear S HZ
          go_wp2_with fail
          refine (newC_any HS27.out HF3.out.d nameC).mono ?_
          rintro e9 w27 ⟨ag, rfl, S27⟩
          obtain ⟨E, hE⟩ : ∃ E, E = newC T3.d nameC := ⟨_, rfl⟩
          rw [← hE] at S27
          have HS28 := Lib.hid S27
          have HME : Hid (E.may 2) := Lib.hid (by
            rw [hE]
            exact ⟨by show (0 : Int) ≤ 1; omega, by show (1 : Int) + 6 ≤ _; omega, by show 0 + 6 ≤ _; omega, fun q hq => by cases hq⟩)
          have HE := Lib.hid hE
          clear S27 HS27 hE
          go_wp2_with fail
          refine (address_any 0 (by decide) _).mono ?_
          rintro e9 w28 ⟨rfl, hb⟩
          have HSw28 := Lib.hid (HS28.out.grow hb)
          clear HS28 hb
          have HA := account_any HSw28.out HF3.out.d (addrB 0) HME.out.ok
          rw [show ((0 : Int) % 5) = 0 from rfl]
          obtain ⟨U1, hU1⟩ : ∃ U1, U1 = askF0 E T3.d (accX (addrB 0)) := ⟨_, rfl⟩
          rw [← hU1] at HA
          have HA := Lib.hid HA
          have HU1 := Lib.hid hU1
          clear hU1
          go_wp2_with fail
          refine HA.out.mono ?_
          rintro e9 w29 ⟨rfl, S⟩
          obtain ⟨rc4, hrc⟩ : ∃ rc, rc = (U1.out.map ReplyS.acc).getD acc0 := ⟨_, rfl⟩
          have h64 : rc4.size = 6 := by rw [hrc]; exact outLen (f := ReplyS.acc) (z := acc0) (fun _ => rfl) rfl _
          have h14 : rc4.all (·.oneCell') = true := by rw [hrc]; exact outOne (fun _ => oneAcc _ _ _ _ _ _) (oneAcc _ _ _ _ _ _) _
          have HRC4 := Lib.hid hrc
          rw [← hrc]
          have HZ := Lib.hid (S.alloc' (.cells acc0 26) w29.heap.size rfl)
          clear hrc S HA HSw28
          simp only [acc0, accC] at HZ
          go_wp2_with (first
            | (refine wpList_store_st (cs := rc4) 0 HZ.out rfl rfl 26 (.tmp 27) (.tmp 150) rfl rfl rfl (by rw [h64]; exact szAcc) (by rw [h64]; rfl) h14 ?_)
            | fail)
          intro w30 S
          clear h64 h14
          have HFU := Lib.hid (show After E U1 by rw [HU1.out]; exact ask_after _ _ _ HF3.out.d)
          have HMU := Lib.hid (HME.out.next HFU.out)
          have HS31 := Lib.hid ((S.pick 2 rfl).pick 2 rfl)
          clear S HZ
          obtain ⟨U2, hU2⟩ : ∃ U2, U2 = askF0 U1.c U1.d (sltX (addrB 0) k0 k1 k2 k3) := ⟨_, rfl⟩
          have HSL := Lib.hid (fun (w' : World) (qs : List Hp) (S : St empH w none_ empH w' (cliP ag dd U1.c :: diskP dd U1.d :: qs)) => slot_any S HFU.out.d (addrB 0) k0 k1 k2 k3 HMU.out.ok)
          rw [← hU2] at HSL
          obtain ⟨rc5, hrc⟩ : ∃ rc, rc = (U2.out.map ReplyS.val).getD wrd0 := ⟨_, rfl⟩
          have hsz : rc5.size = 4 := by rw [hrc]; exact outLen (f := ReplyS.val) (z := wrd0) (fun _ => rfl) rfl _
          have hone : rc5.all (·.oneCell') = true := by rw [hrc]; exact outOne (fun _ => oneWrd _ _ _ _) (oneWrd _ _ _ _) _
          unfold AskQ at HSL
          rw [← hrc] at HSL
          have HRC5 := Lib.hid hrc
          have HU2 := Lib.hid hU2
          have st2 : ∀ X : World, (storeCells ⟨X.heap.size, 0, none⟩ rc5.toList 0).run Tryz.prog (X.alloc (.cells wrd0 24)) = .ok () (X.alloc (.cells rc5 24)) :=
            fun X => run_storeCells_new (P := Tryz.prog) X 24 wrd0 rc5 (by rw [hsz]; kernel_rfl) (by rw [hsz]; rfl) hone
          simp only [wrd0, wrdC] at st2 HSL
          have c4 : w30.cell? ⟨w.heap.size + 1, 0, none⟩ = some (.int .u64 k0) ∧ w30.cell? ⟨w.heap.size + 1, 1, none⟩ = some (.int .u64 k1) ∧ w30.cell? ⟨w.heap.size + 1, 2, none⟩ = some (.int .u64 k2) ∧ w30.cell? ⟨w.heap.size + 1, 3, none⟩ = some (.int .u64 k3) := ⟨HS31.out.cell 10 rfl rfl, HS31.out.cell 10 rfl rfl, HS31.out.cell 10 rfl rfl, HS31.out.cell 10 rfl rfl⟩
          clear hU2 hrc
          go_wp2_with fail
          refine' share ?_ ?_
          rotate_left
          · intro L
            go_region_held3 (fun w' => w'.cell? ⟨w.heap.size + 1, 0, none⟩ = some (.int .u64 k0) ∧ w'.cell? ⟨w.heap.size + 1, 1, none⟩ = some (.int .u64 k1) ∧ w'.cell? ⟨w.heap.size + 1, 2, none⟩ = some (.int .u64 k2) ∧ w'.cell? ⟨w.heap.size + 1, 3, none⟩ = some (.int .u64 k3)) (first
              | assumption
              | exact d4
              | exact four_later hb32 (by assumption)
              | exact four_later (Below.refl _ _).drew (by assumption)
              | exact four_later ((Below.refl _ _).alloc (Nat.le_refl _) _) (by assumption)
              | exact four_later ((Below.refl _ _).alloc (Nat.le_refl _) _).drew (by assumption)
              | exact hset)
              (first
              | (go_at_call 20; refine (address_any 0 (by decide) _).mono ?_; rintro e9 w31 ⟨rfl, hb31⟩; have hb32 := hb31; rw [show ((0 : Int) % 5) = 0 from rfl])
              | (go_at_call 26; first
                  | (refine (HSL.out _ _ (HS31.out.drew.grow hb31)).mono ?_; rintro e9 w32 ⟨rfl, S32⟩; have d4 : Four w32 (w.heap.size + 1) k0 k1 k2 k3 := ⟨S32.cell 10 rfl rfl, S32.cell 10 rfl rfl, S32.cell 10 rfl rfl, S32.cell 10 rfl rfl⟩; have HS34 := Lib.hid (S32.alloc' (.cells rc5 24) w32.heap.size rfl))
                  | (refine (HSL.out _ _ ((((HS31.out.alloc' (.cells wrd0 24) w30.heap.size rfl).pick 2 rfl).pick 2 rfl).drew.grow hb31)).mono ?_; rintro e9 w32 ⟨rfl, S32⟩; have d4 : Four w32 (w.heap.size + 1) k0 k1 k2 k3 := ⟨S32.cell 11 rfl rfl, S32.cell 11 rfl rfl, S32.cell 11 rfl rfl, S32.cell 11 rfl rfl⟩; have st4 := run_storeCells_from (P := Tryz.prog) w30.heap.size 24 rc5.toList 0 wrd0 w32 (S32.blk_at 2 rfl) (by rw [Array.length_toList, hsz]; rfl) (fun v hv => (Array.all_eq_true_iff_forall_mem.1 hone) v (by simpa using hv)); have S33 := S32.setRow 2 rfl rc5; have hset : Four (w32.setRow w30.heap.size rc5) (w.heap.size + 1) k0 k1 k2 k3 := ⟨S33.cell 11 rfl rfl, S33.cell 11 rfl rfl, S33.cell 11 rfl rfl, S33.cell 11 rfl rfl⟩; have HS34 := Lib.hid S33)
                  | (refine (HSL.out _ _ ((((HS31.out.drew.grow hb31).alloc' (.cells wrd0 24) w31.heap.size rfl).pick 2 rfl).pick 2 rfl)).mono ?_; rintro e9 w32 ⟨rfl, S32⟩; have d4 : Four w32 (w.heap.size + 1) k0 k1 k2 k3 := ⟨S32.cell 11 rfl rfl, S32.cell 11 rfl rfl, S32.cell 11 rfl rfl, S32.cell 11 rfl rfl⟩; have st4 := run_storeCells_from (P := Tryz.prog) w31.heap.size 24 rc5.toList 0 wrd0 w32 (S32.blk_at 2 rfl) (by rw [Array.length_toList, hsz]; rfl) (fun v hv => (Array.all_eq_true_iff_forall_mem.1 hone) v (by simpa using hv)); have S33 := S32.setRow 2 rfl rc5; have hset : Four (w32.setRow w31.heap.size rc5) (w.heap.size + 1) k0 k1 k2 k3 := ⟨S33.cell 11 rfl rfl, S33.cell 11 rfl rfl, S33.cell 11 rfl rfl, S33.cell 11 rfl rfl⟩; have HS34 := Lib.hid S33)))
            all_goals
              first
                | (obtain ⟨w33, hw33⟩ : ∃ w33, w33 = w32.alloc (.cells rc5 24) := ⟨_, rfl⟩; rw [← hw33] at HS34 ⊢; obtain ⟨b33, hb33⟩ : ∃ b, b = w32.heap.size := ⟨_, rfl⟩; rw [← hb33] at HS34 ⊢; clear hw33 hb33)
                | (obtain ⟨w33, hw33⟩ : ∃ w33, w33 = w32.setRow w30.heap.size rc5 := ⟨_, rfl⟩; rw [← hw33] at HS34 ⊢; obtain ⟨b33, hb33⟩ : ∃ b, b = w30.heap.size := ⟨_, rfl⟩; rw [← hb33] at HS34 ⊢; clear hw33 hb33)
                | (obtain ⟨w33, hw33⟩ : ∃ w33, w33 = w32.setRow w31.heap.size rc5 := ⟨_, rfl⟩; rw [← hw33] at HS34 ⊢; obtain ⟨b33, hb33⟩ : ∃ b, b = w31.heap.size := ⟨_, rfl⟩; rw [← hb33] at HS34 ⊢; clear hw33 hb33)
              have HS35 : Hid (St empH w none_ empH w33 (blk b33 (.cells rc5 24) :: cliP ag dd U2.c :: diskP dd U2.d :: [blk w29.heap.size (.cells rc4 26), blk w25.heap.size (.cells rc3 26), cliP cc dd T3.c, blk b23 (.cells rc2 24), blk w11.heap.size (.cells rc1 26), own 9 1 (.slice A3 (k + 2) c3) (k + 2) (strS (List.replicate k wrongB ++ [s, t])), blk w.heap.size (.cells (accC xn xa xb xc xd cd) 26), blk (w.heap.size + 2) (.cells (wrdC e f g h) 24), blk (w.heap.size + 1) (.cells (wrdC k0 k1 k2 k3) 24)])) := HS34
              clear HS34
              revert HS35
              revert b33
              revert w33
              exact L.out
          · intro w33 b33 HS35
            obtain ⟨o1, o2, o3, o4, o5, o6, o7, o8, o9, o10, o11, o12, o13⟩ := HP.out HK3.out T1 T2 T3 U1 U2 E HT1.out HT2.out HT3.out HE.out HU1.out HU2.out
            have r1 : rc1 = accC xn xa xb xc xd cd := by rw [HRC1.out, o1]; rfl
            have r2 : rc2 = wrdC e f g h := by rw [HRC2.out, o3]; rfl
            have r3 : rc3 = accC xn xa xb xc xd cd := by rw [HRC3.out, o5]; rfl
            have r4 : rc4 = accC xn xa xb xc xd cd := by rw [HRC4.out, o8]; rfl
            have r5 : rc5 = wrdC e f g h := by rw [HRC5.out, o10]; rfl
            rw [r1, r2, r3, r4, r5] at HS35
            have HSF := Lib.hid HS35.out
            have HAS := asked_any HSF.out 5 rfl (by rw [o7]; have := HN5.out; omega)
            have HO := Lib.hid (And.intro o7 (And.intro o12 o13))
            rw [o2, o4, o6, o9, o11]
            have HAS := Lib.hid HAS
            clear o1 o2 o3 o4 o5 o6 o7 o8 o9 o10 o11 o12 o13 r1 r2 r3 r4 r5 HS35 HSL st2 c4 hsz hone HS31 HP
            have f0 : w33.cell? ⟨w11.heap.size, 0, none⟩ = some (.int .u64 xn) := HSF.out.cell 7 rfl rfl
            have f1 : w33.cell? ⟨w11.heap.size, 1, none⟩ = some (.int .u64 xa) := HSF.out.cell 7 rfl rfl
            have f2 : w33.cell? ⟨w11.heap.size, 2, none⟩ = some (.int .u64 xb) := HSF.out.cell 7 rfl rfl
            have f3 : w33.cell? ⟨w11.heap.size, 3, none⟩ = some (.int .u64 xc) := HSF.out.cell 7 rfl rfl
            have f4 : w33.cell? ⟨w11.heap.size, 4, none⟩ = some (.int .u64 xd) := HSF.out.cell 7 rfl rfl
            have f5 : w33.cell? ⟨w11.heap.size, 5, none⟩ = some (.string cd) := HSF.out.cell 7 rfl rfl
            have g0 : w33.cell? ⟨w25.heap.size, 0, none⟩ = some (.int .u64 xn) := HSF.out.cell 4 rfl rfl
            have g1 : w33.cell? ⟨w25.heap.size, 1, none⟩ = some (.int .u64 xa) := HSF.out.cell 4 rfl rfl
            have g2 : w33.cell? ⟨w25.heap.size, 2, none⟩ = some (.int .u64 xb) := HSF.out.cell 4 rfl rfl
            have g3 : w33.cell? ⟨w25.heap.size, 3, none⟩ = some (.int .u64 xc) := HSF.out.cell 4 rfl rfl
            have g4 : w33.cell? ⟨w25.heap.size, 4, none⟩ = some (.int .u64 xd) := HSF.out.cell 4 rfl rfl
            have g5 : w33.cell? ⟨w25.heap.size, 5, none⟩ = some (.string cd) := HSF.out.cell 4 rfl rfl
            have h0 : w33.cell? ⟨w29.heap.size, 0, none⟩ = some (.int .u64 xn) := HSF.out.cell 3 rfl rfl
            have h1 : w33.cell? ⟨w29.heap.size, 1, none⟩ = some (.int .u64 xa) := HSF.out.cell 3 rfl rfl
            have h2 : w33.cell? ⟨w29.heap.size, 2, none⟩ = some (.int .u64 xb) := HSF.out.cell 3 rfl rfl
            have h3 : w33.cell? ⟨w29.heap.size, 3, none⟩ = some (.int .u64 xc) := HSF.out.cell 3 rfl rfl
            have h4 : w33.cell? ⟨w29.heap.size, 4, none⟩ = some (.int .u64 xd) := HSF.out.cell 3 rfl rfl
            have h5 : w33.cell? ⟨w29.heap.size, 5, none⟩ = some (.string cd) := HSF.out.cell 3 rfl rfl
            have x0 : w33.cell? ⟨w.heap.size, 0, none⟩ = some (.int .u64 xn) := HSF.out.cell 9 rfl rfl
            have x1 : w33.cell? ⟨w.heap.size, 1, none⟩ = some (.int .u64 xa) := HSF.out.cell 9 rfl rfl
            have x2 : w33.cell? ⟨w.heap.size, 2, none⟩ = some (.int .u64 xb) := HSF.out.cell 9 rfl rfl
            have x3 : w33.cell? ⟨w.heap.size, 3, none⟩ = some (.int .u64 xc) := HSF.out.cell 9 rfl rfl
            have x4 : w33.cell? ⟨w.heap.size, 4, none⟩ = some (.int .u64 xd) := HSF.out.cell 9 rfl rfl
            have x5 : w33.cell? ⟨w.heap.size, 5, none⟩ = some (.string cd) := HSF.out.cell 9 rfl rfl
            have y0 : w33.cell? ⟨b23, 0, none⟩ = some (.int .u64 e) := HSF.out.cell 6 rfl rfl
            have y1 : w33.cell? ⟨b23, 1, none⟩ = some (.int .u64 f) := HSF.out.cell 6 rfl rfl
            have y2 : w33.cell? ⟨b23, 2, none⟩ = some (.int .u64 g) := HSF.out.cell 6 rfl rfl
            have y3 : w33.cell? ⟨b23, 3, none⟩ = some (.int .u64 h) := HSF.out.cell 6 rfl rfl
            have z0 : w33.cell? ⟨b33, 0, none⟩ = some (.int .u64 e) := HSF.out.cell 0 rfl rfl
            have z1 : w33.cell? ⟨b33, 1, none⟩ = some (.int .u64 f) := HSF.out.cell 0 rfl rfl
            have z2 : w33.cell? ⟨b33, 2, none⟩ = some (.int .u64 g) := HSF.out.cell 0 rfl rfl
            have z3 : w33.cell? ⟨b33, 3, none⟩ = some (.int .u64 h) := HSF.out.cell 0 rfl rfl
            have v0 : w33.cell? ⟨w.heap.size + 2, 0, none⟩ = some (.int .u64 e) := HSF.out.cell 10 rfl rfl
            have v1 : w33.cell? ⟨w.heap.size + 2, 1, none⟩ = some (.int .u64 f) := HSF.out.cell 10 rfl rfl
            have v2 : w33.cell? ⟨w.heap.size + 2, 2, none⟩ = some (.int .u64 g) := HSF.out.cell 10 rfl rfl
            have v3 : w33.cell? ⟨w.heap.size + 2, 3, none⟩ = some (.int .u64 h) := HSF.out.cell 10 rfl rfl
            have hkk : ((k + 2 : Nat) : Int) = (k : Int) + 2 := by omega
            go_wp2_with fail
            refine HAS.out.mono ?_
            rintro e9 w34 ⟨A9, n9, rfl, S⟩
            have HAS2 := asked_any S 3 rfl (by rw [HO.out.2.1]; decide)
            rw [HO.out.1]
            have HAS2 := Lib.hid HAS2
            clear S HAS HSF f0 f1 f2 f3 f4 f5 g0 g1 g2 g3 g4 g5 h0 h1 h2 h3 h4 h5 x0 x1 x2 x3 x4 x5 y0 y1 y2 y3 z0 z1 z2 z3 v0 v1 v2 v3
            go_wp2_with fail
            refine HAS2.out.mono ?_
            rintro e9 w35 ⟨A8, n8, rfl, S⟩
            rw [HO.out.2.1]
            have HKN := known_any S 1 rfl
            rw [HO.out.2.2] at HKN
            have HKN := Lib.hid HKN
            clear S HAS2
            go_wp2_with fail
            refine HKN.out.mono ?_
            rintro e9 w36 ⟨rfl, S⟩
            have HB := Lib.hid S.below
            clear S HKN
            go_wp2_with fail
            go_ret
            exact ⟨rfl, HB.out⟩
end Go.Proofs.YtdnpobjokajigaaGreatDoor
