/-
  Clients: ask, of a word (written by genaskw.py out of XAskA).
  Clients: Account, Slot; a disk's Arm.
  A byte turned turns the sum: plain.
-/
import Derived.Test.YtdnpobjokajigaaGreatDoorPart16
import Derived.Test.YtdnpobjokajigaaGreatDoorPart11
namespace Go.Proofs.YtdnpobjokajigaaGreatDoor
open Go.RowKit Go.Proofs K
set_option linter.unusedVariables false
theorem callValF : ∀ args w, (callFunc 77 args).run Tryz.prog w = .ok (.enter 77 args) w := fun _ _ => by kernel_rfl
def wrd0 : Array Value := wrdC 0 0 0 0
section
variable {H0 H : Hs} {w0 w : World} {X : Nat → Prop} {ps : List Hp}
set_option maxRecDepth 100000 in
set_option maxHeartbeats 8000000 in
theorem askW_any {c d : Nat} {C : Cl} {D : Dk} (S : St H0 w0 X H w (cliP c d C :: diskP d D :: ps)) (hD : D.ok) (x : AskS) (hn0 : 0 ≤ C.next) (hn1 : C.next + 3 ≤ 1000000) (ha : C.asked.length + 3 ≤ 1000000) (hs : ∀ s ∈ C.script, s.size ≤ 140737488355328) :
    Calls Tryz.prog 76 #[.pointer (some ⟨c, 0, none⟩), .agg (askC x.id x.addr x.a x.b x.c x.d x.kind), .func (.func 77) #[] #[]] w (AskQ ReplyS.val wrd0 H0 H w0 X c d ps (askF0 C D x)) := by
  obtain ⟨W, hW⟩ : ∃ W, W = (w.alloc (.cells (askC x.id x.addr x.a x.b x.c x.d x.kind) 45)).alloc (.cells wrd0 24) := ⟨_, rfl⟩
  have HS : Hid (St H0 w0 X H W (blk (w.heap.size + 1) (.cells wrd0 24) :: blk w.heap.size (.cells (askC x.id x.addr x.a x.b x.c x.d x.kind) 45) :: cliP c d C :: diskP d D :: ps)) := by
    rw [hW]
    exact Lib.hid ((S.alloc' _ w.heap.size rfl).alloc' _ (w.heap.size + 1) (by simp))
  have HW := Lib.hid hW
  have HD := Lib.hid hD
  have HN := Lib.hid (And.intro hn0 (And.intro hn1 (And.intro ha hs)))
  have a1 : W.cell? ⟨w.heap.size, 1, none⟩ = some (.string x.addr) := HS.out.cell 1 rfl rfl
  clear S hW hD hn0 hn1 ha hs
  go_enter Tryz.func76, Tryz.ntmps76
  go_upto_region 1 with (fail)
  have eW := HW.out
  simp only [wrd0, wrdC] at eW
  rw [← eW]
  clear eW
  by_cases h20 : x.addr.size = 20
  · have h : ((x.addr.size : Int) != 20) = false := by rw [h20]; rfl
    obtain ⟨k, A1, n1, A2, n2, S1⟩ := openCli HS.out 2 rfl
    have c2 : ∀ w', Below W.heap.size W w' → w'.cell? ⟨c, 2, none⟩ = some (.map (some k)) := fun w' h => (S1.grow h).cell 3 rfl rfl
    have q0 : ∀ w', Below W.heap.size W w' → w'.cell? ⟨w.heap.size, 0, none⟩ = some (.int .u64 x.id) := fun w' h => (HS.out.grow h).cell 1 rfl rfl
    have q1 : ∀ w', Below W.heap.size W w' → w'.cell? ⟨w.heap.size, 1, none⟩ = some (.string x.addr) := fun w' h => (HS.out.grow h).cell 1 rfl rfl
    have q2 : ∀ w', Below W.heap.size W w' → w'.cell? ⟨w.heap.size, 2, none⟩ = some (.int .u64 x.a) := fun w' h => (HS.out.grow h).cell 1 rfl rfl
    have q3 : ∀ w', Below W.heap.size W w' → w'.cell? ⟨w.heap.size, 3, none⟩ = some (.int .u64 x.b) := fun w' h => (HS.out.grow h).cell 1 rfl rfl
    have q4 : ∀ w', Below W.heap.size W w' → w'.cell? ⟨w.heap.size, 4, none⟩ = some (.int .u64 x.c) := fun w' h => (HS.out.grow h).cell 1 rfl rfl
    have q5 : ∀ w', Below W.heap.size W w' → w'.cell? ⟨w.heap.size, 5, none⟩ = some (.int .u64 x.d) := fun w' h => (HS.out.grow h).cell 1 rfl rfl
    have q6 : ∀ w', Below W.heap.size W w' → w'.cell? ⟨w.heap.size, 6, none⟩ = some (.int .i64 x.kind) := fun w' h => (HS.out.grow h).cell 1 rfl rfl
    obtain ⟨g, hg⟩ : ∃ g, g = (lookR C.known x).getD zRep := ⟨_, rfl⟩
    obtain ⟨ok, hok⟩ : ∃ ok, ok = (lookR C.known x).isSome := ⟨_, rfl⟩
    obtain ⟨gc, hgc⟩ : ∃ gc, gc = g.cells := ⟨_, rfl⟩
    have fl : ∀ w', Below W.heap.size W w' → (Instr.lookup 117 (.map (some k)) (.agg #[.int .u64 x.id, .string x.addr, .int .u64 x.a, .int .u64 x.b, .int .u64 x.c, .int .u64 x.d, .int .i64 x.kind]) true).run Tryz.prog w' = .ok (.tuple #[.agg gc, .bool ok]) w' := fun w' h => by
      obtain ⟨F2, ⟨_, o, ho, hm⟩, _⟩ := (S1.grow h).step (i := 2) rfl
      have := lookup_run keyA Tryz.underlying117 ho hm (zeroRep w') x true
      rw [repM_look] at this
      rw [hgc, hok, hg]
      cases hl : lookR C.known x with
      | none => rw [hl] at this; exact this
      | some r => rw [hl] at this; exact this
    have gsz : gc.size = 11 := by rw [hgc]; rfl
    have gone : gc.all (·.oneCell') = true := by rw [hgc]; exact oneReply _ _ _ _ _ _ _ _ _ _ _
    have HS1 := Lib.hid (S1.pick 3 rfl)
    have st2 : ∀ X : World, (storeCells ⟨X.heap.size, 0, none⟩ gc.toList 0).run Tryz.prog ((X.alloc (.cells zReply 37)).drew) = .ok () ((X.alloc (.cells gc 37)).drew) :=
      fun X => run_storeCells_new (P := Tryz.prog) X.drew 37 zReply gc (by rw [gsz]; kernel_rfl) (by rw [gsz]; rfl) gone
    simp only [zReply, replyC] at st2
    have HG := Lib.hid hg
    have HOK := Lib.hid hok
    have HGC := Lib.hid hgc
    clear S1 hg hok hgc gone
    go_wp2_with fail
    have b0 : Below W.heap.size W W.drew := (Below.refl _ _).drew
    have b1 : ∀ o, Below W.heap.size W (W.alloc o).drew := fun o => ((Below.refl _ W).alloc (Nat.le_refl _) _).drew
    go_region
    obtain ⟨w3, hw3⟩ : ∃ w3, w3 = (W.alloc (.cells gc 37)).drew := ⟨_, rfl⟩
    have HS3 : Hid (St H0 w0 X H w3 (blk W.heap.size (.cells gc 37) :: blk (w.heap.size + 1) (.cells wrd0 24) :: blk w.heap.size (.cells (askC x.id x.addr x.a x.b x.c x.d x.kind) 45) :: cliP c d C :: diskP d D :: ps)) := by
      rw [hw3]
      exact Lib.hid ((HS.out.alloc' _ W.heap.size rfl).drew)
    rw [← hw3]
    clear b0 b1 hw3 HS HS1 c2 q0 q1 q2 q3 q4 q5 q6 fl st2 a1 h
    have hca := callValF
    cases ok with
    | true =>
      have HR : Hid (askF0 C D x = ⟨some g, 0, C, D⟩) := Lib.hid (by
        unfold askF0
        rw [if_neg (by omega), HG.out]
        have := HOK.out
        cases hl : lookR C.known x with
        | none => rw [hl] at this; cases this
        | some r => rfl)
      rw [HGC.out] at HS3
      rw [HGC.out]
      clear HG HOK HGC gsz HN HD
      simp only [ReplyS.cells] at HS3 ⊢
      go_wp2_with (first
        | (refine wpList_load_st 0 HS3.out rfl rfl 37 (.tmp 8) rfl rfl _ Tryz.underlying37 rfl szReply ?_)
        | fail)
      refine (valOf_any g _).mono ?_
      rintro e w4 ⟨rfl, hb4⟩
      have HS4 := Lib.hid (HS3.out.grow hb4)
      clear hb4 HS3
      go_wp2_with (first
        | (refine wpList_store_st (cs := g.val) 1 HS4.out rfl rfl 24 (.tmp 6) (.tmp 30) rfl rfl rfl szWord4 rfl (oneWrd _ _ _ _) ?_)
        | fail)
      intro w5 S5
      go_wp2_with fail
      refine post_cell2 0 S5 rfl Tryz.results76 rfl _ Tryz.underlying24 rfl szWord4 rfl ?_
      rw [HR.out]
      exact ⟨rfl, (((S5.drop 0).drop 0).drop 0)⟩
    | false =>
      have HR : Hid (askF0 C D x = askN 3 C D x) := Lib.hid (by
        unfold askF0
        rw [if_neg (by omega)]
        have := HOK.out
        cases hl : lookR C.known x with
        | none => rfl
        | some r => rw [hl] at this; cases this)
      have HS4 := Lib.hid (HS3.out.drop 0)
      clear HG HOK HGC gsz HS3
      go_wp2_with fail
      go_loopw [31] (fun i wr => ∃ (n : Nat) (E : Cl), i = .int .i64 n ∧ n ≤ 3 ∧ Hid (askF0 C D x = askN (3 - n) E D x ∧ 0 ≤ E.next ∧ E.next + (3 - n : Nat) ≤ 1000000 ∧ E.asked.length + (3 - n) ≤ 1000000 ∧ (∀ s ∈ E.script, s.size ≤ 140737488355328) ∧ E.name = C.name ∧
        St H0 w0 X H wr (blk (w.heap.size + 1) (.cells wrd0 24) :: blk w.heap.size (.cells (askC x.id x.addr x.a x.b x.c x.d x.kind) 45) :: cliP c d E :: diskP d D :: ps))) (fun i _ => 3 - (intOf i).toNat)
      case atStart => exact ⟨0, C, rfl, by decide, Lib.hid ⟨HR.out, HN.out.1, HN.out.2.1, HN.out.2.2.1, HN.out.2.2.2, rfl, HS4.out⟩⟩
      case round =>
        clear HS4 HR HN
        obtain ⟨n, E, rfl, hn, HI⟩ := hrel
        obtain ⟨r1, r2, r3, r4, r5, r6, S0⟩ := HI.out
        have HR := Lib.hid r1
        have HN := Lib.hid (And.intro r2 (And.intro r3 (And.intro r4 (And.intro r5 r6))))
        have HS0 := Lib.hid S0
        clear r1 r2 r3 r4 r5 r6 S0 HI
        by_cases hn3 : n = 3
        · subst hn3
          go_wp2_with (first
            | (refine wpList_load_st 0 HS0.out rfl rfl 24 (.tmp 6) rfl rfl _ Tryz.underlying24 rfl szWord4 ?_)
            | (refine wpList_store_st (cs := wrd0) 0 HS0.out rfl rfl 24 (.tmp 6) (.tmp 60) rfl rfl rfl szWord4 rfl (oneWrd _ _ _ _) ?_)
            | fail)
          intro w2 S2
          go_wp2_with fail
          refine post_cell2 0 S2 rfl Tryz.results76 rfl _ Tryz.underlying24 rfl szWord4 rfl ?_
          rw [HR.out]
          exact ⟨rfl, (S2.drop 0).drop 0⟩
        · have hlt : (n : Int) < 3 := by omega
          have HC := Lib.hid (try_any (ps := blk (w.heap.size + 1) (.cells wrd0 24) :: blk w.heap.size (.cells (askC x.id x.addr x.a x.b x.c x.d x.kind) 45) :: cliP c d E :: diskP d D :: ps) HS0.out 2 rfl x HN.out.1 (by have := HN.out.2.1; omega) (by have := HN.out.2.2.1; omega) HN.out.2.2.2.1)
          have HST := Lib.hid (show askN (3 - n) E D x = askN ((2 - n) + 1) E D x by rw [show 3 - n = (2 - n) + 1 by omega])
          have HNM := Lib.hid (try_name E x)
          obtain ⟨p, hp⟩ : ∃ p, p = E.try x := ⟨_, rfl⟩
          rw [← hp] at HC HNM
          have HP := Lib.hid hp
          clear hp
          obtain ⟨⟨g, ok⟩, E2⟩ := p
          go_wp2_with (first
            | (refine wpList_load_st 1 HS0.out rfl rfl 45 (.tmp 4) rfl rfl _ Tryz.underlying45 rfl szAsk ?_)
            | fail)
          refine HC.out.mono ?_
          rintro e w4 ⟨rfl, S4⟩
          have HS5 : Hid (St H0 w0 X H (w4.alloc (.cells zReply 37)) (blk w4.heap.size (.cells zReply 37) :: cliP c d E2 :: blk (w.heap.size + 1) (.cells wrd0 24) :: blk w.heap.size (.cells (askC x.id x.addr x.a x.b x.c x.d x.kind) 45) :: diskP d D :: ps)) := Lib.hid (S4.alloc' _ w4.heap.size rfl)
          clear S4 HC HS0
          simp only [ReplyS.cells]
          go_upto_region 9 with (first
            | (refine wpList_store_st (cs := replyC g.id g.n g.a g.b g.c g.d g.code g.e g.f g.g g.h) 0 HS5.out rfl rfl 37 (.tmp 10) (.tmp 37) rfl rfl rfl szReply rfl (oneReply _ _ _ _ _ _ _ _ _ _ _) ?_)
            | fail)
          intro w6 S6
          have HS6 := Lib.hid S6
          clear S6 HS5
          cases ok with
          | false =>
            go_wp2_with fail
            go_roundw
            case rel => exact ⟨n + 1, E2, by go_num, by omega, Lib.hid (by
              obtain ⟨m1, m2, m3, m4, m5⟩ := HNM.out
              obtain ⟨n1, n2, n3, n4, n5⟩ := HN.out
              refine ⟨?_, ?_, ?_, ?_, ?_, ?_, ?_⟩
              · rw [HR.out, HST.out, askN_succ, ← HP.out, if_neg Bool.false_ne_true, show 3 - (n + 1) = 2 - n by omega]
              · show 0 ≤ E2.next
                have : E2.next = E.next + 1 := m3
                omega
              · have : E2.next = E.next + 1 := m3
                omega
              · have : E2.asked.length = E.asked.length + 1 := m4
                omega
              · exact fun s hs => n4 s (m5 s hs)
              · exact m1.trans n5
              · have S7 := HS6.out.drop 0
                exact (S7.pick 2 rfl).pick 2 rfl)⟩
            case measure => simp [intOf]; omega
          | true =>
            have k0 : w6.cell? ⟨w4.heap.size, 0, none⟩ = some (.int .u64 g.id) := HS6.out.cell 0 rfl rfl
            have k1 : w6.frozen? ⟨w4.heap.size, 0, none⟩ = false := HS6.out.frozen 0 rfl 0
            go_upto_region 11 with (fail)
            obtain ⟨w7, hw7⟩ : ∃ w7, w7 = w6.setCell ⟨w4.heap.size, 0, none⟩ (.int .u64 0) := ⟨_, rfl⟩
            have HS7 : Hid (St H0 w0 X H w7 (cliP c d E2 :: diskP d D :: blk w4.heap.size (.cells (replyC 0 g.n g.a g.b g.c g.d g.code g.e g.f g.g g.h) 37) :: blk (w.heap.size + 1) (.cells wrd0 24) :: blk w.heap.size (.cells (askC x.id x.addr x.a x.b x.c x.d x.kind) 45) :: ps)) := by
              rw [hw7]
              have S7 := HS6.out.setCell (j := 0) 0 rfl (.int .u64 0)
              exact Lib.hid ((S7.pick 4 rfl).pick 2 rfl)
            rw [← hw7]
            clear hw7 HS6 k0 k1
            have HK := keep_any HS7.out HD.out x g.zeroId
            obtain ⟨q, hq⟩ : ∃ q, q = addD D E2.name (recB x g.zeroId) := ⟨_, rfl⟩
            rw [← hq] at HK
            have HK := Lib.hid HK
            have HRES : Hid (askF0 C D x = if q.1 = 0 then ⟨some g.zeroId, 0, E2.learn x g.zeroId, q.2⟩ else ⟨none, q.1, E2, q.2⟩) := Lib.hid (by
              rw [HR.out, HST.out, askN_succ, ← HP.out, if_pos (by rfl), hq, show E2.name = E.name from HNM.out.1])
            have HQ := Lib.hid hq
            clear hq
            go_wp2_with (first
              | (refine wpList_load_st 4 HS7.out rfl rfl 45 (.tmp 4) rfl rfl _ Tryz.underlying45 rfl szAsk ?_)
              | (refine wpList_load_st 2 HS7.out rfl rfl 37 (.tmp 10) rfl rfl _ Tryz.underlying37 rfl szReply ?_)
              | fail)
            refine HK.out.mono ?_
            rintro e w8 ⟨rfl, S8⟩
            have HS8 := Lib.hid S8
            clear S8 HK HS7 HP HST HR HNM HN
            by_cases hq0 : q.1 = 0
            · have hz : (q.1 != 0) = false := by rw [hq0]; rfl
              have HR : Hid (askF0 C D x = ⟨some g.zeroId, 0, E2.learn x g.zeroId, q.2⟩) := Lib.hid (by rw [HRES.out, if_pos hq0])
              clear HRES
              obtain ⟨k', A3, n3, A4, n4, S9⟩ := openCli HS8.out 0 rfl
              have c2 : w8.cell? ⟨c, 2, none⟩ = some (.map (some k')) := S9.cell 3 rfl rfl
              have q0 : w8.cell? ⟨w.heap.size, 0, none⟩ = some (.int .u64 x.id) := S9.cell 7 rfl rfl
              have q1 : w8.cell? ⟨w.heap.size, 1, none⟩ = some (.string x.addr) := S9.cell 7 rfl rfl
              have q2 : w8.cell? ⟨w.heap.size, 2, none⟩ = some (.int .u64 x.a) := S9.cell 7 rfl rfl
              have q3 : w8.cell? ⟨w.heap.size, 3, none⟩ = some (.int .u64 x.b) := S9.cell 7 rfl rfl
              have q4 : w8.cell? ⟨w.heap.size, 4, none⟩ = some (.int .u64 x.c) := S9.cell 7 rfl rfl
              have q5 : w8.cell? ⟨w.heap.size, 5, none⟩ = some (.int .u64 x.d) := S9.cell 7 rfl rfl
              have q6 : w8.cell? ⟨w.heap.size, 6, none⟩ = some (.int .i64 x.kind) := S9.cell 7 rfl rfl
              have r0 : w8.cell? ⟨w4.heap.size, 0, none⟩ = some (.int .u64 0) := S9.cell 5 rfl rfl
              have r1 : w8.cell? ⟨w4.heap.size, 1, none⟩ = some (.int .u64 g.n) := S9.cell 5 rfl rfl
              have r2 : w8.cell? ⟨w4.heap.size, 2, none⟩ = some (.int .u64 g.a) := S9.cell 5 rfl rfl
              have r3 : w8.cell? ⟨w4.heap.size, 3, none⟩ = some (.int .u64 g.b) := S9.cell 5 rfl rfl
              have r4 : w8.cell? ⟨w4.heap.size, 4, none⟩ = some (.int .u64 g.c) := S9.cell 5 rfl rfl
              have r5 : w8.cell? ⟨w4.heap.size, 5, none⟩ = some (.int .u64 g.d) := S9.cell 5 rfl rfl
              have r6 : w8.cell? ⟨w4.heap.size, 6, none⟩ = some (.string g.code) := S9.cell 5 rfl rfl
              have r7 : w8.cell? ⟨w4.heap.size, 7, none⟩ = some (.int .u64 g.e) := S9.cell 5 rfl rfl
              have r8 : w8.cell? ⟨w4.heap.size, 8, none⟩ = some (.int .u64 g.f) := S9.cell 5 rfl rfl
              have r9 : w8.cell? ⟨w4.heap.size, 9, none⟩ = some (.int .u64 g.g) := S9.cell 5 rfl rfl
              have r10 : w8.cell? ⟨w4.heap.size, 10, none⟩ = some (.int .u64 g.h) := S9.cell 5 rfl rfl
              have HS9 := Lib.hid S9
              clear S9 HS8
              go_wp2_with fail
              go_still_tail 6, (by kernel_rfl)
              clear c2 q0 q1 q2 q3 q4 q5 q6 r0 r1 r2 r3 r4 r5 r6 r7 r8 r9 r10
              have HS10 := Lib.hid HS9.out.drew
              change wpList _ _ _ _ _ w8.drew
              generalize w8.drew = w9 at HS10 ⊢
              clear HS9
              go_wp2_with (first
                | (refine wpList_update_st 2 HS10.out rfl keyA Tryz.underlying117 x rfl (.tmp 53) (.tmp 54) (.tmp 55) rfl rfl rfl ?_)
                | fail)
              intro w10 S10
              have HS11 : Hid (St H0 w0 X H w10 (mapP encA k' (repM (putR E2.known x g.zeroId)) :: ownO 9 1 (.slice A3 E2.script.length n3) E2.script.length (strS E2.script) :: own 9 1 (.slice A4 E2.asked.length n4) E2.asked.length (strS E2.asked) :: blk c (cliO d k' E2 (.slice A3 E2.script.length n3) (.slice A4 E2.asked.length n4)) :: diskP d q.2 :: blk w4.heap.size (.cells (replyC 0 g.n g.a g.b g.c g.d g.code g.e g.f g.g g.h) 37) :: blk (w.heap.size + 1) (.cells wrd0 24) :: blk w.heap.size (.cells (askC x.id x.addr x.a x.b x.c x.d x.kind) 45) :: ps)) := Lib.hid (by
                rw [← repM_put]
                exact S10)
              clear S10 HS10
              go_wp2_with (first
                | (refine wpList_load_st 5 HS11.out rfl rfl 37 (.tmp 10) rfl rfl _ Tryz.underlying37 rfl szReply ?_)
                | fail)
              refine (valOf_any g.zeroId _).mono ?_
              rintro e w11 ⟨rfl, hb11⟩
              have HS12 := Lib.hid (HS11.out.grow hb11)
              clear hb11 HS11
              go_wp2_with (first
                | (refine wpList_store_st (cs := g.zeroId.val) 6 HS12.out rfl rfl 24 (.tmp 6) (.tmp 58) rfl rfl rfl szWord4 rfl (oneWrd _ _ _ _) ?_)
                | fail)
              intro w12 S12
              go_wp2_with fail
              refine post_cell2 0 S12 rfl Tryz.results76 rfl _ Tryz.underlying24 rfl szWord4 rfl ?_
              rw [HR.out]
              refine ⟨rfl, ?_⟩
              have S13 := S12.drop 0
              have S14 := ((S13.drop 5).drop 5)
              exact shutCli (C := E2.learn x g.zeroId) ((S14.pick 2 rfl).pick 2 rfl)
            · have hz : (q.1 != 0) = true := by simpa using hq0
              have HR : Hid (askF0 C D x = ⟨none, q.1, E2, q.2⟩) := Lib.hid (by rw [HRES.out, if_neg hq0])
              clear HRES
              go_wp2_with (first
                | (refine wpList_load_st 3 HS8.out rfl rfl 24 (.tmp 6) rfl rfl _ Tryz.underlying24 rfl szWord4 ?_)
                | (refine wpList_store_st (cs := wrd0) 3 HS8.out rfl rfl 24 (.tmp 6) (.tmp 48) rfl rfl rfl szWord4 rfl (oneWrd _ _ _ _) ?_)
                | fail)
              intro w9 S9
              go_wp2_with fail
              refine post_cell2 0 S9 rfl Tryz.results76 rfl _ Tryz.underlying24 rfl szWord4 rfl ?_
              rw [HR.out]
              exact ⟨rfl, ((S9.drop 0).drop 2).drop 2⟩
  · have h : ((x.addr.size : Int) != 20) = true := by
      rw [bne_iff_ne]
      omega
    go_wp2_with (first
      | (refine wpList_load_st 0 HS.out rfl rfl 24 (.tmp 6) rfl rfl _ Tryz.underlying24 rfl szWord4 ?_)
      | (refine wpList_store_st (cs := wrd0) 0 HS.out rfl rfl 24 (.tmp 6) (.tmp 17) rfl rfl rfl szWord4 rfl (oneWrd _ _ _ _) ?_)
      | fail)
    intro w2 S2
    go_wp2_with fail
    refine post_cell2 0 S2 rfl Tryz.results76 rfl _ Tryz.underlying24 rfl szWord4 rfl ?_
    unfold askF0
    rw [if_pos h20]
    exact ⟨rfl, (S2.drop 0).drop 0⟩
end
end Go.Proofs.YtdnpobjokajigaaGreatDoor

namespace Go.Proofs.YtdnpobjokajigaaGreatDoor
open Go.RowKit Go.Proofs K
set_option linter.unusedVariables false
def accX (addr : ByteArray) : AskS := ⟨0, addr, 0, 0, 0, 0, 1⟩
def sltX (addr : ByteArray) (a b c d : Int) : AskS := ⟨0, addr, a, b, c, d, 2⟩
/-- A client that may ask on. -/
structure Cl.ok (C : Cl) : Prop where
  lo : 0 ≤ C.next
  hi : C.next + 3 ≤ 1000000
  asked : C.asked.length + 3 ≤ 1000000
  script : ∀ s ∈ C.script, s.size ≤ 140737488355328
theorem outLen {f : ReplyS → Array Value} {z : Array Value} {n : Nat} (hf : ∀ r, (f r).size = n) (hz : z.size = n) (o : Option ReplyS) : ((o.map f).getD z).size = n := by
  cases o with
  | none => exact hz
  | some r => exact hf r
theorem outOne {f : ReplyS → Array Value} {z : Array Value} (hf : ∀ r, (f r).all (·.oneCell') = true) (hz : z.all (·.oneCell') = true) (o : Option ReplyS) : ((o.map f).getD z).all (·.oneCell') = true := by
  cases o with
  | none => exact hz
  | some r => exact hf r
section
variable {H0 H : Hs} {w0 w : World} {X : Nat → Prop} {ps : List Hp}
set_option maxRecDepth 100000 in
set_option maxHeartbeats 4000000 in
theorem account_any {c d : Nat} {C : Cl} {D : Dk} (S : St H0 w0 X H w (cliP c d C :: diskP d D :: ps)) (hD : D.ok) (addr : ByteArray) (hC : C.ok) :
    Calls Tryz.prog 19 #[.pointer (some ⟨c, 0, none⟩), .string addr] w (AskQ ReplyS.acc acc0 H0 H w0 X c d ps (askF0 C D (accX addr))) := by
  obtain ⟨W, hW⟩ : ∃ W, W = w.alloc (.cells acc0 26) := ⟨_, rfl⟩
  have HS : Hid (St H0 w0 X H W (cliP c d C :: diskP d D :: blk w.heap.size (.cells acc0 26) :: ps)) := by
    rw [hW]
    exact Lib.hid (((S.alloc' _ w.heap.size rfl).pick 2 rfl).pick 2 rfl)
  have HC := Lib.hid (askA_any HS.out hD (accX addr) hC.lo hC.hi hC.asked hC.script)
  simp only [accX] at HC
  have HW := Lib.hid hW
  obtain ⟨T, hT⟩ : ∃ T, T = askF0 C D (accX addr) := ⟨_, rfl⟩
  have e0 : askF0 C D ⟨0, addr, 0, 0, 0, 0, 1⟩ = T := hT.symm
  rw [e0] at HC
  rw [← hT]
  clear S hW hT e0 hC hD
  simp only [askC] at HC
  go_enter Tryz.func19, Tryz.ntmps19
  go_upto_region 1 with (fail)
  have eW := HW.out
  simp only [acc0, accC] at eW
  rw [← eW]
  clear eW
  go_wp2_with fail
  refine HC.out.mono ?_
  rintro e w2 ⟨rfl, S2⟩
  have HS2 := Lib.hid S2
  clear S2 HC HS
  obtain ⟨rc, hrc⟩ : ∃ rc, rc = (T.out.map ReplyS.acc).getD acc0 := ⟨_, rfl⟩
  have h6 : rc.size = 6 := by rw [hrc]; exact outLen (f := ReplyS.acc) (z := acc0) (fun _ => rfl) rfl _
  have h1 : rc.all (·.oneCell') = true := by rw [hrc]; exact outOne (fun _ => oneAcc _ _ _ _ _ _) (oneAcc _ _ _ _ _ _) _
  have HR := Lib.hid hrc
  rw [← hrc]
  clear hrc
  go_wp2_with (first
    | (refine wpList_store_st (cs := rc) 2 HS2.out rfl rfl 26 (.tmp 4) (.tmp 10) rfl rfl rfl (by rw [h6]; exact szAcc) (by rw [h6]; rfl) h1 ?_)
    | fail)
  intro w3 S3
  go_wp2_with fail
  refine post_cell2 0 S3 rfl Tryz.results19 rfl _ Tryz.underlying26 rfl (by rw [h6]; exact szAcc) rfl ?_
  rw [HR.out]
  exact ⟨rfl, S3.drop 0⟩
set_option maxRecDepth 100000 in
set_option maxHeartbeats 4000000 in
theorem slot_any {c d : Nat} {C : Cl} {D : Dk} (S : St H0 w0 X H w (cliP c d C :: diskP d D :: ps)) (hD : D.ok) (addr : ByteArray) (s0 s1 s2 s3 : Int) (hC : C.ok) :
    Calls Tryz.prog 26 #[.pointer (some ⟨c, 0, none⟩), .string addr, .agg (wrdC s0 s1 s2 s3)] w (AskQ ReplyS.val wrd0 H0 H w0 X c d ps (askF0 C D (sltX addr s0 s1 s2 s3))) := by
  obtain ⟨W, hW⟩ : ∃ W, W = (w.alloc (.cells (wrdC s0 s1 s2 s3) 24)).alloc (.cells wrd0 24) := ⟨_, rfl⟩
  have HS : Hid (St H0 w0 X H W (cliP c d C :: diskP d D :: blk (w.heap.size + 1) (.cells wrd0 24) :: blk w.heap.size (.cells (wrdC s0 s1 s2 s3) 24) :: ps)) := by
    rw [hW]
    exact Lib.hid ((((S.alloc' _ w.heap.size rfl).alloc' _ (w.heap.size + 1) (by simp)).pick 3 rfl).pick 3 rfl)
  have HC := Lib.hid (askW_any HS.out hD (sltX addr s0 s1 s2 s3) hC.lo hC.hi hC.asked hC.script)
  simp only [sltX] at HC
  have HW := Lib.hid hW
  obtain ⟨T, hT⟩ : ∃ T, T = askF0 C D (sltX addr s0 s1 s2 s3) := ⟨_, rfl⟩
  have e0 : askF0 C D ⟨0, addr, s0, s1, s2, s3, 2⟩ = T := hT.symm
  rw [e0] at HC
  rw [← hT]
  clear S hW hT e0 hC hD
  simp only [askC] at HC
  have k0 : W.cell? ⟨w.heap.size, 0, none⟩ = some (.int .u64 s0) := HS.out.cell 3 rfl rfl
  have k1 : W.cell? ⟨w.heap.size, 1, none⟩ = some (.int .u64 s1) := HS.out.cell 3 rfl rfl
  have k2 : W.cell? ⟨w.heap.size, 2, none⟩ = some (.int .u64 s2) := HS.out.cell 3 rfl rfl
  have k3 : W.cell? ⟨w.heap.size, 3, none⟩ = some (.int .u64 s3) := HS.out.cell 3 rfl rfl
  simp only [wrdC]
  go_enter Tryz.func26, Tryz.ntmps26
  go_upto_region 1 with (fail)
  have eW := HW.out
  simp only [wrd0, wrdC] at eW
  rw [← eW]
  clear eW
  go_wp2_with fail
  refine HC.out.mono ?_
  rintro e w2 ⟨rfl, S2⟩
  have HS2 := Lib.hid S2
  clear S2 HC HS k0 k1 k2 k3
  obtain ⟨rc, hrc⟩ : ∃ rc, rc = (T.out.map ReplyS.val).getD wrd0 := ⟨_, rfl⟩
  have h6 : rc.size = 4 := by rw [hrc]; exact outLen (f := ReplyS.val) (z := wrd0) (fun _ => rfl) rfl _
  have h1 : rc.all (·.oneCell') = true := by rw [hrc]; exact outOne (fun _ => oneWrd _ _ _ _) (oneWrd _ _ _ _) _
  have HR := Lib.hid hrc
  rw [← hrc]
  clear hrc
  go_wp2_with (first
    | (refine wpList_store_st (cs := rc) 2 HS2.out rfl rfl 24 (.tmp 6) (.tmp 13) rfl rfl rfl (by rw [h6]; exact szWord4) (by rw [h6]; rfl) h1 ?_)
    | fail)
  intro w3 S3
  go_wp2_with fail
  refine post_cell2 0 S3 rfl Tryz.results26 rfl _ Tryz.underlying24 rfl (by rw [h6]; exact szWord4) rfl ?_
  rw [HR.out]
  exact ⟨rfl, (S3.drop 0).drop 2⟩
/-- A disk is armed. -/
def Dk.arm (D : Dk) (after torn : Int) : Dk := { D with after := max after (-1), torn := torn }
set_option maxRecDepth 100000 in
set_option maxHeartbeats 4000000 in
theorem arm_any {d : Nat} {D : Dk} (S : St H0 w0 X H w (diskP d D :: ps)) (after torn : Int) :
    Calls Tryz.prog 28 #[.pointer (some ⟨d, 0, none⟩), .int .i64 after, .int .i64 torn] w (RetS (.tuple #[]) H0 H w0 X (diskP d (D.arm after torn) :: ps)) := by
  obtain ⟨c, fs, hf, S1⟩ := openDisk S 0 rfl
  have HS1 := Lib.hid S1
  have HF := Lib.hid hf
  have c2 : w.cell? ⟨d, 2, none⟩ = some (.int .i64 D.after) := S1.cell 2 rfl rfl
  have c3 : w.cell? ⟨d, 3, none⟩ = some (.int .i64 D.torn) := S1.cell 2 rfl rfl
  have f2 : w.frozen? ⟨d, 2, none⟩ = false := S1.frozen 2 rfl 2
  have f3 : w.frozen? ⟨d, 3, none⟩ = false := S1.frozen 2 rfl 3
  clear S S1 hf
  go_enter Tryz.func28, Tryz.ntmps28
  go_wp2_with fail
  go_end0
  exact ⟨rfl, shutDisk (D := D.arm after torn) HF.out ((((HS1.out.setCell (j := 2) 2 rfl (.int .i64 (max after (-1)))).setCell (j := 3) 0 rfl (.int .i64 torn)).pick 2 rfl).pick 2 rfl)⟩
end
end Go.Proofs.YtdnpobjokajigaaGreatDoor

namespace Go.Proofs.YtdnpobjokajigaaGreatDoor
open Go.RowKit Go.Proofs K
set_option linter.unusedVariables false

theorem bx32 (a b : Nat) (ha : a < 4294967296) (hb : b < 4294967296) : bits .xor .u32 (a : Int) (b : Int) = ((a ^^^ b : Nat) : Int) := by
  have hx : a ^^^ b < 2 ^ 32 := Nat.xor_lt_two_pow (by omega) (by omega)
  have h1 : (BitVec.ofInt 32 (a : Int)).toNat = a := by
    rw [BitVec.ofInt_natCast, BitVec.toNat_ofNat]; exact Nat.mod_eq_of_lt (by omega)
  have h2 : (BitVec.ofInt 32 (b : Int)).toNat = b := by
    rw [BitVec.ofInt_natCast, BitVec.toNat_ofNat]; exact Nat.mod_eq_of_lt (by omega)
  show IntKind.u32.wrap ((BitVec.ofInt 32 (a : Int) ^^^ BitVec.ofInt 32 (b : Int)).toNat : Int) = _
  rw [BitVec.toNat_xor, h1, h2]
  simp [IntKind.wrap, IntKind.bits, IntKind.signed]
  omega
theorem bx8 (a b : Nat) (ha : a < 256) (hb : b < 256) : bits .xor .u8 (a : Int) (b : Int) = ((a ^^^ b : Nat) : Int) := by
  have hx : a ^^^ b < 2 ^ 8 := Nat.xor_lt_two_pow (by omega) (by omega)
  have h1 : (BitVec.ofInt 8 (a : Int)).toNat = a := by
    rw [BitVec.ofInt_natCast, BitVec.toNat_ofNat]; exact Nat.mod_eq_of_lt (by omega)
  have h2 : (BitVec.ofInt 8 (b : Int)).toNat = b := by
    rw [BitVec.ofInt_natCast, BitVec.toNat_ofNat]; exact Nat.mod_eq_of_lt (by omega)
  show IntKind.u8.wrap ((BitVec.ofInt 8 (a : Int) ^^^ BitVec.ofInt 8 (b : Int)).toNat : Int) = _
  rw [BitVec.toNat_xor, h1, h2]
  simp [IntKind.wrap, IntKind.bits, IntKind.signed]
  omega
def topInv : List Nat := [
  0, 65, 195, 130, 134, 199, 69, 4, 77, 12, 142, 207, 203, 138, 8, 73, 154, 219, 89, 24, 28, 93, 223, 158, 215, 150, 20, 85, 81, 16, 146, 211,
  117, 52, 182, 247, 243, 178, 48, 113, 56, 121, 251, 186, 190, 255, 125, 60, 239, 174, 44, 109, 105, 40, 170, 235, 162, 227, 97, 32, 36, 101, 231, 166,
  234, 171, 41, 104, 108, 45, 175, 238, 167, 230, 100, 37, 33, 96, 226, 163, 112, 49, 179, 242, 246, 183, 53, 116, 61, 124, 254, 191, 187, 250, 120, 57,
  159, 222, 92, 29, 25, 88, 218, 155, 210, 147, 17, 80, 84, 21, 151, 214, 5, 68, 198, 135, 131, 194, 64, 1, 72, 9, 139, 202, 206, 143, 13, 76,
  149, 212, 86, 23, 19, 82, 208, 145, 216, 153, 27, 90, 94, 31, 157, 220, 15, 78, 204, 141, 137, 200, 74, 11, 66, 3, 129, 192, 196, 133, 7, 70,
  224, 161, 35, 98, 102, 39, 165, 228, 173, 236, 110, 47, 43, 106, 232, 169, 122, 59, 185, 248, 252, 189, 63, 126, 55, 118, 244, 181, 177, 240, 114, 51,
  127, 62, 188, 253, 249, 184, 58, 123, 50, 115, 241, 176, 180, 245, 119, 54, 229, 164, 38, 103, 99, 34, 160, 225, 168, 233, 107, 42, 46, 111, 237, 172,
  10, 75, 201, 136, 140, 205, 79, 14, 71, 6, 132, 197, 193, 128, 2, 67, 144, 209, 83, 18, 22, 87, 213, 148, 221, 156, 30, 95, 91, 26, 152, 217]
def tabN (i : Nat) : Nat := (csteps 8 (i : Int)).toNat
theorem top_all : (List.range 256).all (fun i => topInv.getD (tabN i / 16777216) 0 == i) = true := by decide +kernel
theorem tab_top {i j : Nat} (hi : i < 256) (hj : j < 256) (h : tabN i / 16777216 = tabN j / 16777216) : i = j := by
  have h1 := List.all_eq_true.1 top_all i (List.mem_range.2 hi)
  have h2 := List.all_eq_true.1 top_all j (List.mem_range.2 hj)
  rw [beq_iff_eq] at h1 h2
  rw [← h1, ← h2, h]
theorem tab_bd (i : Nat) (hi : i < 256) : (csteps 8 (i : Int)) = (tabN i : Int) ∧ tabN i < 4294967296 := by
  obtain ⟨h0, h1⟩ := csteps_bd (x := (i : Int)) (by omega) (by omega) 8
  unfold tabN
  omega
def cbN (t b : Nat) : Nat := t / 256 ^^^ tabN (t % 256 ^^^ b)
theorem xor256 {a b : Nat} (ha : a < 256) (hb : b < 256) : a ^^^ b < 256 := Nat.xor_lt_two_pow (n := 8) ha hb
theorem cbyte_nat {t b : Nat} (ht : t < 4294967296) (hb : b < 256) : cbyte (t : Int) (b : Int) = (cbN t b : Int) := by
  have h8 := xor256 (show t % 256 < 256 by omega) hb
  have h1 := tab_bd _ h8
  unfold cbyte cbN
  rw [show ((t : Int) % 256) = ((t % 256 : Nat) : Int) by omega, bx8 _ _ (by omega) hb, h1.1, show ((t : Int) / 256) = ((t / 256 : Nat) : Int) by omega]
  exact bx32 _ _ (by omega) h1.2
theorem cbN_bd {t b : Nat} (ht : t < 4294967296) (hb : b < 256) : cbN t b < 4294967296 :=
  Nat.xor_lt_two_pow (n := 32) (by omega) (tab_bd _ (xor256 (by omega) hb)).2
theorem xor_cancel {a b c : Nat} (h : a ^^^ b = a ^^^ c) : b = c := by
  have := congrArg (a ^^^ ·) h
  simpa [← Nat.xor_assoc] using this
theorem cbN_top {t b : Nat} (ht : t < 4294967296) : cbN t b / 16777216 = tabN (t % 256 ^^^ b) / 16777216 := by
  have h := Nat.shiftRight_xor_distrib (a := t / 256) (b := tabN (t % 256 ^^^ b)) (i := 24)
  simp only [Nat.shiftRight_eq_div_pow] at h
  unfold cbN
  rw [show (16777216 : Nat) = 2 ^ 24 from rfl, h, show t / 256 / 2 ^ 24 = 0 by omega, Nat.zero_xor]
/-- Other bytes behind the same, the same behind others. -/
theorem cbN_byte {t b c : Nat} (ht : t < 4294967296) (hb : b < 256) (hc : c < 256) (h : cbN t b = cbN t c) : b = c := by
  have h1 := congrArg (· / 16777216) h
  simp only [cbN_top ht] at h1
  exact xor_cancel (tab_top (xor256 (by omega) hb) (xor256 (by omega) hc) h1)
theorem cbN_state {t u b : Nat} (ht : t < 4294967296) (hu : u < 4294967296) (hb : b < 256) (h : cbN t b = cbN u b) : t = u := by
  have h1 := congrArg (· / 16777216) h
  simp only [cbN_top ht, cbN_top hu] at h1
  have h2 := tab_top (xor256 (by omega) hb) (xor256 (by omega) hb) h1
  have h3 : t % 256 = u % 256 := by
    rw [Nat.xor_comm _ b, Nat.xor_comm _ b] at h2
    exact xor_cancel h2
  unfold cbN at h
  rw [h3, Nat.xor_comm, Nat.xor_comm (u / 256)] at h
  have h4 := xor_cancel h
  omega
def cmN (t : Nat) (l : List UInt8) : Nat := l.foldl (fun t b => cbN t b.toNat) t
theorem cmN_cons (t : Nat) (b : UInt8) (l : List UInt8) : cmN t (b :: l) = cmN (cbN t b.toNat) l := rfl
theorem cmN_append (t : Nat) (l r : List UInt8) : cmN t (l ++ r) = cmN (cmN t l) r := List.foldl_append
theorem cmN_bd : ∀ {l : List UInt8} {t : Nat}, t < 4294967296 → cmN t l < 4294967296
  | [], _, h => h
  | b :: l, t, h => cmN_bd (l := l) (cbN_bd h b.toNat_lt)
theorem cmore_nat : ∀ {l : List UInt8} {t : Nat}, t < 4294967296 → cmore (t : Int) l = (cmN t l : Int)
  | [], _, _ => rfl
  | b :: l, t, h => by
    show cmore (cbyte (t : Int) (b.toNat : Int)) l = _
    rw [cbyte_nat h b.toNat_lt, cmN_cons]
    exact cmore_nat (cbN_bd h b.toNat_lt)
theorem cmN_inj : ∀ {l : List UInt8} {t u : Nat}, t < 4294967296 → u < 4294967296 → cmN t l = cmN u l → t = u
  | [], _, _, _, _, h => h
  | b :: l, t, u, ht, hu, h => cbN_state ht hu b.toNat_lt (cmN_inj (cbN_bd ht b.toNat_lt) (cbN_bd hu b.toNat_lt) h)
theorem cmN_turn {t : Nat} (ht : t < 4294967296) (l r : List UInt8) {b c : UInt8} (h : cmN t (l ++ b :: r) = cmN t (l ++ c :: r)) : b = c := by
  rw [cmN_append, cmN_append, cmN_cons, cmN_cons] at h
  have h1 := cmN_bd (l := l) ht
  exact UInt8.toNat_inj.1 (cbN_byte h1 b.toNat_lt c.toNat_lt (cmN_inj (cbN_bd h1 b.toNat_lt) (cbN_bd h1 c.toNat_lt) h))
theorem cnot_nat {x : Nat} (h : x < 4294967296) : cnot (x : Int) = ((4294967295 ^^^ x : Nat) : Int) := by
  unfold cnot
  rw [show IntKind.u32.max = ((4294967295 : Nat) : Int) by rfl]
  exact bx32 _ _ (by omega) h
theorem crcI_nat (s : ByteArray) : crcI 0 s = ((4294967295 ^^^ cmN 4294967295 s.data.toList : Nat) : Int) := by
  unfold crcI
  rw [show cnot 0 = ((4294967295 : Nat) : Int) from (cnot_nat (x := 0) (by decide)).trans (by rfl), cmore_nat (by decide)]
  exact cnot_nat (cmN_bd (by decide))
/-- One byte another one: another sum. -/
theorem crc_turn (l r : List UInt8) {b c : UInt8} (h : crcI 0 (bs (l ++ b :: r)) = crcI 0 (bs (l ++ c :: r))) : b = c := by
  rw [crcI_nat, crcI_nat] at h
  exact cmN_turn (by decide) l r (xor_cancel (Int.ofNat.inj h))
theorem crc_bd (s : ByteArray) : 0 ≤ crcI 0 s ∧ crcI 0 s < 4294967296 := cnot_bd _
theorem sumS_inj {s t : ByteArray} (h : sumS s = sumS t) : crcI 0 s = crcI 0 t := by
  have h1 := crc_bd s
  have h2 := crc_bd t
  have h3 : (sumL (crcI 0 s)).map (fun n => UInt8.ofNat n.toNat) = (sumL (crcI 0 t)).map (fun n => UInt8.ofNat n.toNat) := by
    have := congrArg (fun x : ByteArray => x.data.toList) h
    simp only [sumS, strOfNums_data] at this
    exact this
  generalize crcI 0 s = x at *
  generalize crcI 0 t = y at *
  simp only [sumL, List.map_cons, List.cons.injEq] at h3
  obtain ⟨e1, e2, e3, e4, _⟩ := h3
  have e1 := congrArg UInt8.toNat e1
  have e2 := congrArg UInt8.toNat e2
  have e3 := congrArg UInt8.toNat e3
  have e4 := congrArg UInt8.toNat e4
  simp only [UInt8.toNat_ofNat'] at e1 e2 e3 e4
  omega
end Go.Proofs.YtdnpobjokajigaaGreatDoor
