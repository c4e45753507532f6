/-
  The reader's walk: lists.
-/
import Derived.Test.YtfphlkkhpccpnaaDoorRdW
import Derived.Test.YtfphlkkhpccpnaaDoorAsk
import Derived.Deep.LoopGhost
import Derived.IntWalk
namespace Go.Proofs.YtfphlkkhpccpnaaDoor
open Go.RowKit Go.Proofs K
theorem itsD_snoc (l : List It) (i : It) : itsD (l ++ [i]) = itsD l ++ i.d := by rw [itsD_flat, itsD_flat, List.flatMap_append]; simp
theorem bs_toList (l : List UInt8) : (bs l).toList = l := by rw [ByteArray.toList_eq]; rfl
section
variable {H0 H : Hs} {w0 w : World} {X : Nat → Prop} {ps : List Hp} {p : Nat}
set_option maxRecDepth 100000 in
set_option maxHeartbeats 400000 in
theorem rd_list (N : Nat) (hN : ReadOk N) (S : St H0 w0 X H w ps) (i : Nat) {b : UInt8} {r : List UInt8} (hi : ps[i]? = some (blk p (rdO (bs (b :: r))))) (hr : r.length < N) (hl : r.length ≤ 65536) (d : Nat) (hd : d ≤ 64) (hb : 192 ≤ b.toNat) :
    Calls Tryd.prog 92 #[.pointer (some ⟨p, 0, none⟩), .int .i64 d] w (ItemQ d (b :: r) H0 H w0 X p (ps.eraseIdx i)) := by
  have HNN := Lib.hid (And.intro hN (And.intro hr hl))
  have HLE0 := Lib.hid S.le
  clear hN hr hl
  have hdd : decide ((d : Int) ≤ 64) = true := by simp; omega
  have hb2 : ¬ (b.toNat : Int) < 128 := by omega
  have hb3 : ¬ (b.toNat : Int) < 192 := by omega
  have hsub : (b.toNat : Int) - 192 = ((b.toNat - 192 : Nat) : Int) := by omega
  have h64 : b.toNat - 192 ≤ 64 := by have := b.toNat_lt; omega
  have HS := Lib.hid (S.alloc (.cells #[.bool false, .string ⟨#[]⟩, .slice none 0 0] 76))
  have HI := Lib.hid hi
  have HD := Lib.hid (And.intro hd hb)
  clear S hd hi hb
  go_enter Tryd.func92, Tryd.ntmps92
  go_wp2_with fail
  refine (need_yes _).mono ?_
  rintro e w1 ⟨rfl, rfl⟩
  go_wp2_with fail
  refine (take_bs HS.out (i + 1) HI.out 1 (by simp)).mono ?_
  rintro e w1 ⟨rfl, S1⟩
  have HS1 : Hid (St H0 w0 X H w1 (blk p (rdO (bs r)) :: blk w.heap.size (.cells #[.bool false, .string ⟨#[]⟩, .slice none 0 0] 76) :: ps.eraseIdx i)) := S1
  obtain ⟨f, hf, h0, hf0⟩ : ∃ f : ByteArray, f = bs ((b :: r).take 1) ∧ ∃ h : 0 < f.size, f[0] = b := ⟨_, rfl, by rw [bs_size]; simp, rfl⟩
  rw [← hf]
  have HF := Lib.hid hf
  have h256 : (b.toNat : Int) < 256 := by have := b.toNat_lt; omega
  clear S1 HS hf
  go_wp2_with fail
  refine (many_any HS1.out 0 rfl (b.toNat - 192) h64).mono ?_
  intro e w2 hM
  cases hm : manyL (b.toNat - 192) r with
  | none =>
    rw [hm] at hM
    obtain ⟨rfl, S2⟩ := hM
    have HM := Lib.hid hm
    clear hm
    go_wp2_with fail
    exact bodyPost_pan rfl ⟨none, .manyL HD.out.2 HM.out, rfl, S2.drop 0⟩
  | some q =>
    obtain ⟨n, r2⟩ := q
    rw [hm] at hM
    obtain ⟨rfl, S2⟩ := hM
    have HM := Lib.hid hm
    have HS2 : Hid (St H0 w0 X H w2 (blk p (rdO (bs r2)) :: blk w.heap.size (.cells #[.bool false, .string ⟨#[]⟩, .slice none 0 0] 76) :: ps.eraseIdx i)) := S2
    clear S2 HS1 hm hsub
    by_cases hn : n ≤ r2.length
    · have HN := Lib.hid hn
      clear hn
      go_wp2_with fail
      refine (take_bs HS2.out 0 rfl n HN.out).mono ?_
      rintro e w3 ⟨rfl, S3⟩
      have HS3 : Hid (St H0 w0 X H w3 (blk p (rdO (bs (r2.drop n))) :: blk w.heap.size (.cells #[.bool false, .string ⟨#[]⟩, .slice none 0 0] 76) :: ps.eraseIdx i)) := S3
      clear S3 HS2
      obtain ⟨l1, hl1⟩ : ∃ l1, l1 = r2.take n := ⟨_, rfl⟩
      rw [← hl1]
      have HL1 := Lib.hid hl1
      clear hl1
      have HS4 : Hid (St H0 w0 X H ((w3.alloc (rdO (bs l1))).alloc (.cells #[.bool true, .string ⟨#[]⟩, .slice none 0 0] 76)) (own 76 3 (.slice none 0 0) 0 [] :: blk (w3.heap.size + 1) (.cells #[.bool true, .string ⟨#[]⟩, .slice none 0 0] 76) :: blk w3.heap.size (rdO (bs l1)) :: blk p (rdO (bs (r2.drop n))) :: blk w.heap.size (.cells #[.bool false, .string ⟨#[]⟩, .slice none 0 0] 76) :: ps.eraseIdx i)) :=
        ((HS3.out.alloc (rdO (bs l1))).alloc' (.cells #[.bool true, .string ⟨#[]⟩, .slice none 0 0] 76) (w3.heap.size + 1) (by simp)).own_nil
      have hl1n : l1.length < N := by have := manyL_le HM.out; have := HNN.out.2.1; rw [HL1.out]; simp; omega
      have hl16 : l1.length ≤ 65536 := by have := manyL_le HM.out; have := HNN.out.2.2; rw [HL1.out]; simp; omega
      have HLN := Lib.hid (And.intro hl1n hl16)
      clear hl1n hl16 HS3
      have hd64 : d ≤ 64 := HD.out.1
      go_wp2_with fail
      go_loopg [] l1.length (fun k wr => ∃ (r' : List UInt8) (l0 : List It) (A : Option Addr) (c : Nat) (cs : List Value) (H' : Hs), r'.length ≤ k ∧ l0.length + r'.length ≤ l1.length ∧ Hid (∀ o, RdL (d + 1) r' o → RdL (d + 1) l1 (o.map (l0 ++ ·))) ∧ Hid (Le H H') ∧ Hid (RepL H' cs (itsD l0)) ∧
        Hid (St H0 w0 X H' wr (own 76 3 (.slice A l0.length c) l0.length cs :: blk (w3.heap.size + 1) (.cells #[.bool true, .string ⟨#[]⟩, .slice A l0.length c] 76) :: blk w3.heap.size (rdO (bs r')) :: blk p (rdO (bs (r2.drop n))) :: blk w.heap.size (.cells #[.bool false, .string ⟨#[]⟩, .slice none 0 0] 76) :: ps.eraseIdx i)))
      case atStart => exact ⟨l1, [], none, 0, [], H, Nat.le_refl _, by simp, fun o h => by simpa using h, Le.refl _, by unfold Hid itsD; exact .nil, HS4⟩
      case round =>
        clear HS4
        obtain ⟨r', l0, A, c, cs, H', hrk, hsum, HRD, HLE, HREP, HS⟩ := hrel
        have cin : wr.cell? ⟨w3.heap.size, 0, none⟩ = some (.string (bs r')) := HS.out.cell 2 rfl rfl
        have cou : wr.cell? ⟨w3.heap.size + 1, 2, none⟩ = some (.slice A l0.length c) := HS.out.cell 1 rfl rfl
        by_cases hz : r' = []
        · subst hz
          have hs1 : (bs []).toList.isEmpty = true := by rw [bs_toList]; rfl
          obtain ⟨H2, hle2, hrep2, S5⟩ := HS.out.keepOwn 0 rfl HREP.out
          have HS5 : Hid (St H0 w0 X H2 wr (blk (w3.heap.size + 1) (.cells #[.bool true, .string ⟨#[]⟩, .slice A l0.length c] 76) :: blk w3.heap.size (rdO (bs [])) :: blk p (rdO (bs (r2.drop n))) :: blk w.heap.size (.cells #[.bool false, .string ⟨#[]⟩, .slice none 0 0] 76) :: ps.eraseIdx i)) := S5
          have HR2 := Lib.hid (And.intro hle2 hrep2)
          clear S5 HS hle2 hrep2 cou
          go_wp2_with (first
            | (refine wpList_load_st (cs := #[.bool true, .string ⟨#[]⟩, .slice A l0.length c]) 0 HS5.out rfl rfl 76 (.tmp 9) rfl rfl _ Tryd.underlying76 rfl szItem ?_)
            | (refine wpList_store_st (cs := #[.bool true, .string ⟨#[]⟩, .slice A l0.length c]) 3 HS5.out rfl rfl 76 (.tmp 4) (.tmp 70) rfl rfl rfl szItem rfl (oneItem _ _ _ _ _) ?_)
            | fail)
          intro w6 S6
          go_wp2_with fail
          have hL : RdL (d + 1) (r2.take n) (some l0) := by
            have := HRD.out _ .nil
            rw [HL1.out] at this
            simpa using this
          exact post_cell 0 S6 rfl Tryd.results92 rfl _ Tryd.underlying76 rfl szItem rfl ⟨_, .list HD.out.1 HD.out.2 HM.out HN.out hL, _, _, _, H2, rfl, HLE.out.trans HR2.out.1, by unfold It.d; exact .cons (.pl rfl) (.cons (.pl rfl) (.cons HR2.out.2 .nil)), ((S6.drop 0).drop 0).drop 0⟩
        · have hs1 : (bs r').toList.isEmpty = false := by rw [bs_toList]; cases r' with | nil => exact absurd rfl hz | cons a t => rfl
          have HZ := Lib.hid hz
          have HCALL : Hid (Calls Tryd.prog 92 #[.pointer (some ⟨w3.heap.size, 0, none⟩), .int .i64 ((d : Int) + 1)] wr.drew (ItemQ (d + 1) r' H0 H' w0 X w3.heap.size (own 76 3 (.slice A l0.length c) l0.length cs :: blk (w3.heap.size + 1) (.cells #[.bool true, .string ⟨#[]⟩, .slice A l0.length c] 76) :: blk p (rdO (bs (r2.drop n))) :: blk w.heap.size (.cells #[.bool false, .string ⟨#[]⟩, .slice none 0 0] 76) :: ps.eraseIdx i))) := by
            have := HNN.out.1 r' (d + 1) H0 H' w0 wr.drew X _ w3.heap.size 2 (by have := HLN.out.1; omega) (by have := HLN.out.2; omega) (by omega) HS.out.drew rfl
            exact this
          have c1 : wr.drew.cell? ⟨w3.heap.size + 1, 2, none⟩ = some (.slice A l0.length c) := cou
          obtain ⟨i0, hi0, hz0, hz1, hz2⟩ := info_parts infoItem
          have hl0 : l0.length ≤ 65536 := by have := HLN.out.2; omega
          have hw1 : IntKind.i64.wrap ((d : Int) + 1) = (d : Int) + 1 := IntWalk.i64_in _ (by omega)
          clear hz
          go_wp2_with fail
          go_region_law (first
            | (go_simp; go_at_call 92; refine HCALL.out.mono ?_; intro e w5 hQ; obtain ⟨o, hRd, hR⟩ := hQ; rcases o with _ | ⟨i', r3⟩; (obtain ⟨rfl, S8⟩ := hR; exact bodyPost_pan rfl ⟨none, .badL HD.out.2 HM.out HN.out (HL1.out ▸ HRD.out _ (.bad HZ.out hRd)), rfl, ((((S8.less HLE.out HLE0.out).drop 0).drop 0).drop 0).drop 0⟩); obtain ⟨x, y, z, H2, rfl, hle2, hrep2, S8⟩ := hR; obtain ⟨p1, s1, A1, n1, c2, rfl, rfl, rfl⟩ := it_cells hrep2; have HRD2 := Lib.hid hRd; have HLE2 := Lib.hid hle2; have HREP2 := Lib.hid hrep2; have HS8 := Lib.hid S8; have c8 : w5.cell? ⟨w3.heap.size + 1, 2, none⟩ = some (.slice A l0.length c) := (by have hbk := S8.blk_at 2 rfl; rw [cell_of_row _ _ _ _ _ _ hbk]; rfl); have HS9 := Lib.hid (S8.alloc (.cells #[.bool p1, .string s1, .slice A1 n1 c2] 76)); have c9 := (HS9.out.blk_at 3 rfl); have c10 := (cell_of_row _ _ 2 _ _ _ c9); clear S8 hRd hle2 hrep2 c9)
            | (refine step_append_st 2 76 HS9.out rfl rfl (.tmp 62) (.tmp 67) 74 rfl i0 _ 48 Tryd.underlying74 hi0 hz0 hz1 hz2 rfl (by decide) rfl ⟨w5.heap.size, 0, none⟩ 1 1 [.bool p1, .string s1, .slice A1 n1 c2] rfl rfl (fun j u hj => ?_) (oneItemL _ _ _ _ _) ?_ ?_ ?_; (rw [Addr.add_lit, Nat.zero_add, cell_of_row _ _ _ _ _ _ (HS9.out.blk_at 0 rfl)]; simpa using hj); (unfold maxLen; omega); omega; intro A3 c3 w6 S10; have HS10 := Lib.hid S10; have d3 := S10.blk_at 3 rfl; have d4 := cell_of_row _ _ 2 _ _ _ d3; have d5 := frozen_of_row _ _ 2 _ _ d3; clear S10 d3))
          all_goals
            go_wp2_with fail
            go_roundg r3.length
            case rel =>
              have hlen : (l0 ++ [i']).length = l0.length + 1 := by simp
              have hsh := HRD2.out.shorter
              refine ⟨r3, l0 ++ [i'], A3, c3, cs ++ [.bool p1, .string s1, .slice A1 n1 c2], H2, Nat.le_refl _, by rw [hlen]; omega, fun o h => ?_, HLE.out.trans HLE2.out, ?_, ?_⟩
              · have h2 := HRD.out _ (.step HZ.out HRD2.out h)
                simpa [Option.map_map, Function.comp_def] using h2
              · unfold Hid
                rw [itsD_snoc]
                exact (HREP.out.le HLE2.out).append HREP2.out
              · rw [hlen]
                exact ((HS10.out.setCell (j := 2) 3 rfl (.slice A3 (l0.length + 1) c3)).drop 2).pick 1 rfl
            case measure =>
              have hsh := HRD2.out.shorter
              omega
    · have HN := Lib.hid hn
      clear hn
      go_wp2_with fail
      refine (take_bs_no HS2.out 0 rfl n (Nat.lt_of_not_le HN.out)).mono ?_
      rintro e w3 ⟨rfl, S3⟩
      go_wp2_with fail
      exact bodyPost_pan rfl ⟨none, .cutL HD.out.2 HM.out (Nat.lt_of_not_le HN.out), rfl, S3.drop 0⟩
end
end Go.Proofs.YtfphlkkhpccpnaaDoor
