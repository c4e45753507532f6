/-
  The document's own reading of lists; Decode.
  Slices that are made: arms for the walk.
  The document's own words: digits.
-/
import Derived.Test.YtdnpobjokajigaaGreatDoorPart19
import Derived.Test.YtdnpobjokajigaaGreatDoorK
import Derived.Laws.MakeOwn
import Derived.Laws.OwnMore
import Derived.Test.YtdnpobjokajigaaGreatDoorPart18
namespace Go.Proofs.YtdnpobjokajigaaGreatDoor
open Go.RowKit Go.Proofs K
set_option linter.unusedVariables false

theorem wrap64_nat {m : Nat} (h : m ≤ 65536) : wrap64 (m : Int) = (m : Int) := by unfold wrap64; omega
section
variable {H : Hs} {w : World}
set_option maxRecDepth 100000 in
set_option maxHeartbeats 4000000 in
theorem take_list (N : Nat) (hN : RTakeOk N) (b : UInt8) (r : List UInt8) (d : Nat) (hr : r.length < N) (hl : (b :: r).length ≤ 65536) (hd : d ≤ 64) (hw : Ag H w) {a n : Nat} (h : sizeO (b :: r) = some (a, n)) (hb : 192 ≤ b.toNat) :
    Calls Tryz.prog 139 #[.string (bs (b :: r)), .int .i64 d] w (RTakeQ d (b :: r) H w) := by
  have HS := Lib.hid ((St.start hw).alloc (.cells #[.bool false, .string ⟨#[]⟩, .slice none 0 0] 155))
  have HSZ := Lib.hid (size_any (b :: r) hl)
  have HNN := Lib.hid hN
  obtain ⟨l, hll⟩ : ∃ l, l = b :: r := ⟨_, rfl⟩
  obtain ⟨b', r', he, hc⟩ := size_some h
  cases he
  rcases hc with ⟨h1, _⟩ | ⟨h1, r2, h2, h3, h4, h5, h6, h7⟩
  · omega
  rw [(base_at b).1 hb] at h2
  rw [← hll] at h hl HSZ h5 h6 h7 ⊢
  have hsz : (bs l).size = l.length := bs_size l
  have han : a + n ≤ l.length := by omega
  have h0 : 0 < (bs l).size := by rw [hsz, hll]; simp
  have hb0 : (bs l)[0] = b := by subst hll; rfl
  have hd64 : ¬ (d : Int) > 64 := by omega
  have hlt : ¬ (b.toNat : Int) < 192 := by omega
  have hd65 : decide ((64 : Int) < (d : Int)) = false := decide_eq_false (by omega)
  have hlt2 : decide ((b.toNat : Int) < 192) = false := decide_eq_false (by omega)
  obtain ⟨m, hm⟩ : ∃ m, m = a + n := ⟨_, rfl⟩
  obtain ⟨l1, hl1⟩ : ∃ l1, l1 = (l.drop a).take n := ⟨_, rfl⟩
  have hbody : (bs l).extract a m = bs l1 := by rw [hm, hl1]; exact bs_mid l a n
  have hsum : (a : Int) + (n : Int) = (m : Int) := by omega
  have hs1 : (a : Int) ≤ (m : Int) := by omega
  have hs2 : (m : Int) ≤ ((bs l).size : Int) := by omega
  have hm9 : m ≤ 65536 := by omega
  have hw64 : wrap64 (m : Int) = (m : Int) := wrap64_nat hm9
  have hw1 : IntKind.i64.wrap ((d : Int) + 1) = (d : Int) + 1 := IntWalk.i64_in _ (by omega)
  have hl12 : l1 = r2.take n := by rw [hl1]; exact h5
  have hl1r : l1.length ≤ r.length := by rw [hl12]; exact Nat.le_trans (List.length_take_le' ..) (manyL_le h2)
  have hl1n : l1.length < N := Nat.lt_of_le_of_lt hl1r hr
  have hrl : r.length ≤ 65536 := by rw [hll, List.length_cons] at hl; exact Nat.le_of_succ_le hl
  have hl16 : l1.length ≤ 65536 := Nat.le_trans hl1r hrl
  have HLN := Lib.hid (And.intro hl1n hl16)
  have HH := Lib.hid h
  have HLIST : Hid (∀ k, RdL (d + 1) l1 (some k) → RdI d l (some (.list k, r2.drop n))) := Lib.hid fun k hk => by rw [hll]; exact .list hd hb h2 h3 (hl12 ▸ hk)
  have HNONE : Hid (RdL (d + 1) l1 none → RdI d l none) := Lib.hid fun hk => by rw [hll]; exact .badL hb h2 h3 (hl12 ▸ hk)
  have HLEN : Hid (m = l.length - (r2.drop n).length) := Lib.hid (by rw [hm]; exact (Nat.sub_eq_of_eq_add h7.symm).symm)
  clear hN h hw hl hll h1 h2 h3 h4 h5 h6 h7 hm hl1 hl12 hl1n hl16 hr hb han hsz hl1r hrl hm9
  go_enter Tryz.func139, Tryz.ntmps139
  go_wp2_with fail
  refine (HSZ.out _).mono ?_
  rintro z w1 ⟨rfl, a', n', ok, rfl, ho⟩
  rw [HH.out] at ho
  cases ok with
  | false => cases ho
  | true =>
    cases ho
    have HS4 : Hid (St H w none_ H _ [own 155 3 (.slice none 0 0) 0 [], blk (w.heap.size + 1) (.cells #[.bool true, .string ⟨#[]⟩, .slice none 0 0] 155), blk w.heap.size (.cells #[.bool false, .string ⟨#[]⟩, .slice none 0 0] 155)]) :=
      (HS.out.alloc' (.cells #[.bool true, .string ⟨#[]⟩, .slice none 0 0] 155) (w.heap.size + 1) (by simp)).own_nil
    clear HS
    go_wp2_with fail
    rw [hw64]
    go_loopg [10] l1.length (fun k body wr => ∃ (r' : List UInt8) (l0 : List It) (A : Option Addr) (c : Nat) (cs : List Value) (H' : Hs), body = .string (bs r') ∧ r'.length ≤ k ∧ l0.length + r'.length ≤ l1.length ∧ Hid (∀ o, RdL (d + 1) r' o → RdL (d + 1) l1 (o.map (l0 ++ ·))) ∧ Hid (Le H H') ∧ Hid (RepL H' cs (itsD l0)) ∧
      Hid (St H w none_ H' wr [own 155 3 (.slice A l0.length c) l0.length cs, blk (w.heap.size + 1) (.cells #[.bool true, .string ⟨#[]⟩, .slice A l0.length c] 155), blk w.heap.size (.cells #[.bool false, .string ⟨#[]⟩, .slice none 0 0] 155)]))
    case atStart => exact ⟨l1, [], none, 0, [], H, rfl, Nat.le_refl _, by simp, fun o h => by simpa using h, Le.refl _, by unfold Hid itsD; exact .nil, HS4⟩
    case round =>
      clear HS4
      obtain ⟨r', l0, A, c, cs, H', rfl, hrk, hsum2, HRD, HLE, HREP, HS⟩ := hrel
      have cou : wr.cell? ⟨w.heap.size + 1, 2, none⟩ = some (.slice A l0.length c) := HS.out.cell 1 rfl rfl
      have hsr : ((bs r').size : Int) = (r'.length : Int) := by rw [bs_size]
      by_cases hz : r' = []
      · subst hz
        obtain ⟨H2, hle2, hrep2, S5⟩ := HS.out.keepOwn 0 rfl HREP.out
        have HS5 : Hid (St H w none_ H2 wr [blk (w.heap.size + 1) (.cells #[.bool true, .string ⟨#[]⟩, .slice A l0.length c] 155), blk w.heap.size (.cells #[.bool false, .string ⟨#[]⟩, .slice none 0 0] 155)]) := S5
        have HR2 := Lib.hid (And.intro hle2 hrep2)
        have hz0 : ((bs []).size : Int) = 0 := rfl
        clear S5 HS hle2 hrep2 cou hsr
        go_wp2_with (first
          | (refine wpList_load_st (cs := #[.bool true, .string ⟨#[]⟩, .slice A l0.length c]) 0 HS5.out rfl rfl 155 (.tmp 11) rfl rfl _ Tryz.underlying155 rfl szRItem ?_)
          | (refine wpList_store_st (cs := #[.bool true, .string ⟨#[]⟩, .slice A l0.length c]) 1 HS5.out rfl rfl 155 (.tmp 4) (.tmp 78) rfl rfl rfl szRItem rfl (oneItem _ _ _ _ _) ?_)
          | fail)
        intro w6 S6
        go_wp2_with fail
        have hL : RdL (d + 1) l1 (some l0) := by simpa using HRD.out _ .nil
        refine post_cell3 0 S6 rfl Tryz.results139 rfl _ Tryz.underlying155 rfl szRItem rfl (.inl ⟨_, r2.drop n, .bool true, .string ⟨#[]⟩, .slice A l0.length c, H2, HLIST.out l0 hL, ?_, ?_, ?_⟩)
        · rw [← HLEN.out]; rfl
        · unfold It.d; exact .cons (.pl rfl) (.cons (.pl rfl) (.cons HR2.out.2 .nil))
        · exact (S6.drop 0).drop 0
      · have HZ := Lib.hid hz
        have hpos : (r'.length : Int) > 0 := by have := List.length_pos_iff.2 hz; omega
        have HCALL : Hid (Calls Tryz.prog 139 #[.string (bs r'), .int .i64 ((d : Int) + 1)] wr (RTakeQ (d + 1) r' H' wr)) := Lib.hid (by
          have := HNN.out r' (d + 1) H' wr (by have := HLN.out.1; omega) (by have := HLN.out.2; omega) (by omega) HS.out.ag
          exact this)
        have hl0 : l0.length ≤ 65536 := by have := HLN.out.2; omega
        have hl1 : r'.length ≤ 65536 := by have := HLN.out.2; omega
        have HLE0 : Hid (Le H H) := Lib.hid (Le.refl _)
        clear hz
        go_wp2_with fail
        refine HCALL.out.mono ?_
        rintro e w5 (⟨i', r3, x, y, z, H2, hRd, rfl, hrep2, S8⟩ | ⟨hRd, rfl, S8⟩)
        · obtain ⟨p1, s1, A1, n1, c2, rfl, rfl, rfl⟩ := it_cells hrep2
          have hsh := hRd.shorter
          obtain ⟨k1, hk1⟩ : ∃ k1, r'.length - r3.length = k1 := ⟨_, rfl⟩
          rw [hk1]
          have hr3 : bs (r'.drop k1) = bs r3 := by rw [← hk1, ← hRd.suffix]
          have hex : (bs r').extract k1 (bs r').size = bs r3 := by rw [bs_drop, hr3]
          have hk2 : (k1 : Int) ≤ ((bs r').size : Int) := by rw [bs_size]; omega
          have HS2 : Hid (St H w none_ H2 w5 [own 155 3 (.slice A l0.length c) l0.length cs, blk (w.heap.size + 1) (.cells #[.bool true, .string ⟨#[]⟩, .slice A l0.length c] 155), blk w.heap.size (.cells #[.bool false, .string ⟨#[]⟩, .slice none 0 0] 155)]) := HS.out.more S8
          have HLE2 : Hid (Le H' H2) := S8.le
          have HSa := HS2.out.alloc (.cells #[.bool p1, .string s1, .slice A1 n1 c2] 155)
          have c9 := HSa.blk_at 2 rfl
          have c8 := cell_of_row _ _ 2 _ _ _ c9
          have HS3 := Lib.hid (HSa.alloc' (.cells #[.bool p1, .string s1, .slice A1 n1 c2] 155) (w5.heap.size + 1) (by simp))
          have HX := Lib.hid (And.intro hRd (And.intro hrep2 (And.intro hsh hk1)))
          obtain ⟨i0, hi0, hz0, hz1, hz2⟩ := info_parts infoRItem
          clear hRd hrep2 S8 HS cou hsh hk1 hr3 HS2 HSa c9
          go_wp2_with (first
            | (at_builtin; refine wpList_append_st 2 155 HS3.out rfl rfl _ _ 153 rfl i0 _ 48 Tryz.underlying153 hi0 hz0 hz1 hz2 rfl (by decide) rfl ⟨w5.heap.size + 1, 0, none⟩ 1 1 [.bool p1, .string s1, .slice A1 n1 c2] rfl rfl (fun j u hj => ?_) (oneItemL _ _ _ _ _) (by unfold maxLen; omega) (by omega) ?_)
            | fail)
          · rw [Addr.add_lit, Nat.zero_add, cell_of_row _ _ _ _ _ _ (HS3.out.blk_at 0 rfl)]
            simpa using hj
          intro A3 c3 w6 S10
          have HS10 := Lib.hid S10
          have d3 := S10.blk_at 3 rfl
          have d4 := cell_of_row _ _ 2 _ _ _ d3
          have d5 := frozen_of_row _ _ 2 _ _ d3
          clear S10 d3 HS3
          go_wp2_with fail
          go_roundg r3.length
          case rel =>
            have hlen : (l0 ++ [i']).length = l0.length + 1 := by simp
            obtain ⟨hRd, hrep2, hsh, hk1⟩ := HX.out
            refine ⟨r3, l0 ++ [i'], A3, c3, cs ++ [.bool p1, .string s1, .slice A1 n1 c2], H2, rfl, Nat.le_refl _, by rw [hlen]; omega, fun o h => ?_, HLE.out.trans HLE2.out, ?_, ?_⟩
            · have h2 := HRD.out _ (.step HZ.out hRd h)
              simpa [Option.map_map, Function.comp_def] using h2
            · unfold Hid
              rw [itsD_snoc]
              exact (HREP.out.le HLE2.out).append hrep2
            · rw [hlen]
              exact ((((HS10.out.setCell (j := 2) 3 rfl (.slice A3 (l0.length + 1) c3)).drop 2).drop 2).pick 1 rfl)
          case measure =>
            have hsh := HX.out.2.2.1
            omega
        · have HS2 : Hid (St H w none_ H w5 [own 155 3 (.slice A l0.length c) l0.length cs, blk (w.heap.size + 1) (.cells #[.bool true, .string ⟨#[]⟩, .slice A l0.length c] 155), blk w.heap.size (.cells #[.bool false, .string ⟨#[]⟩, .slice none 0 0] 155)]) := (HS.out.more S8).less HLE.out (Le.refl _)
          have HN := Lib.hid (HNONE.out (HRD.out _ (.bad HZ.out hRd)))
          have HS3 := Lib.hid (HS2.out.alloc (.cells #[.bool false, .string ⟨#[]⟩, .slice none 0 0] 155))
          clear S8 HS cou hRd HS2
          simp only [zItem]
          go_wp2_with (first
            | (refine wpList_store_st (cs := #[.bool false, .string ⟨#[]⟩, .slice none 0 0]) 3 HS3.out rfl rfl 155 (.tmp 4) (.tmp 68) rfl rfl rfl szRItem rfl (oneItem _ _ _ _ _) ?_)
            | fail)
          intro w6 S6
          go_wp2_with fail
          exact post_cell3 0 S6 rfl Tryz.results139 rfl _ Tryz.underlying155 rfl szRItem rfl (.inr ⟨HN.out, rfl, (((S6.drop 0).drop 0).drop 0).drop 0⟩)
end
theorem take_ok : ∀ N, RTakeOk N
  | 0 => fun l d H w h => absurd h (Nat.not_lt_zero _)
  | N + 1 => fun l d H w h hl hd hw => by
    by_cases hdd : 64 < d
    · exact take_none l d hl hd hw (.inl hdd)
    · cases hs : sizeO l with
      | none => exact take_none l d hl hd hw (.inr hs)
      | some q =>
        obtain ⟨a, n⟩ := q
        cases l with
        | nil => cases hs
        | cons b r =>
          by_cases hb : b.toNat < 192
          · exact take_text b r d hl (by omega) hw hs hb
          · exact take_list N (take_ok N) b r d (by rw [List.length_cons] at h; omega) hl (by omega) hw hs (by omega)
def RDecQ (l : List UInt8) (H : Hs) (w : World) (e : Ending) (w' : World) : Prop :=
  (∃ i x y z H', DecR l (some i) ∧ e = .returned (.tuple #[.agg #[x, y, z], .int .i64 0]) ∧ RepL H' [x, y, z] i.d ∧ St H w none_ H' w' []) ∨
  (∃ n : Int, DecR l none ∧ ((n == 0) = false) ∧ e = .returned (.tuple #[zItem, .int .i64 n]) ∧ St H w none_ H w' [])
set_option maxRecDepth 100000 in
set_option maxHeartbeats 1000000 in
theorem rdecode_any (l : List UInt8) {H : Hs} {w : World} (hw : Ag H w) : Calls Tryz.prog 79 #[.string (bs l)] w (RDecQ l H w) := by
  have HS := Lib.hid ((St.start hw).alloc (.cells #[.bool false, .string ⟨#[]⟩, .slice none 0 0] 155))
  have hsz : ((bs l).size : Int) = (l.length : Int) := by rw [bs_size]
  by_cases hl : l.length ≤ 65536
  · have hz : ¬ ((bs l).size : Int) > 65536 := by omega
    have HT := Lib.hid (take_ok (l.length + 1) l 0 H _ (Nat.lt_succ_self _) hl (by decide) HS.out.ag)
    have HL := Lib.hid hl
    clear hl hw
    go_enter Tryz.func79, Tryz.ntmps79
    go_wp2_with fail
    refine HT.out.mono ?_
    rintro e w1 (⟨i, r, x, y, z, H2, hRd, rfl, hrep, S1⟩ | ⟨hRd, rfl, S1⟩)
    · obtain ⟨p1, s1, A1, n1, c1, rfl, rfl, rfl⟩ := it_cells hrep
      have HR := Lib.hid (And.intro hRd hrep)
      have HS2 := Lib.hid ((HS.out.more S1).alloc (.cells #[.bool p1, .string s1, .slice A1 n1 c1] 155))
      have hsh := hRd.shorter
      by_cases hr : r = []
      · subst hr
        have hk : ((l.length - ([] : List UInt8).length : Nat) : Int) = (l.length : Int) := by simp
        rw [hk]
        have hne : ((l.length : Int) != (l.length : Int)) = false := by simp
        clear hRd hrep S1 HS hk hsh
        go_wp2_with (first
          | (refine wpList_load_st (cs := #[.bool p1, .string s1, .slice A1 n1 c1]) 0 HS2.out rfl rfl 155 (.tmp 4) rfl rfl _ Tryz.underlying155 rfl szRItem ?_)
          | (refine wpList_store_st (cs := #[.bool p1, .string s1, .slice A1 n1 c1]) 1 HS2.out rfl rfl 155 (.tmp 2) (.tmp 26) rfl rfl rfl szRItem rfl (oneItem _ _ _ _ _) ?_)
          | fail)
        intro w4 S4
        go_wp2_with fail
        exact post_cell2 0 S4 rfl Tryz.results79 rfl _ Tryz.underlying155 rfl szRItem rfl (.inl ⟨i, _, _, _, H2, .good HL.out HR.out.1, rfl, HR.out.2, (S4.drop 0).drop 0⟩)
      · have hpos := List.length_pos_iff.2 hr
        have hne : (((l.length - r.length : Nat) : Int) != (l.length : Int)) = true := by rw [bne_iff_ne]; omega
        have HN := Lib.hid hr
        obtain ⟨q, hq⟩ : ∃ q : Nat, l.length - r.length = q := ⟨_, rfl⟩
        rw [hq] at hne ⊢
        clear hRd hrep S1 HS hsh hr hpos hq
        go_wp2_with (first
          | (refine wpList_store_st (cs := #[.bool false, .string ⟨#[]⟩, .slice none 0 0]) 1 HS2.out rfl rfl 155 (.tmp 2) (.tmp 25) rfl rfl rfl szRItem rfl (oneItem _ _ _ _ _) ?_)
          | fail)
        intro w4 S4
        go_wp2_with fail
        exact post_cell2 0 S4 rfl Tryz.results79 rfl _ Tryz.underlying155 rfl szRItem rfl (.inr ⟨2, .more HL.out HR.out.1 HN.out, rfl, rfl, ((S4.drop 0).drop 0).less ((S4.drop 0).drop 0).le (Le.refl _)⟩)
    · have HN := Lib.hid hRd
      have HS2 := Lib.hid ((HS.out.more S1).alloc (.cells #[.bool false, .string ⟨#[]⟩, .slice none 0 0] 155))
      clear hRd S1 HS
      simp only [zItem]
      go_wp2_with (first
        | (refine wpList_store_st (cs := #[.bool false, .string ⟨#[]⟩, .slice none 0 0]) 1 HS2.out rfl rfl 155 (.tmp 2) (.tmp 25) rfl rfl rfl szRItem rfl (oneItem _ _ _ _ _) ?_)
        | fail)
      intro w4 S4
      go_wp2_with fail
      exact post_cell2 0 S4 rfl Tryz.results79 rfl _ Tryz.underlying155 rfl szRItem rfl (.inr ⟨2, .bad HL.out HN.out, rfl, rfl, (S4.drop 0).drop 0⟩)
  · have hz : ((bs l).size : Int) > 65536 := by omega
    have HL := Lib.hid (show 65536 < l.length by omega)
    clear hl hw
    go_enter Tryz.func79, Tryz.ntmps79
    go_wp2_with (first
      | (refine wpList_store_st (cs := #[.bool false, .string ⟨#[]⟩, .slice none 0 0]) 0 HS.out rfl rfl 155 (.tmp 2) (.tmp 10) rfl rfl rfl szRItem rfl (oneItem _ _ _ _ _) ?_)
      | fail)
    intro w4 S4
    go_wp2_with fail
    exact post_cell2 0 S4 rfl Tryz.results79 rfl _ Tryz.underlying155 rfl szRItem rfl (.inr ⟨3, .long HL.out, rfl, rfl, S4.drop 0⟩)
end Go.Proofs.YtdnpobjokajigaaGreatDoor

namespace Go.Proofs.YtdnpobjokajigaaGreatDoor.K
open Go.RowKit
section
variable {P : Program} {H0 H : Hs} {w0 w : World} {X : Nat → Prop} {ps : List Hp} {ops : Array Oper} {rest : List Oper} {o : Oper} {a : Act} {Q : Exit → Act → World → Prop}
/-- A row with room. -/
theorem St.madeRoom {e size c : Nat} (h : St H0 w0 X H w ps) (cs : Array Value) (hs : cs.size = c * size) (hn : c ≤ maxLen) : St H0 w0 X H (w.alloc (.cells cs e)) (own e size (.slice (some ⟨w.heap.size, 0, none⟩) 0 c) 0 [] :: ps) :=
  (h.alloc (.cells cs e)).see 0 rfl fun F hF => ⟨World.ownsRow_made w cs c (Nat.zero_le _) hn hs, fun k hk => by cases hk; exact hF.1⟩
theorem wpList_makeRoom_st {size c : Nat} (S : St H0 w0 X H w ps) (hgd : o.guard = none) (e t : TypeId) (y : Operand) (ho : o.op = .makeSlice t (.const (.int .i64 0)) y) (i : TypeInfo) (z : Value) (bytes : Nat) (hy : a.eval y = .int .i64 c)
    (ht : P.underlying t = some (.slice e)) (hi : P.info? e = some i) (hz : i.zero = some z) (hsize : i.size = size) (hby : i.bytes = bytes) (hbytes : c * bytes ≤ 140737488355328) (hc : c ≤ 4611686018427387904)
    (h : ∀ w', St H0 w0 X H w' (own e size (.slice (some ⟨w.heap.size, 0, none⟩) 0 c) 0 [] :: ps) → wpList P ops Q rest (a.put o.dst (.slice (some ⟨w.heap.size, 0, none⟩) 0 c)) w') : wpList P ops Q (o :: rest) a w := by
  subst hsize hby
  refine wpList_plain hgd fun K' hK => ?_
  have hb' : (i.bytes : Int) * (c : Int) ≤ 281474976710656 := by
    have h : ((c * i.bytes : Nat) : Int) ≤ 281474976710656 := by omega
    rw [Nat.mul_comm] at h
    rwa [Int.natCast_mul] at h
  have hr := run_make (P := P) w t e i z ht hi hz .i64 .i64 0 c (Int.le_refl _) (by omega) hb' (by omega)
  simp only [Int.toNat_zero, Int.toNat_natCast] at hr
  unfold Oper.wp execOp
  have h0 : a.eval (.const (.int .i64 0)) = .int .i64 0 := rfl
  simp only [ho, h0, hy, Sem.run_bind, Sem.run_pure, Result.andThen_ok, hr]
  exact hK _ _ (h _ (S.madeRoom _ (size_madeCells _ _) (by unfold maxLen; omega)))
theorem wpList_makeFull_st {size c : Nat} (S : St H0 w0 X H w ps) (hgd : o.guard = none) (e t : TypeId) (x y : Operand) (ho : o.op = .makeSlice t x y) (i : TypeInfo) (z : Value) (bytes : Nat) (hx : a.eval x = .int .i64 c) (hy : a.eval y = .int .i64 c)
    (ht : P.underlying t = some (.slice e)) (hi : P.info? e = some i) (hz : i.zero = some z) (hsize : i.size = size) (hby : i.bytes = bytes) (hbytes : c * bytes ≤ 140737488355328) (hc : c ≤ 4611686018427387904)
    (h : ∀ w', St H0 w0 X H w' (own e size (.slice (some ⟨w.heap.size, 0, none⟩) c c) c (madeCells z.cells (c * size)).toList :: ps) → wpList P ops Q rest (a.put o.dst (.slice (some ⟨w.heap.size, 0, none⟩) c c)) w') : wpList P ops Q (o :: rest) a w := by
  subst hsize hby
  refine wpList_plain hgd fun K' hK => ?_
  have hb' : (i.bytes : Int) * (c : Int) ≤ 281474976710656 := by
    have h : ((c * i.bytes : Nat) : Int) ≤ 281474976710656 := by omega
    rw [Nat.mul_comm] at h
    rwa [Int.natCast_mul] at h
  have hr := run_make (P := P) w t e i z ht hi hz .i64 .i64 c c (by omega) (Int.le_refl _) hb' (by omega)
  simp only [Int.toNat_natCast] at hr
  unfold Oper.wp execOp
  simp only [ho, hx, hy, Sem.run_bind, Sem.run_pure, Result.andThen_ok, hr]
  exact hK _ _ (h _ (S.madeRow _ (size_madeCells _ _) (by unfold maxLen; omega)))
theorem fold_put : ∀ (l : List Value) (k : Nat) (z : Array Value), ((l.zipIdx k).foldl (fun (a : Array Value) (x : Value × Nat) => a.setIfInBounds (0 + x.2) x.1) z).size = z.size ∧
    ∀ i, ((l.zipIdx k).foldl (fun (a : Array Value) (x : Value × Nat) => a.setIfInBounds (0 + x.2) x.1) z)[i]? = if k ≤ i ∧ i < k + l.length ∧ i < z.size then l[i - k]? else z[i]?
  | [], k, z => ⟨rfl, fun i => by rw [if_neg (by simp; omega)]; rfl⟩
  | v :: l, k, z => by
    obtain ⟨h1, h2⟩ := fold_put l (k + 1) (z.setIfInBounds (0 + k) v)
    rw [List.zipIdx_cons, List.foldl_cons]
    refine ⟨by rw [h1, Array.size_setIfInBounds], fun i => ?_⟩
    rw [h2, Array.size_setIfInBounds, List.length_cons]
    by_cases hi : k + 1 ≤ i ∧ i < k + 1 + l.length ∧ i < z.size
    · rw [if_pos hi, if_pos (by omega), show i - k = (i - (k + 1)) + 1 by omega, List.getElem?_cons_succ]
    · rw [if_neg hi, Nat.zero_add, Array.getElem?_setIfInBounds]
      by_cases hk : k = i
      · subst hk
        by_cases hz : k < z.size
        · rw [if_pos rfl, if_pos hz, if_pos (by omega), Nat.sub_self, List.getElem?_cons_zero]
        · rw [if_pos rfl, if_neg hz, if_neg (by omega), Array.getElem?_eq_none (by omega)]
      · rw [if_neg hk, if_neg (by omega)]
theorem fold_put_all (cs z : Array Value) (h : z.size = cs.size) : cs.zipIdx.foldl (fun (a : Array Value) (x : Value × Nat) => a.setIfInBounds (0 + x.2) x.1) z = cs := by
  have e : cs.zipIdx = (cs.toList.zipIdx 0).toArray := by
    apply Array.toList_inj.1
    simp
  rw [e, List.foldl_toArray]
  obtain ⟨h1, h2⟩ := fold_put cs.toList 0 z
  apply Array.ext_getElem?
  intro i
  rw [h2]
  by_cases hi : i < cs.size
  · rw [if_pos (by simp; omega)]
    simp
  · rw [if_neg (by simp; omega), Array.getElem?_eq_none (by omega), Array.getElem?_eq_none (by omega)]
/-- A new slice of one element that is a whole. -/
theorem wpList_build_one_st {e t : TypeId} {cs : Array Value} (S : St H0 w0 X H w ps) (hgd : o.guard = none) (x : Operand) (ho : o.op = .buildSlice t 1 #[(0, x)]) (hx : a.eval x = .agg cs) (i : TypeInfo) (z : Value) (ht : P.underlying t = some (.slice e)) (hi : P.info? e = some i) (hz : i.zero = some z) (hsize : i.size = cs.size)
    (h0 : cs.size ≠ 0) (hn : cs.size ≤ 1000)
    (h : St H0 w0 X H (w.alloc (.cells cs e)) (own e cs.size (.slice (some ⟨w.heap.size, 0, none⟩) 1 1) 1 cs.toList :: ps) → wpList P ops Q rest (a.put o.dst (.slice (some ⟨w.heap.size, 0, none⟩) 1 1)) (w.alloc (.cells cs e))) : wpList P ops Q (o :: rest) a w := by
  refine wpList_plain hgd fun K' hK => ?_
  have hr : (Instr.buildSlice t 1 #[(0, .agg cs)]).run P w = .ok (.slice (some ⟨w.heap.size, 0, none⟩) 1 1) (w.alloc (.cells cs e)) := by
    have hn2 : ¬ (16777216 < cs.size) := by omega
    simp [Instr.buildSlice, run_underlying ht, typeInfo, hi, sizeOf, zeroValue, hz, hsize, h0, hn2, newRow, Instr.fill, Value.cells]
    congr 2
    have hf := fun z : Array Value => fold_put_all cs z
    simp only [Nat.zero_add] at hf
    have hs : cs.zipIdx.size = cs.size := by simp
    rw [← hs]
    exact hf _ (by simp)
  unfold Oper.wp execOp
  simp only [ho, hx, Sem.run_bind, Sem.run_pure, Result.andThen_ok, List.map_toArray, List.map_cons, List.map_nil, hr]
  exact hK _ _ (h (S.madeRow cs (by omega) (by unfold maxLen; omega)))
/-- A whole that lies in a row, loaded. -/
theorem run_loadVar_at (w : World) (a : Addr) (ty : TypeId) (cs : Array Value) (d : TypeDesc) (hc : ∀ j u, cs[j]? = some u → w.cell? (a.add j) = some u)
    (hu : P.underlying ty = some d) (hd : (match d with | .struct _ | .array _ _ => true | _ => false) = true) (hi : (P.info? ty).map (·.size) = some cs.size) :
    (loadVar ty a).run P w = .ok (.agg cs) w := by
  have hl : (loadCells a cs.toList.length).run P w = .ok cs.toList.toArray w :=
    run_loadCells_list (P := P) w a cs.toList (fun j v hv => hc j v (by simpa using hv))
  cases hq : P.info? ty with
  | none => simp [hq] at hi
  | some i =>
    have hs : i.size = cs.size := by simpa [hq] using hi
    have hagg : (isAgg ty).run P w = .ok true w := by
      unfold isAgg
      rw [Sem.run_bind, run_underlying hu w]
      cases d <;> simp_all
    simp only [Array.length_toList, Array.toArray_toList] at hl
    simp [loadVar, Sem.run_bind, hagg, sizeOf, typeInfo, hq, hs, hl]
theorem wpList_loadOwn_st {e size n g c q : Nat} {xs : List Value} {cs : Array Value} (i : Nat) (S : St H0 w0 X H w ps) (hi : ps[i]? = some (own e size (.slice (some ⟨g, 0, none⟩) n c) n xs))
    (hgd : o.guard = none) (ty : TypeId) (x : Operand) (ho : o.op = .load ty x) (hx : a.eval x = .pointer (some ⟨g, q, none⟩)) (d : TypeDesc)
    (hu : P.underlying ty = some d) (hd : (match d with | .struct _ | .array _ _ => true | _ => false) = true) (hs : (P.info? ty).map (·.size) = some cs.size) (hcs : ∀ j u, cs[j]? = some u → xs[q + j]? = some u)
    (h : wpList P ops Q rest (a.put o.dst (.agg cs)) w) : wpList P ops Q (o :: rest) a w := by
  refine wpList_plain hgd fun K' hK => ?_
  have hr := run_loadVar_at (P := P) w ⟨g, q, none⟩ ty cs d (fun j u hj => by
    have h1 := hcs j u hj
    have hlen := (S.own_at i hi).1
    have hlt := (List.getElem?_eq_some_iff.1 h1).1
    rw [Addr.add_lit]
    exact (S.ownCell i hi (q + j) (by omega)).trans h1) hu hd hs
  unfold Oper.wp execOp
  simp only [ho, hx, Instr.loadAt, Instr.sureAddr, Sem.run_bind, Sem.run_pure, Result.andThen_ok, hr]
  exact hK _ _ h
end
end Go.Proofs.YtdnpobjokajigaaGreatDoor.K

namespace Go.Proofs.YtdnpobjokajigaaGreatDoor
open Go.RowKit Go.Proofs K
set_option linter.unusedVariables false

theorem infoInt : (Tryz.prog.info? 3).map (fun i => (i.zero, i.size, i.bytes)) = some (some (.int .i64 0), 1, 8) := by kernel_rfl
def digA0 (a b c d : Int) (k : Nat) : Int := (wrap64 (lim a b c d (k / 8) / 2 ^ (8 * (k % 8)))).tmod 256
def digs (a b c d : Int) (n : Nat) : List Value := (List.range n).map fun k => .int .i64 (digA0 a b c d k)
theorem digs_len (a b c d : Int) (n : Nat) : (digs a b c d n).length = n := by simp [digs]
theorem digs_succ (a b c d : Int) (n : Nat) : digs a b c d (n + 1) = digs a b c d n ++ [.int .i64 (digA0 a b c d n)] := by simp [digs, List.range_succ]
theorem digA0_bd (a b c d : Int) (k : Nat) : -256 < digA0 a b c d k ∧ digA0 a b c d k < 256 := by
  unfold digA0
  generalize wrap64 _ = x
  have h1 := Int.tmod_lt_of_pos x (show (0 : Int) < 256 by decide)
  have h2 : (x.tmod 256) = -((-x).tmod 256) := by rw [Int.neg_tmod]; omega
  have h3 := Int.tmod_lt_of_pos (-x) (show (0 : Int) < 256 by decide)
  omega
theorem lim_bd {a b c d : Int} (ha : W64 a) (hb : W64 b) (hc : W64 c) (hd : W64 d) (k : Nat) : 0 ≤ lim a b c d k ∧ lim a b c d k < 18446744073709551616 := by
  unfold lim
  unfold W64 at ha hb hc hd
  split <;> omega
theorem digA0_mod (a b c d : Int) (k : Nat) (ha : W64 a) (hb : W64 b) (hc : W64 c) (hd : W64 d) : digA0 a b c d k % 256 = wbyte a b c d k := by
  have hl := lim_bd ha hb hc hd (k / 8)
  unfold digA0 wbyte
  rw [Nat.mul_comm 8]
  have h1 : 0 ≤ lim a b c d (k / 8) / 2 ^ (k % 8 * 8) ∧ lim a b c d (k / 8) / 2 ^ (k % 8 * 8) < 18446744073709551616 :=
    ⟨Int.ediv_nonneg hl.1 (Int.pow_nonneg (by decide)), Int.lt_of_le_of_lt (Int.ediv_le_self _ hl.1) hl.2⟩
  generalize lim a b c d (k / 8) / 2 ^ (k % 8 * 8) = y at *
  have h2 := Int.mul_tdiv_add_tmod (wrap64 y) 256
  generalize (wrap64 y).tmod 256 = t at *
  generalize (wrap64 y).tdiv 256 = q at *
  unfold wrap64 at h2
  omega
/-- The first k of them made whole. -/
def digm (a b c d : Int) (k : Nat) : List Value := (List.range 32).map fun j => .int .i64 (if j < k then wbyte a b c d j else digA0 a b c d j)
theorem digm_at (a b c d : Int) (k : Nat) {j : Nat} (h : j < 32) : (digm a b c d k)[j]? = some (.int .i64 (if j < k then wbyte a b c d j else digA0 a b c d j)) := by simp [digm, h]
theorem digm_set (a b c d : Int) {k : Nat} (h : k < 32) : (digm a b c d k).set k (.int .i64 (wbyte a b c d k)) = digm a b c d (k + 1) := by
  apply List.ext_getElem?
  intro j
  rw [List.getElem?_set]
  by_cases hj : j < 32
  · rw [digm_at _ _ _ _ _ hj, digm_at _ _ _ _ _ hj]
    by_cases e : k = j
    · rw [if_pos e, if_pos (by simp [digm]; omega), if_pos (by omega), e]
    · rw [if_neg e]
      by_cases h2 : j < k
      · rw [if_pos h2, if_pos (by omega)]
      · rw [if_neg h2, if_neg (by omega)]
  · have e1 : ∀ k, (digm a b c d k)[j]? = none := fun k => List.getElem?_eq_none (by simp [digm]; omega)
    rw [e1, e1, if_neg (by omega)]
set_option maxRecDepth 100000 in
set_option maxHeartbeats 2000000 in
theorem digits1 (a b c d : Int) (ha : W64 a) (hb : W64 b) (hc : W64 c) (hd0 : W64 d) (w : World) : Calls Tryz.prog 183 #[.agg #[.int .u64 a, .int .u64 b, .int .u64 c, .int .u64 d]] w (fun e w' => ∃ v, e = .returned v ∧ St empH w none_ empH w' [own 3 1 v 32 (digm a b c d 32)]) := by
  have HS : Hid (St empH w none_ empH _ [own 3 1 (.slice none 0 0) 0 (digs a b c d 0), blk (w.heap.size + 1) (.cells #[.int .u64 d, .int .u64 c, .int .u64 b, .int .u64 a] 22)]) := ((((St.start (ag_emp w)).alloc (.cells #[.int .u64 a, .int .u64 b, .int .u64 c, .int .u64 d] 24)).alloc' (.cells #[.int .u64 d, .int .u64 c, .int .u64 b, .int .u64 a] 22) (w.heap.size + 1) (by simp)).pick 0 rfl |>.drop 1).own_nil
  obtain ⟨i0, hi0, hz0, hz1, hz2⟩ := info_parts infoInt
  have HLIM : Hid (∀ k, 0 ≤ lim a b c d k ∧ lim a b c d k < 18446744073709551616) := Lib.hid fun k => by
    exact lim_bd ha hb hc hd0 k
  go_enter Tryz.func183, Tryz.ntmps183
  go_wp2_with fail
  go_loopw [3, 5] (fun v i wr => ∃ (k : Nat) (A : Option Addr) (cp : Nat), i = .int .i64 k ∧ k ≤ 4 ∧ v = .slice A (8 * k) cp ∧ Hid (St empH w none_ empH wr [own 3 1 (.slice A (8 * k) cp) (8 * k) (digs a b c d (8 * k)), blk (w.heap.size + 1) (.cells #[.int .u64 d, .int .u64 c, .int .u64 b, .int .u64 a] 22)])) (fun _ i _ => 4 - (intOf i).toNat)
  case atStart => exact ⟨0, none, 0, rfl, by omega, rfl, HS⟩
  case round =>
    clear HS
    obtain ⟨k, A, cp, rfl, hk, rfl, HS⟩ := hrel
    by_cases hlt : k < 4
    · have hd4 : decide ((k : Int) < 4) = true := by simp; omega
      go_wp2_with fail
      go_loopg [3, 6] 8 (fun g v i wr => ∃ (m : Nat) (A : Option Addr) (cp : Nat), i = .int .i64 m ∧ m + g = 8 ∧ v = .slice A (8 * k + m) cp ∧ Hid (St empH w none_ empH wr [own 3 1 (.slice A (8 * k + m) cp) (8 * k + m) (digs a b c d (8 * k + m)), blk (w.heap.size + 1) (.cells #[.int .u64 d, .int .u64 c, .int .u64 b, .int .u64 a] 22)]))
      case atStart => exact ⟨0, A, cp, rfl, by omega, rfl, HS⟩
      case round =>
        clear HS
        obtain ⟨m, A, cp, rfl, hm, rfl, HS⟩ := hrel
        by_cases hlt2 : m < 8
        · have hl := HLIM.out k
          have hc1 : wr.cell? ⟨w.heap.size + 1, k, none⟩ = some (.int .u64 (lim a b c d k)) := by
            refine HS.out.cell 1 rfl ?_
            rcases (by omega : k = 0 ∨ k = 1 ∨ k = 2 ∨ k = 3) with e | e | e | e <;> rw [e] <;> rfl
          have HS1 := Lib.hid (HS.out.alloc (.cells #[.int .i64 ((wrap64 (lim a b c d k / 2 ^ (8 * m))).tmod 256)] 3))
          have hdg : (wrap64 (lim a b c d k / 2 ^ (8 * m))).tmod 256 = digA0 a b c d (8 * k + m) := by
            unfold digA0
            rw [show (8 * k + m) / 8 = k by omega, show (8 * k + m) % 8 = m by omega]
          have HDG := Lib.hid hdg
          clear HS hdg
          go_wp2_with (first
            | (at_builtin; refine wpList_append_st 1 3 HS1.out rfl rfl _ _ 295 rfl i0 _ 8 Tryz.underlying295 hi0 hz0 hz1 hz2 rfl (by decide) rfl ⟨wr.heap.size, 0, none⟩ 1 1 [.int .i64 ((wrap64 (lim a b c d k / 2 ^ (8 * m))).tmod 256)] rfl rfl (fun j u hj => ?_) (by simp [Value.oneCell']) (by unfold maxLen; omega) (by omega) ?_)
            | fail)
          · rw [Addr.add_lit, Nat.zero_add, cell_of_row _ _ _ _ _ _ (HS1.out.blk_at 0 rfl)]
            simpa using hj
          intro A2 c2 w2 S2
          rw [HDG.out, ← digs_succ] at S2
          have HS2 : Hid (St empH w none_ empH w2 [own 3 1 (.slice A2 (8 * k + (m + 1)) c2) (8 * k + (m + 1)) (digs a b c d (8 * k + (m + 1))), blk (w.heap.size + 1) (.cells #[.int .u64 d, .int .u64 c, .int .u64 b, .int .u64 a] 22)]) := S2.drop 1
          clear S2 HS1
          go_wp2_with fail
          go_roundg (8 - (m + 1))
          case rel => exact ⟨m + 1, A2, c2, by go_num, by omega, rfl, HS2⟩
          case measure => omega
        · obtain rfl : m = 8 := by omega
          go_wp2_with fail
          go_roundw
          case rel => exact ⟨k + 1, A, cp, by go_num, by omega, rfl, HS⟩
          case measure => simp [intOf]; omega
    · obtain rfl : k = 4 := by omega
      go_wp2_with fail
      go_loopw [7] (fun i wr => ∃ (k : Nat), i = .int .i64 k ∧ k ≤ 32 ∧ Hid (St empH w none_ empH wr [own 3 1 (.slice A 32 cp) 32 (digm a b c d k)])) (fun i _ => 32 - (intOf i).toNat)
      case atStart => exact ⟨0, rfl, by omega, HS.out.drop 1⟩
      case round =>
        clear HS
        obtain ⟨j, rfl, hj, HS⟩ := hrel
        by_cases hlt3 : j < 32
        · obtain ⟨g, rfl, hg⟩ := HS.out.ownForm 0 rfl (by decide)
          have hc0 : wr.cell? ⟨g, j, none⟩ = some (.int .i64 (digA0 a b c d j)) := by rw [HS.out.ownCell 0 rfl j (by omega), digm_at _ _ _ _ _ hlt3, if_neg (by omega)]
          have hf0 : wr.frozen? ⟨g, j, none⟩ = false := HS.out.ownFrozen 0 rfl j
          have hd := digA0_bd a b c d j
          have hw1 : wrap64 (digA0 a b c d j + 256) = digA0 a b c d j + 256 := by unfold wrap64; omega
          go_wp2_with fail
          go_roundw
          case rel =>
            have S := HS.out.setOwn 0 rfl j (.int .i64 (digA0 a b c d j % 256))
            rw [show (.int .i64 (digA0 a b c d j % 256) : Value) = .int .i64 (wbyte a b c d j) by rw [digA0_mod a b c d j ha hb hc hd0], digm_set a b c d hlt3] at S
            exact ⟨j + 1, by go_num, by omega, by rw [show (.int .i64 (digA0 a b c d j % 256) : Value) = .int .i64 (wbyte a b c d j) by rw [digA0_mod a b c d j ha hb hc hd0]]; exact S⟩
          case measure => simp [intOf]; omega
        · obtain rfl : j = 32 := by omega
          go_wp2_with fail
          go_ret
          exact ⟨_, rfl, HS.out⟩
theorem madeZeros : (madeCells #[Value.int .u8 0] 32).toList = List.replicate 32 (.int .u8 0) := toList_madeCells_one _ _
def wrow (a b c d : Int) (k : Nat) : List Value := (List.range 32).map fun j => .int .u8 (if j < k then wbyte a b c d (31 - j) else 0)
theorem wrow_at (a b c d : Int) (k : Nat) {j : Nat} (h : j < 32) : (wrow a b c d k)[j]? = some (.int .u8 (if j < k then wbyte a b c d (31 - j) else 0)) := by simp [wrow, h]
theorem wrow_set (a b c d : Int) {k : Nat} (h : k < 32) : (wrow a b c d k).set k (.int .u8 (wbyte a b c d (31 - k))) = wrow a b c d (k + 1) := by
  apply List.ext_getElem?
  intro j
  rw [List.getElem?_set]
  by_cases hj : j < 32
  · rw [wrow_at _ _ _ _ _ hj, wrow_at _ _ _ _ _ hj]
    by_cases e : k = j
    · rw [if_pos e, if_pos (by simp [wrow]; omega), if_pos (by omega), e]
    · rw [if_neg e]
      by_cases h2 : j < k
      · rw [if_pos h2, if_pos (by omega)]
      · rw [if_neg h2, if_neg (by omega)]
  · have e1 : ∀ k, (wrow a b c d k)[j]? = none := fun k => List.getElem?_eq_none (by simp [wrow]; omega)
    rw [e1, e1, if_neg (by omega)]
theorem wrow_zero (a b c d : Int) : List.replicate 32 (Value.int .u8 0) = wrow a b c d 0 := by
  apply List.ext_getElem?
  intro j
  by_cases hj : j < 32
  · rw [wrow_at _ _ _ _ _ hj, List.getElem?_replicate, if_pos hj, if_neg (by omega)]
  · rw [List.getElem?_eq_none (by simp; omega), List.getElem?_eq_none (by simp [wrow]; omega)]
theorem info_u8R : (Tryz.prog.info? 5).map (fun i => (i.zero, i.size, i.bytes)) = some (some (.int .u8 0), 1, 1) := by kernel_rfl
set_option maxRecDepth 100000 in
set_option maxHeartbeats 2000000 in
theorem rwbytes_any (a b c d : Int) (ha : W64 a) (hb : W64 b) (hc : W64 c) (hd : W64 d) (w : World) : Calls Tryz.prog 145 #[.agg #[.int .u64 a, .int .u64 b, .int .u64 c, .int .u64 d]] w (RetV (.string (wordS a b c d)) w) := by
  have HDG := Lib.hid (digits1 a b c d ha hb hc hd)
  have HS := Lib.hid ((St.start (ag_emp w)).alloc (.cells #[.int .u64 a, .int .u64 b, .int .u64 c, .int .u64 d] 24))
  obtain ⟨i0, hi0, hz0, hz1, hz2⟩ := info_parts info_u8R
  have HBD : Hid (∀ k, 0 ≤ wbyte a b c d k ∧ wbyte a b c d k < 256) := Lib.hid fun k => by unfold wbyte; omega
  go_enter Tryz.func145, Tryz.ntmps145
  go_wp2_with fail
  refine (HDG.out _).mono ?_
  rintro z w1 ⟨v, rfl, S1⟩
  have HS1 := Lib.hid (HS.out.more S1)
  clear S1 HS
  go_wp2_with (first
    | (refine wpList_makeFull_st (size := 1) (c := 32) HS1.out rfl 5 144 (.const (.int .i64 32)) (.const (.int .i64 32)) rfl i0 (.int .u8 0) 1 rfl rfl Tryz.underlying144 hi0 hz0 hz1 hz2 (by decide) (by decide) ?_)
    | fail)
  intro w2 S2
  rw [madeZeros, wrow_zero a b c d] at S2
  obtain ⟨g0, hg0, hg1⟩ : ∃ A cp, v = .slice A 32 cp := by
    rcases S2.own_at 1 rfl with ⟨_, ⟨rfl, h0⟩ | ⟨g, cap, cur, rfl, _⟩⟩
    · cases h0
    · exact ⟨_, _, rfl⟩
  subst hg1
  obtain ⟨g, rfl, hg⟩ := S2.ownForm 1 rfl (by decide)
  have HS2 : Hid (St empH w none_ empH w2 [own 5 1 (.slice (some ⟨w1.heap.size, 0, none⟩) 32 32) 32 (wrow a b c d 0), own 3 1 (.slice (some ⟨g, 0, none⟩) 32 hg0) 32 (digm a b c d 32)]) := S2.drop 2
  clear S2 HS1
  go_wp2_with fail
  go_loopw [5] (fun i wr => ∃ k : Nat, i = .int .i64 k ∧ k ≤ 32 ∧ Hid (St empH w none_ empH wr [own 5 1 (.slice (some ⟨w1.heap.size, 0, none⟩) 32 32) 32 (wrow a b c d k), own 3 1 (.slice (some ⟨g, 0, none⟩) 32 hg0) 32 (digm a b c d 32)])) (fun i _ => 32 - (intOf i).toNat)
  case atStart => exact ⟨0, rfl, by omega, HS2⟩
  case round =>
    clear HS2
    obtain ⟨k, rfl, hk, HS⟩ := hrel
    by_cases hlt : k < 32
    · have hi1 : (31 : Int) - k = ((31 - k : Nat) : Int) := by omega
      have hi2 : ((31 - k : Nat) : Int) < 32 := by omega
      have hi3 : (0 : Int) ≤ ((31 - k : Nat) : Int) := by omega
      have hc1 : wr.cell? ⟨g, 31 - k, none⟩ = some (.int .i64 (wbyte a b c d (31 - k))) := by rw [HS.out.ownCell 1 rfl (31 - k) (by omega), digm_at _ _ _ _ _ (by omega), if_pos (by omega)]
      have hc2 : wr.cell? ⟨w1.heap.size, k, none⟩ = some (.int .u8 0) := by rw [HS.out.ownCell 0 rfl k (by omega), wrow_at _ _ _ _ _ hlt, if_neg (by omega)]
      have hf2 : wr.frozen? ⟨w1.heap.size, k, none⟩ = false := HS.out.ownFrozen 0 rfl k
      have hbd := HBD.out (31 - k)
      have hb1 := hbd.1
      have hb2 := hbd.2
      go_wp2_with fail
      go_roundw
      case rel =>
        have S := HS.out.setOwn 0 rfl k (.int .u8 (wbyte a b c d (31 - k)))
        rw [wrow_set a b c d hlt] at S
        exact ⟨k + 1, by go_num, by omega, S⟩
      case measure => simp [intOf]; omega
    · obtain rfl : k = 32 := by omega
      have hconv := run_convert_bytes_arg wr 144 5 Tryz.underlying144 Tryz.underlying5 w1.heap.size 0 32 32 (wordL a b c d) rfl (fun i hi => by
        rw [Nat.zero_add, wordL_at _ _ _ _ hi, HS.out.ownCell 0 rfl i (by omega), wrow_at _ _ _ _ _ hi, if_pos (by omega)]) 9 Tryz.underlying9
      go_wp2_with fail
      go_ret
      exact ⟨rfl, HS.out.below⟩
end Go.Proofs.YtdnpobjokajigaaGreatDoor
