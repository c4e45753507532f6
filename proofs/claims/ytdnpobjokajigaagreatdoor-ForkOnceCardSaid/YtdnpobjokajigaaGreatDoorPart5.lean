/-
  The reader's walk: lists.
  Decode.
  Reading as a function; texts written are read: plain.
  Texts written are read; a cut, or more behind: plain.
-/
import Derived.Test.YtdnpobjokajigaaGreatDoorPart4
import Derived.Test.YtdnpobjokajigaaGreatDoorPart3
import Derived.Deep.LoopGhost
import Derived.IntWalk
import Derived.Tactics2
import Derived.Defers
import Derived.Recover
import Derived.Laws.Pointers
namespace Go.Proofs.YtdnpobjokajigaaGreatDoor
open Go.RowKit Go.Proofs K
theorem itsD_snoc (l : List It) (i : It) : itsD (l ++ [i]) = itsD l ++ i.d := by rw [itsD_flat, itsD_flat, List.flatMap_append]; simp
theorem bs_toList (l : List UInt8) : (bs l).toList = l := by rw [ByteArray.toList_eq]; rfl
section
variable {H0 H : Hs} {w0 w : World} {X : Nat → Prop} {ps : List Hp} {p : Nat}
set_option maxRecDepth 100000 in
set_option maxHeartbeats 400000 in
theorem rd_list (N : Nat) (hN : ReadOk N) (S : St H0 w0 X H w ps) (i : Nat) {b : UInt8} {r : List UInt8} (hi : ps[i]? = some (blk p (rdO (bs (b :: r))))) (hr : r.length < N) (hl : r.length ≤ 65536) (d : Nat) (hd : d ≤ 64) (hb : 192 ≤ b.toNat) :
    Calls Tryz.prog 122 #[.pointer (some ⟨p, 0, none⟩), .int .i64 d] w (ItemQ d (b :: r) H0 H w0 X p (ps.eraseIdx i)) := by
  have HNN := Lib.hid (And.intro hN (And.intro hr hl))
  have HLE0 := Lib.hid S.le
  clear hN hr hl
  have hdd : decide ((d : Int) ≤ 64) = true := by simp; omega
  have hb2 : ¬ (b.toNat : Int) < 128 := by omega
  have hb3 : ¬ (b.toNat : Int) < 192 := by omega
  have hsub : (b.toNat : Int) - 192 = ((b.toNat - 192 : Nat) : Int) := by omega
  have h64 : b.toNat - 192 ≤ 64 := by have := b.toNat_lt; omega
  have HS := Lib.hid (S.alloc (.cells #[.bool false, .string ⟨#[]⟩, .slice none 0 0] 123))
  have HI := Lib.hid hi
  have HD := Lib.hid (And.intro hd hb)
  clear S hd hi hb
  go_enter Tryz.func122, Tryz.ntmps122
  go_wp2_with fail
  refine (need_yes _).mono ?_
  rintro e w1 ⟨rfl, rfl⟩
  go_wp2_with fail
  refine (take_bs HS.out (i + 1) HI.out 1 (by simp)).mono ?_
  rintro e w1 ⟨rfl, S1⟩
  have HS1 : Hid (St H0 w0 X H w1 (blk p (rdO (bs r)) :: blk w.heap.size (.cells #[.bool false, .string ⟨#[]⟩, .slice none 0 0] 123) :: ps.eraseIdx i)) := S1
  obtain ⟨f, hf, h0, hf0⟩ : ∃ f : ByteArray, f = bs ((b :: r).take 1) ∧ ∃ h : 0 < f.size, f[0] = b := ⟨_, rfl, by rw [bs_size]; simp, rfl⟩
  rw [← hf]
  have HF := Lib.hid hf
  have h256 : (b.toNat : Int) < 256 := by have := b.toNat_lt; omega
  clear S1 HS hf
  go_wp2_with fail
  refine (many_any HS1.out 0 rfl (b.toNat - 192) h64).mono ?_
  intro e w2 hM
  cases hm : manyL (b.toNat - 192) r with
  | none =>
    rw [hm] at hM
    obtain ⟨rfl, S2⟩ := hM
    have HM := Lib.hid hm
    clear hm
    go_wp2_with fail
    exact bodyPost_pan rfl ⟨none, .manyL HD.out.2 HM.out, rfl, S2.drop 0⟩
  | some q =>
    obtain ⟨n, r2⟩ := q
    rw [hm] at hM
    obtain ⟨rfl, S2⟩ := hM
    have HM := Lib.hid hm
    have HS2 : Hid (St H0 w0 X H w2 (blk p (rdO (bs r2)) :: blk w.heap.size (.cells #[.bool false, .string ⟨#[]⟩, .slice none 0 0] 123) :: ps.eraseIdx i)) := S2
    clear S2 HS1 hm hsub
    by_cases hn : n ≤ r2.length
    · have HN := Lib.hid hn
      clear hn
      go_wp2_with fail
      refine (take_bs HS2.out 0 rfl n HN.out).mono ?_
      rintro e w3 ⟨rfl, S3⟩
      have HS3 : Hid (St H0 w0 X H w3 (blk p (rdO (bs (r2.drop n))) :: blk w.heap.size (.cells #[.bool false, .string ⟨#[]⟩, .slice none 0 0] 123) :: ps.eraseIdx i)) := S3
      clear S3 HS2
      obtain ⟨l1, hl1⟩ : ∃ l1, l1 = r2.take n := ⟨_, rfl⟩
      rw [← hl1]
      have HL1 := Lib.hid hl1
      clear hl1
      have HS4 : Hid (St H0 w0 X H ((w3.alloc (rdO (bs l1))).alloc (.cells #[.bool true, .string ⟨#[]⟩, .slice none 0 0] 123)) (own 123 3 (.slice none 0 0) 0 [] :: blk (w3.heap.size + 1) (.cells #[.bool true, .string ⟨#[]⟩, .slice none 0 0] 123) :: blk w3.heap.size (rdO (bs l1)) :: blk p (rdO (bs (r2.drop n))) :: blk w.heap.size (.cells #[.bool false, .string ⟨#[]⟩, .slice none 0 0] 123) :: ps.eraseIdx i)) :=
        ((HS3.out.alloc (rdO (bs l1))).alloc' (.cells #[.bool true, .string ⟨#[]⟩, .slice none 0 0] 123) (w3.heap.size + 1) (by simp)).own_nil
      have hl1n : l1.length < N := by have := manyL_le HM.out; have := HNN.out.2.1; rw [HL1.out]; simp; omega
      have hl16 : l1.length ≤ 65536 := by have := manyL_le HM.out; have := HNN.out.2.2; rw [HL1.out]; simp; omega
      have HLN := Lib.hid (And.intro hl1n hl16)
      clear hl1n hl16 HS3
      have hd64 : d ≤ 64 := HD.out.1
      go_wp2_with fail
      go_loopg [] l1.length (fun k wr => ∃ (r' : List UInt8) (l0 : List It) (A : Option Addr) (c : Nat) (cs : List Value) (H' : Hs), r'.length ≤ k ∧ l0.length + r'.length ≤ l1.length ∧ Hid (∀ o, RdL (d + 1) r' o → RdL (d + 1) l1 (o.map (l0 ++ ·))) ∧ Hid (Le H H') ∧ Hid (RepL H' cs (itsD l0)) ∧
        Hid (St H0 w0 X H' wr (own 123 3 (.slice A l0.length c) l0.length cs :: blk (w3.heap.size + 1) (.cells #[.bool true, .string ⟨#[]⟩, .slice A l0.length c] 123) :: blk w3.heap.size (rdO (bs r')) :: blk p (rdO (bs (r2.drop n))) :: blk w.heap.size (.cells #[.bool false, .string ⟨#[]⟩, .slice none 0 0] 123) :: ps.eraseIdx i)))
      case atStart => exact ⟨l1, [], none, 0, [], H, Nat.le_refl _, by simp, fun o h => by simpa using h, Le.refl _, by unfold Hid itsD; exact .nil, HS4⟩
      case round =>
        clear HS4
        obtain ⟨r', l0, A, c, cs, H', hrk, hsum, HRD, HLE, HREP, HS⟩ := hrel
        have cin : wr.cell? ⟨w3.heap.size, 0, none⟩ = some (.string (bs r')) := HS.out.cell 2 rfl rfl
        have cou : wr.cell? ⟨w3.heap.size + 1, 2, none⟩ = some (.slice A l0.length c) := HS.out.cell 1 rfl rfl
        by_cases hz : r' = []
        · subst hz
          have hs1 : (bs []).toList.isEmpty = true := by rw [bs_toList]; rfl
          obtain ⟨H2, hle2, hrep2, S5⟩ := HS.out.keepOwn 0 rfl HREP.out
          have HS5 : Hid (St H0 w0 X H2 wr (blk (w3.heap.size + 1) (.cells #[.bool true, .string ⟨#[]⟩, .slice A l0.length c] 123) :: blk w3.heap.size (rdO (bs [])) :: blk p (rdO (bs (r2.drop n))) :: blk w.heap.size (.cells #[.bool false, .string ⟨#[]⟩, .slice none 0 0] 123) :: ps.eraseIdx i)) := S5
          have HR2 := Lib.hid (And.intro hle2 hrep2)
          clear S5 HS hle2 hrep2 cou
          go_wp2_with (first
            | (refine wpList_load_st (cs := #[.bool true, .string ⟨#[]⟩, .slice A l0.length c]) 0 HS5.out rfl rfl 123 (.tmp 9) rfl rfl _ Tryz.underlying123 rfl szItem ?_)
            | (refine wpList_store_st (cs := #[.bool true, .string ⟨#[]⟩, .slice A l0.length c]) 3 HS5.out rfl rfl 123 (.tmp 4) (.tmp 70) rfl rfl rfl szItem rfl (oneItem _ _ _ _ _) ?_)
            | fail)
          intro w6 S6
          go_wp2_with fail
          have hL : RdL (d + 1) (r2.take n) (some l0) := by
            have := HRD.out _ .nil
            rw [HL1.out] at this
            simpa using this
          exact post_cell 0 S6 rfl Tryz.results122 rfl _ Tryz.underlying123 rfl szItem rfl ⟨_, .list HD.out.1 HD.out.2 HM.out HN.out hL, _, _, _, H2, rfl, HLE.out.trans HR2.out.1, by unfold It.d; exact .cons (.pl rfl) (.cons (.pl rfl) (.cons HR2.out.2 .nil)), ((S6.drop 0).drop 0).drop 0⟩
        · have hs1 : (bs r').toList.isEmpty = false := by rw [bs_toList]; cases r' with | nil => exact absurd rfl hz | cons a t => rfl
          have HZ := Lib.hid hz
          have HCALL : Hid (Calls Tryz.prog 122 #[.pointer (some ⟨w3.heap.size, 0, none⟩), .int .i64 ((d : Int) + 1)] wr.drew (ItemQ (d + 1) r' H0 H' w0 X w3.heap.size (own 123 3 (.slice A l0.length c) l0.length cs :: blk (w3.heap.size + 1) (.cells #[.bool true, .string ⟨#[]⟩, .slice A l0.length c] 123) :: blk p (rdO (bs (r2.drop n))) :: blk w.heap.size (.cells #[.bool false, .string ⟨#[]⟩, .slice none 0 0] 123) :: ps.eraseIdx i))) := by
            have := HNN.out.1 r' (d + 1) H0 H' w0 wr.drew X _ w3.heap.size 2 (by have := HLN.out.1; omega) (by have := HLN.out.2; omega) (by omega) HS.out.drew rfl
            exact this
          have c1 : wr.drew.cell? ⟨w3.heap.size + 1, 2, none⟩ = some (.slice A l0.length c) := cou
          obtain ⟨i0, hi0, hz0, hz1, hz2⟩ := info_parts infoItem
          have hl0 : l0.length ≤ 65536 := by have := HLN.out.2; omega
          have hw1 : IntKind.i64.wrap ((d : Int) + 1) = (d : Int) + 1 := IntWalk.i64_in _ (by omega)
          clear hz
          go_wp2_with fail
          go_region_law (first
            | (go_simp; go_at_call 122; refine HCALL.out.mono ?_; intro e w5 hQ; obtain ⟨o, hRd, hR⟩ := hQ; rcases o with _ | ⟨i', r3⟩; (obtain ⟨rfl, S8⟩ := hR; exact bodyPost_pan rfl ⟨none, .badL HD.out.2 HM.out HN.out (HL1.out ▸ HRD.out _ (.bad HZ.out hRd)), rfl, ((((S8.less HLE.out HLE0.out).drop 0).drop 0).drop 0).drop 0⟩); obtain ⟨x, y, z, H2, rfl, hle2, hrep2, S8⟩ := hR; obtain ⟨p1, s1, A1, n1, c2, rfl, rfl, rfl⟩ := it_cells hrep2; have HRD2 := Lib.hid hRd; have HLE2 := Lib.hid hle2; have HREP2 := Lib.hid hrep2; have HS8 := Lib.hid S8; have c8 : w5.cell? ⟨w3.heap.size + 1, 2, none⟩ = some (.slice A l0.length c) := (by have hbk := S8.blk_at 2 rfl; rw [cell_of_row _ _ _ _ _ _ hbk]; rfl); have HS9 := Lib.hid (S8.alloc (.cells #[.bool p1, .string s1, .slice A1 n1 c2] 123)); have c9 := (HS9.out.blk_at 3 rfl); have c10 := (cell_of_row _ _ 2 _ _ _ c9); clear S8 hRd hle2 hrep2 c9)
            | (refine step_append_st 2 123 HS9.out rfl rfl (.tmp 62) (.tmp 67) 121 rfl i0 _ 48 Tryz.underlying121 hi0 hz0 hz1 hz2 rfl (by decide) rfl ⟨w5.heap.size, 0, none⟩ 1 1 [.bool p1, .string s1, .slice A1 n1 c2] rfl rfl (fun j u hj => ?_) (oneItemL _ _ _ _ _) ?_ ?_ ?_; (rw [Addr.add_lit, Nat.zero_add, cell_of_row _ _ _ _ _ _ (HS9.out.blk_at 0 rfl)]; simpa using hj); (unfold maxLen; omega); omega; intro A3 c3 w6 S10; have HS10 := Lib.hid S10; have d3 := S10.blk_at 3 rfl; have d4 := cell_of_row _ _ 2 _ _ _ d3; have d5 := frozen_of_row _ _ 2 _ _ d3; clear S10 d3))
          all_goals
            go_wp2_with fail
            go_roundg r3.length
            case rel =>
              have hlen : (l0 ++ [i']).length = l0.length + 1 := by simp
              have hsh := HRD2.out.shorter
              refine ⟨r3, l0 ++ [i'], A3, c3, cs ++ [.bool p1, .string s1, .slice A1 n1 c2], H2, Nat.le_refl _, by rw [hlen]; omega, fun o h => ?_, HLE.out.trans HLE2.out, ?_, ?_⟩
              · have h2 := HRD.out _ (.step HZ.out HRD2.out h)
                simpa [Option.map_map, Function.comp_def] using h2
              · unfold Hid
                rw [itsD_snoc]
                exact (HREP.out.le HLE2.out).append HREP2.out
              · rw [hlen]
                exact ((HS10.out.setCell (j := 2) 3 rfl (.slice A3 (l0.length + 1) c3)).drop 2).pick 1 rfl
            case measure =>
              have hsh := HRD2.out.shorter
              omega
    · have HN := Lib.hid hn
      clear hn
      go_wp2_with fail
      refine (take_bs_no HS2.out 0 rfl n (Nat.lt_of_not_le HN.out)).mono ?_
      rintro e w3 ⟨rfl, S3⟩
      go_wp2_with fail
      exact bodyPost_pan rfl ⟨none, .cutL HD.out.2 HM.out (Nat.lt_of_not_le HN.out), rfl, S3.drop 0⟩
end
end Go.Proofs.YtdnpobjokajigaaGreatDoor

namespace Go.Proofs.YtdnpobjokajigaaGreatDoor
open Go.RowKit Go.Proofs K

theorem read_ok : ∀ N, ReadOk N := by
  intro N
  induction N with
  | zero => intro l d H0 H w0 w X ps p i hl; omega
  | succ N ih =>
    intro l d H0 H w0 w X ps p i hl h16 hd S hi
    by_cases hdd : 64 < d
    · exact rd_deep S i d hdd hd
    · cases l with
      | nil => exact rd_nil S i hi d (by omega)
      | cons b r =>
        by_cases h1 : b.toNat < 128
        · exact rd_one S i hi d (by omega) h1
        · by_cases h2 : b.toNat < 192
          · exact rd_text S i hi d (by omega) ⟨by omega, h2⟩
          · exact rd_list N ih S i hi (by simp at hl; omega) (by simp at h16; omega) d (by omega) (by omega)

def itemO (p : Bool) (s : ByteArray) (v : Value) : Obj := .cells #[.bool p, .string s, v] 123
def errO (n : Int) : Obj := .cells #[.int .i64 n] 29
section
variable {H0 H : Hs} {w0 w : World} {X : Nat → Prop} {ps : List Hp} {p : Nat}
set_option maxRecDepth 100000 in
theorem dec_catch {x y z : Value} (S : St H0 w0 X H w (blk p (.cells #[x, y, z] 123) :: blk (p + 1) (errO 0) :: ps)) (older : List PanicEntry) :
    CallsD Tryz.prog 121 #[.pointer (some ⟨p, 0, none⟩), .pointer (some ⟨p + 1, 0, none⟩)] (.panicking ({ v := wrongV, recovered := false } :: older)) w fun e u' w' =>
      e = .returned (.tuple #[]) ∧ u' = .panicking ({ v := wrongV, recovered := true } :: older) ∧ St H0 w0 X H w' (blk (p + 1) (errO 2) :: blk p (itemO false ⟨#[]⟩ (.slice none 0 0)) :: ps) := by
  refine callsD_of_wpS Tryz.func121 rfl fun c₀ cs hu => ?_
  unfold wrongV at hu
  have hta : ∀ w, (Instr.typeAssert (.iface 223 (.agg #[])) 20 223 true).run Tryz.prog w = .ok (.tuple #[.agg #[], .bool true]) w := fun w => by kernel_rfl
  simp only [Tryz.ntmps121, List.size_toArray, List.length_cons, List.length_nil, Nat.reduceAdd, Nat.reduceSub, Array.replicate_succ, Array.replicate_zero, List.push_toArray, List.append_toArray, List.nil_append, List.cons_append]
  apply wpS_seq
  apply wpS_region
  simp [wpOpsS, go_sem, recoverD, hu, Exit.thenS, hta]
  apply wpS_seq
  apply wpS_region
  simp [wpOpsS, go_sem, Exit.thenS]
  obtain ⟨w1, hw1⟩ : ∃ w1, w1 = w.alloc (.cells #[] 223) := ⟨_, rfl⟩
  have S1 : St H0 w0 X H w1 (blk p (.cells #[x, y, z] 123) :: blk (p + 1) (errO 0) :: ps) := hw1 ▸ (S.alloc (.cells #[] 223)).drop 0
  rw [← hw1]
  have c0 : w1.cell? ⟨p, 0, none⟩ = some x := S1.cell 0 rfl rfl
  have c1 : w1.cell? ⟨p, 1, none⟩ = some y := S1.cell 0 rfl rfl
  have c2 : w1.cell? ⟨p, 2, none⟩ = some z := S1.cell 0 rfl rfl
  have f0 := S1.frozen 0 rfl 0
  have f1 := S1.frozen 0 rfl 1
  have f2 := S1.frozen 0 rfl 2
  have d0 : w1.cell? ⟨p + 1, 0, none⟩ = some (.int .i64 0) := S1.cell 1 rfl rfl
  have g0 := S1.frozen 1 rfl 0
  refine wpS_cond (t := true) rfl ?_
  simp only [if_true]
  apply wpS_region
  simp [wpOpsS, go_sem, c0, c1, c2, f0, f1, f2, d0, g0, bodyPostS, results, Tryz.results121, wrongV]
  exact (((S1.setCell (j := 0) 0 rfl _).setCell (j := 1) 0 rfl _).setCell (j := 2) 0 rfl _).setCell (j := 0) 1 rfl _
set_option maxRecDepth 100000 in
theorem dec_idle (S : St H0 w0 X H w ps) (a b : Addr) :
    CallsD Tryz.prog 121 #[.pointer (some a), .pointer (some b)] .returning w fun e u' w' =>
      e = .returned (.tuple #[]) ∧ u' = .returning ∧ St H0 w0 X H w' ps := by
  refine callsD_of_wpS Tryz.func121 rfl fun c₀ cs hu => ?_
  have hta : ∀ w, (Instr.typeAssert .nilIface 20 223 true).run Tryz.prog w = .ok (.tuple #[.agg #[], .bool false]) w := fun w => by kernel_rfl
  simp only [Tryz.ntmps121, List.size_toArray, List.length_cons, List.length_nil, Nat.reduceAdd, Nat.reduceSub, Array.replicate_succ, Array.replicate_zero, List.push_toArray, List.append_toArray, List.nil_append, List.cons_append]
  apply wpS_seq
  apply wpS_region
  simp [wpOpsS, go_sem, recoverD, hu, Exit.thenS, hta]
  apply wpS_seq
  apply wpS_region
  simp [wpOpsS, go_sem, Exit.thenS]
  refine wpS_cond (t := false) rfl ?_
  simp only [Bool.false_eq_true, if_false]
  refine wpS_of_wp (wp_skip ?_)
  have S1 := (S.alloc (.cells #[] 223)).drop 0
  cases c₀
  simp_all [bodyPostS, results, Tryz.results121]
end

/-- What Decode tells. -/
inductive DecR : List UInt8 → Option It → Prop
  | long {l : List UInt8} (h : 65536 < l.length) : DecR l none
  | bad {l : List UInt8} (h : l.length ≤ 65536) (hr : RdI 0 l none) : DecR l none
  | more {l r : List UInt8} {i : It} (h : l.length ≤ 65536) (hr : RdI 0 l (some (i, r))) (hn : r ≠ []) : DecR l none
  | good {l : List UInt8} {i : It} (h : l.length ≤ 65536) (hr : RdI 0 l (some (i, []))) : DecR l (some i)
def DecP (l : List UInt8) (H : Hs) (w : World) (e : Ending) (w' : World) : Prop :=
  (∃ i x y z H', DecR l (some i) ∧ e = .returned (.tuple #[.agg #[x, y, z], .int .i64 0]) ∧ RepL H' [x, y, z] i.d ∧ St H w none_ H' w' []) ∨
  (∃ n, DecR l none ∧ (n = 2 ∨ n = 3) ∧ e = .returned (.tuple #[.agg #[.bool false, .string ⟨#[]⟩, .slice none 0 0], .int .i64 n]) ∧ St H w none_ H w' [])
set_option maxRecDepth 100000 in
theorem decode_long (l : List UInt8) (hl : 65536 < l.length) {H : Hs} {w : World} (hw : Ag H w) : Calls Tryz.prog 62 #[.string (bs l)] w (DecP l H w) := by
  have HL := Lib.hid hl
  have hz : ¬ ((bs l).size : Int) ≤ 65536 := by rw [bs_size]; omega
  have HS := Lib.hid (((St.start hw).alloc (.cells #[.bool false, .string ⟨#[]⟩, .slice none 0 0] 123)).alloc (errO 3)).nil
  clear hl hw
  go_enter_defers Tryz.func62, Tryz.ntmps62
  go_wp2
  exact ⟨.tuple #[.agg #[.bool false, .string ⟨#[]⟩, .slice none 0 0], .int .i64 3], by simp [results, Tryz.results62, go_sem], .inr ⟨3, .long HL.out, .inr rfl, rfl, HS.out⟩⟩
theorem szErr : (Tryz.prog.info? 29).map (·.size) = some 1 := by kernel_rfl
set_option maxRecDepth 100000 in
set_option maxHeartbeats 1000000 in
theorem decode_any (l : List UInt8) (hl : l.length ≤ 65536) {H : Hs} {w : World} (hw : Ag H w) : Calls Tryz.prog 62 #[.string (bs l)] w (DecP l H w) := by
  have HL := Lib.hid hl
  have hz : ((bs l).size : Int) ≤ 65536 := by rw [bs_size]; omega
  have hmf : ∀ (fn : Fn) (first cap : Array Value) (w : World), (Instr.makeFunc fn first cap).run Tryz.prog w = .ok (.func fn first cap) w := fun _ _ _ _ => rfl
  have HS : Hid (St H w none_ H (((w.alloc (.cells #[.bool false, .string ⟨#[]⟩, .slice none 0 0] 123)).alloc (errO 0)).alloc (rdO (bs l))) [blk (w.heap.size + 2) (rdO (bs l)), blk w.heap.size (.cells #[.bool false, .string ⟨#[]⟩, .slice none 0 0] 123), blk (w.heap.size + 1) (errO 0)]) :=
    ((((St.start hw).alloc (.cells #[.bool false, .string ⟨#[]⟩, .slice none 0 0] 123)).alloc' (errO 0) (w.heap.size + 1) (by simp)).pick 1 rfl).alloc' (rdO (bs l)) (w.heap.size + 2) (by simp)
  clear hl hw
  go_enter_defers Tryz.func62, Tryz.ntmps62
  go_wp2_with fail
  refine (read_ok (l.length + 1) l 0 H H w _ none_ _ (w.heap.size + 2) 0 (by omega) HL.out (by decide) HS.out rfl).mono ?_
  rintro e w1 ⟨o, hRd, hR⟩
  have HRD := Lib.hid hRd
  clear hRd
  rcases o with _ | ⟨i, r⟩
  · obtain ⟨rfl, S1⟩ := hR
    have S2 : St H w none_ H w1 [blk w.heap.size (.cells #[.bool false, .string ⟨#[]⟩, .slice none 0 0] 123), blk (w.heap.size + 1) (errO 0)] := S1
    have HS2 := Lib.hid S2
    clear S1 S2 HS
    go_wp2_with fail
    refine leaves_cons (f := 121) (args := #[.pointer (some ⟨w.heap.size, 0, none⟩), .pointer (some ⟨w.heap.size + 1, 0, none⟩)]) (by simp) (by simp [go_sem]) ?_
    refine (dec_catch HS2.out []).mono ?_
    rintro e u' w2 ⟨rfl, rfl, S3⟩
    simp only [settle, List.dropWhile]
    have k0 := cell_of_row _ _ 0 _ _ _ (S3.blk_at 1 rfl)
    have k1 := cell_of_row _ _ 1 _ _ _ (S3.blk_at 1 rfl)
    have k2 := cell_of_row _ _ 2 _ _ _ (S3.blk_at 1 rfl)
    have k3 := cell_of_row _ _ 0 _ _ _ (S3.blk_at 0 rfl)
    exact ⟨.tuple #[.agg #[.bool false, .string ⟨#[]⟩, .slice none 0 0], .int .i64 2], by simp [results, Tryz.results62, go_sem, k0, k1, k2, k3], .inr ⟨2, .bad HL.out HRD.out, .inl rfl, rfl, S3.nil⟩⟩
  · obtain ⟨x, y, z, H1, rfl, hle, hrep, S1⟩ := hR
    obtain ⟨q1, s1, A1, n1, c1, rfl, rfl, rfl⟩ := it_cells hrep
    have HLE := Lib.hid (And.intro hle hrep)
    have HS1 : Hid (St H w none_ H1 w1 [blk (w.heap.size + 2) (rdO (bs r)), blk w.heap.size (.cells #[.bool false, .string ⟨#[]⟩, .slice none 0 0] 123), blk (w.heap.size + 1) (errO 0)]) := S1
    clear S1 HS hle hrep
    go_wp2_with (first
      | (refine wpList_store_st (cs := #[.bool q1, .string s1, .slice A1 n1 c1]) 1 HS1.out rfl rfl 123 (.tmp 2) (.tmp 14) rfl rfl rfl szItem rfl (oneItem _ _ _ _ _) ?_)
      | fail)
    intro w2 S2
    have HS2 : Hid (St H w none_ H1 w2 [blk w.heap.size (.cells #[.bool q1, .string s1, .slice A1 n1 c1] 123), blk (w.heap.size + 1) (errO 0), blk (w.heap.size + 2) (rdO (bs r))]) := (S2.pick 2 rfl).pick 1 rfl
    have cr : w2.cell? ⟨w.heap.size + 1 + 1, 0, none⟩ = some (.string (bs r)) := HS2.out.cell 2 rfl rfl
    clear S2 HS1
    by_cases hr : r = []
    · subst hr
      have hs1 : (bs []).toList.isEmpty = true := by rw [bs_toList]; rfl
      go_wp2_with fail
      refine (need_yes _).mono ?_
      rintro e w3 ⟨rfl, rfl⟩
      clear cr
      go_wp2_with (first
        | (refine wpList_load_st (cs := #[.bool q1, .string s1, .slice A1 n1 c1]) 0 HS2.out rfl rfl 123 (.tmp 2) rfl rfl _ Tryz.underlying123 rfl szItem ?_)
        | (refine wpList_store_st (cs := #[.bool q1, .string s1, .slice A1 n1 c1]) 0 HS2.out rfl rfl 123 (.tmp 2) (.tmp 21) rfl rfl rfl szItem rfl (oneItem _ _ _ _ _) ?_)
        | fail)
      intro w4 S4
      have d0 : w4.cell? ⟨w.heap.size + 1, 0, none⟩ = some (.int .i64 0) := by have hbk := S4.blk_at 1 rfl; rw [cell_of_row _ _ _ _ _ _ hbk]; rfl
      have g0 := S4.frozen 1 rfl 0
      have HS4 := Lib.hid (S4.setCell (j := 0) 1 rfl (.int .i64 0))
      clear S4 HS2
      go_wp2_with fail
      refine leaves_cons (f := 121) (args := #[.pointer (some ⟨w.heap.size, 0, none⟩), .pointer (some ⟨w.heap.size + 1, 0, none⟩)]) (by simp) (by simp [go_sem]) ?_
      refine (dec_idle HS4.out _ _).mono ?_
      rintro e u' w5 ⟨rfl, rfl, S3⟩
      simp only [settle]
      have k0 := cell_of_row _ _ 0 _ _ _ (S3.blk_at 1 rfl)
      have k1 := cell_of_row _ _ 1 _ _ _ (S3.blk_at 1 rfl)
      have k2 := cell_of_row _ _ 2 _ _ _ (S3.blk_at 1 rfl)
      have k3 := cell_of_row _ _ 0 _ _ _ (S3.blk_at 0 rfl)
      exact ⟨.tuple #[.agg #[.bool q1, .string s1, .slice A1 n1 c1], .int .i64 0], by simp [results, Tryz.results62, go_sem, k0, k1, k2, k3], .inl ⟨i, _, _, _, H1, .good HL.out HRD.out, rfl, HLE.out.2, S3.nil⟩⟩
    · have hs1 : (bs r).toList.isEmpty = false := by rw [bs_toList]; cases r with | nil => exact absurd rfl hr | cons a t => rfl
      have HR := Lib.hid hr
      clear hr
      go_wp2_with fail
      refine (need_no _).mono ?_
      rintro e w3 ⟨rfl, rfl⟩
      go_wp2_with fail
      refine leaves_cons (f := 121) (args := #[.pointer (some ⟨w.heap.size, 0, none⟩), .pointer (some ⟨w.heap.size + 1, 0, none⟩)]) (by simp) (by simp [go_sem]) ?_
      refine (dec_catch HS2.out []).mono ?_
      rintro e u' w5 ⟨rfl, rfl, S3⟩
      simp only [settle, List.dropWhile]
      have k0 := cell_of_row _ _ 0 _ _ _ (S3.blk_at 1 rfl)
      have k1 := cell_of_row _ _ 1 _ _ _ (S3.blk_at 1 rfl)
      have k2 := cell_of_row _ _ 2 _ _ _ (S3.blk_at 1 rfl)
      have k3 := cell_of_row _ _ 0 _ _ _ (S3.blk_at 0 rfl)
      exact ⟨.tuple #[.agg #[.bool false, .string ⟨#[]⟩, .slice none 0 0], .int .i64 2], by simp [results, Tryz.results62, go_sem, k0, k1, k2, k3], .inr ⟨2, .more HL.out HRD.out HR.out, .inl rfl, rfl, (S3.less HLE.out.1 (Le.refl _)).nil⟩⟩
end Go.Proofs.YtdnpobjokajigaaGreatDoor

namespace Go.Proofs.YtdnpobjokajigaaGreatDoor
open Go.RowKit Go.Proofs K

def rdLg (R : List UInt8 → Option (It × List UInt8)) : Nat → List UInt8 → Option (List It)
  | 0, l => if l = [] then some [] else none
  | g + 1, l => if l = [] then some [] else match R l with
    | none => none
    | some (i, r) => (rdLg R g r).map (i :: ·)
def isBad (b : UInt8) (l : List UInt8) : Bool := match l with | [c] => decide (c.toNat < 128) && decide (b.toNat = 129) | _ => false
def rdB (R : List UInt8 → Option (List It)) (d : Nat) : List UInt8 → Option (It × List UInt8)
  | [] => none
  | b :: r =>
    if 64 < d then none
    else if b.toNat < 128 then some (.text ⟨#[b]⟩, r)
    else if b.toNat < 192 then match manyL (b.toNat - 128) r with
      | none => none
      | some (n, r2) => if r2.length < n then none else if isBad b (r2.take n) then none else some (.text ⟨(r2.take n).toArray⟩, r2.drop n)
    else match manyL (b.toNat - 192) r with
      | none => none
      | some (n, r2) => if r2.length < n then none else match R (r2.take n) with
        | none => none
        | some l => some (.list l, r2.drop n)
def rdF : Nat → Nat → List UInt8 → Option (It × List UInt8)
  | 0 => fun _ _ => none
  | f + 1 => fun d l => rdB (fun l' => rdLg (rdF f (d + 1)) l'.length l') d l
theorem rdB_cons (R : List UInt8 → Option (List It)) (d : Nat) (b : UInt8) (r : List UInt8) : rdB R d (b :: r) =
    if 64 < d then none
    else if b.toNat < 128 then some (.text ⟨#[b]⟩, r)
    else if b.toNat < 192 then match manyL (b.toNat - 128) r with
      | none => none
      | some (n, r2) => if r2.length < n then none else if isBad b (r2.take n) then none else some (.text ⟨(r2.take n).toArray⟩, r2.drop n)
    else match manyL (b.toNat - 192) r with
      | none => none
      | some (n, r2) => if r2.length < n then none else match R (r2.take n) with
        | none => none
        | some l => some (.list l, r2.drop n) := rfl
theorem rdF_succ (f d : Nat) (l : List UInt8) : rdF (f + 1) d l = rdB (fun l' => rdLg (rdF f (d + 1)) l'.length l') d l := rfl
theorem rdF_cons (f d : Nat) (b : UInt8) (r : List UInt8) : rdF (f + 1) d (b :: r) = rdB (fun l' => rdLg (rdF f (d + 1)) l'.length l') d (b :: r) := rfl
theorem ite_none {α : Type} {p : Prop} [Decidable p] {o : Option α} (h : o = none) : (if p then none else o) = none := by rw [h]; split <;> rfl
theorem rdLg_of {f d : Nat} (hI : ∀ l o, l.length < f → RdI d l o → rdF f d l = o) : ∀ (g : Nat) (l : List UInt8) (o : Option (List It)), l.length ≤ g → l.length < f → RdL d l o → rdLg (rdF f d) g l = o := by
  intro g
  induction g with
  | zero =>
    intro l o hg hf h
    obtain rfl : l = [] := List.eq_nil_of_length_eq_zero (by omega)
    cases h with
    | nil => rfl
    | bad hl => exact absurd rfl hl
    | step hl => exact absurd rfl hl
  | succ g ih =>
    intro l o hg hf h
    unfold rdLg
    cases h with
    | nil => rfl
    | bad hl h => rw [if_neg hl, hI _ _ hf h]
    | step hl h t =>
      have hs := h.shorter
      rw [if_neg hl, hI _ _ hf h]
      show (rdLg _ g _).map _ = _
      rw [ih _ _ (by omega) (by omega) t]
theorem rdF_of : ∀ (f d : Nat) (l : List UInt8) (o : Option (It × List UInt8)), l.length < f → RdI d l o → rdF f d l = o := by
  intro f
  induction f with
  | zero => intro d l o h; omega
  | succ f ih =>
    intro d l o hf h
    cases h with
    | deep h =>
      cases l with
      | nil => rfl
      | cons b r => rw [rdF_cons, rdB_cons, if_pos h]
    | nil => rfl
    | @one _ b r hd hb => rw [rdF_cons, rdB_cons, if_neg (show ¬ 64 < d by omega), if_pos hb]
    | @many _ b r hb hb2 hm =>
      rw [rdF_cons, rdB_cons]
      refine ite_none ?_
      rw [if_neg (show ¬ b.toNat < 128 by omega), if_pos hb2, hm]
    | @cut _ b r r2 n hb hb2 hm hn =>
      rw [rdF_cons, rdB_cons]
      refine ite_none ?_
      rw [if_neg (show ¬ b.toNat < 128 by omega), if_pos hb2, hm]
      simp only
      rw [if_pos hn]
    | @bad _ b c r r2 n hb hm hn ht hc =>
      rw [rdF_cons, rdB_cons]
      refine ite_none ?_
      rw [if_neg (show ¬ b.toNat < 128 by omega), if_pos (show b.toNat < 192 by omega), hm]
      simp only
      rw [if_neg (show ¬ r2.length < n by omega), ht, if_pos]
      simp [isBad, hc, hb]
    | @text _ b r r2 n hd hb hb2 hm hn ht =>
      rw [rdF_cons, rdB_cons, if_neg (show ¬ 64 < d by omega), if_neg (show ¬ b.toNat < 128 by omega), if_pos hb2, hm]
      simp only
      rw [if_neg (show ¬ r2.length < n by omega), if_neg]
      unfold isBad
      split
      · rename_i c hc
        have := ht c hc
        simp only [Bool.and_eq_true, decide_eq_true_eq]
        exact fun h => this h.1 h.2
      · simp
    | @manyL _ b r hb hm =>
      rw [rdF_cons, rdB_cons]
      refine ite_none ?_
      rw [if_neg (show ¬ b.toNat < 128 by omega), if_neg (show ¬ b.toNat < 192 by omega), hm]
    | @cutL _ b r r2 n hb hm hn =>
      rw [rdF_cons, rdB_cons]
      refine ite_none ?_
      rw [if_neg (show ¬ b.toNat < 128 by omega), if_neg (show ¬ b.toNat < 192 by omega), hm]
      simp only
      rw [if_pos hn]
    | @badL _ b r r2 n hb hm hn h =>
      have h1 := manyL_le hm
      simp only [List.length_cons] at hf
      rw [rdF_cons, rdB_cons]
      refine ite_none ?_
      rw [if_neg (show ¬ b.toNat < 128 by omega), if_neg (show ¬ b.toNat < 192 by omega), hm]
      simp only
      rw [if_neg (show ¬ r2.length < n by omega), rdLg_of (fun l o hl h => ih _ l o hl h) _ _ _ (Nat.le_refl _) (by simp; omega) h]
    | @list _ b r r2 n l hd hb hm hn h =>
      have h1 := manyL_le hm
      simp only [List.length_cons] at hf
      rw [rdF_cons, rdB_cons, if_neg (show ¬ 64 < d by omega), if_neg (show ¬ b.toNat < 128 by omega), if_neg (show ¬ b.toNat < 192 by omega), hm]
      simp only
      rw [if_neg (show ¬ r2.length < n by omega), rdLg_of (fun l o hl h => ih _ l o hl h) _ _ _ (Nat.le_refl _) (by simp; omega) h]
/-- The bytes as one item, wholly. -/
def decF (l : List UInt8) : Option It := if 65536 < l.length then none else match rdF (l.length + 1) 0 l with
  | some (i, []) => some i
  | _ => none
theorem decF_of {l : List UInt8} {o : Option It} (h : DecR l o) : decF l = o := by
  unfold decF
  cases h with
  | long h => rw [if_pos h]
  | bad h hr => rw [if_neg (by omega), rdF_of _ _ _ _ (Nat.lt_succ_self _) hr]
  | more h hr hn =>
    rw [if_neg (by omega), rdF_of _ _ _ _ (Nat.lt_succ_self _) hr]
    rename_i r i
    cases r with
    | nil => exact absurd rfl hn
    | cons => rfl
  | good h hr => rw [if_neg (by omega), rdF_of _ _ _ _ (Nat.lt_succ_self _) hr]
end Go.Proofs.YtdnpobjokajigaaGreatDoor

namespace Go.Proofs.YtdnpobjokajigaaGreatDoor
open Go.RowKit Go.Proofs K

theorem numL_pos {n : Nat} (h0 : 0 < n) (h : n < 18446744073709551616) : 0 < (numL (n : Int)).length := by
  cases e : numL (n : Int) with
  | nil =>
    have := valN_num h
    rw [e] at this
    simp [valN] at this
    omega
  | cons => simp
theorem manyL_num {n : Nat} (h55 : 55 < n) (h : n ≤ 65536) (rest : List UInt8) : manyL (55 + (numL (n : Int)).length) (numL (n : Int) ++ rest) = some (n, rest) := by
  have hp := numL_pos (n := n) (by omega) (by omega)
  have hb := numS_back (n := (n : Int)) (by omega) (by omega)
  unfold manyL
  rw [if_neg (show ¬ 55 + (numL (n : Int)).length ≤ 55 by omega), if_pos (by simp)]
  simp only [Nat.add_sub_cancel_left, List.take_left, List.drop_left]
  rw [show (⟨(numL (n : Int)).toArray⟩ : ByteArray) = numS n from rfl, if_pos ⟨numL_ok _, by omega, by omega⟩, hb]
  rfl
theorem manyL_short {n : Nat} (h : n ≤ 55) (l : List UInt8) : manyL n l = some (n, l) := by unfold manyL; rw [if_pos h]
theorem ofNat_nat {n : Nat} (h : n < 256) : (UInt8.ofNat n).toNat = n := by rw [UInt8.toNat_ofNat']; omega
theorem isBad_no {b : UInt8} {l : List UInt8} (h : l.length ≠ 1) : isBad b l = false := by
  unfold isBad
  split
  · simp at h
  · rfl
theorem bytes_list {s : ByteArray} {l : List UInt8} (h : s.data.toList = l) : (⟨l.toArray⟩ : ByteArray) = s := by
  subst h
  exact ByteArray.ext (by simp)
theorem rdB_head {R : List UInt8 → Option (List It)} {d : Nat} (hd : d ≤ 64) {l : List UInt8} (hl : l.length ≤ 65536) (hn : l.length ≠ 1) (rest : List UInt8) : rdB R d (aheadL 128 l.length ++ l ++ rest) = some (.text ⟨l.toArray⟩, rest) := by
  unfold aheadL
  split
  · rename_i h
    rw [List.append_assoc, List.singleton_append, rdB_cons, if_neg (show ¬ 64 < d by omega), ofNat_nat (by omega), if_neg (by omega), if_pos (by omega), Nat.add_sub_cancel_left, manyL_short h]
    simp only [List.length_append, List.take_left, List.drop_left]
    rw [if_neg (by omega), isBad_no hn]
    rfl
  · rename_i h
    have h8 := numL_len (l.length : Int)
    have hp := numL_pos (n := l.length) (by omega) (by omega)
    rw [List.append_assoc, List.cons_append, rdB_cons, if_neg (show ¬ 64 < d by omega), ofNat_nat (by omega), if_neg (by omega), if_pos (by omega), Nat.add_assoc 128, Nat.add_sub_cancel_left, manyL_num (by omega) hl]
    simp only [List.length_append, List.take_left, List.drop_left]
    rw [if_neg (by omega), isBad_no hn]
    rfl
theorem sizeL (s : ByteArray) : s.data.toList.length = s.size := by rw [Array.length_toList]; rfl
theorem lt128 (c : UInt8) : c < 128 ↔ c.toNat < 128 := UInt8.lt_iff_toNat_lt
theorem rdB_text {R : List UInt8 → Option (List It)} {d : Nat} (hd : d ≤ 64) {s : ByteArray} (hs : s.size ≤ 65536) (rest : List UInt8) : rdB R d (textL s ++ rest) = some (.text s, rest) := by
  have hs' : s.data.toList.length ≤ 65536 := by rw [sizeL]; exact hs
  unfold textL
  split
  · rename_i c hc
    split
    · rename_i h
      rw [List.singleton_append, rdB_cons, if_neg (show ¬ 64 < d by omega), if_pos ((lt128 c).1 h), ← bytes_list hc]
    · rename_i h
      have h' : ¬ c.toNat < 128 := fun h2 => h ((lt128 c).2 h2)
      rw [show aheadL 128 1 = [UInt8.ofNat 129] from rfl, List.append_assoc, List.singleton_append, rdB_cons, if_neg (show ¬ 64 < d by omega), ofNat_nat (by omega), if_neg (by omega), if_pos (by omega), manyL_short (by omega)]
      simp only [List.singleton_append, List.length_cons]
      rw [if_neg (by omega), if_neg, ← bytes_list hc]
      · rfl
      · simp [isBad, h']
  · rename_i h
    rw [rdB_head hd hs' (fun h1 => ?_), bytes_list rfl]
    obtain ⟨c, hc⟩ := List.length_eq_one_iff.1 h1
    exact h c hc
theorem rdB_list {R : List UInt8 → Option (List It)} {d : Nat} (hd : d ≤ 64) {l : List UInt8} {k : List It} (hl : l.length ≤ 65536) (hR : R l = some k) (rest : List UInt8) : rdB R d (aheadL 192 l.length ++ l ++ rest) = some (.list k, rest) := by
  unfold aheadL
  split
  · rename_i h
    rw [List.append_assoc, List.singleton_append, rdB_cons, if_neg (show ¬ 64 < d by omega), ofNat_nat (by omega), if_neg (by omega), if_neg (by omega), Nat.add_sub_cancel_left, manyL_short h]
    simp only [List.length_append, List.take_left, List.drop_left]
    rw [if_neg (by omega), hR]
  · rename_i h
    have h8 := numL_len (l.length : Int)
    have hp := numL_pos (n := l.length) (by omega) (by omega)
    rw [List.append_assoc, List.cons_append, rdB_cons, if_neg (show ¬ 64 < d by omega), ofNat_nat (by omega), if_neg (by omega), if_neg (by omega), Nat.add_assoc 192, Nat.add_sub_cancel_left, manyL_num (by omega) hl]
    simp only [List.length_append, List.take_left, List.drop_left]
    rw [if_neg (by omega), hR]
theorem textL_pos (s : ByteArray) : 0 < (textL s).length := by
  unfold textL
  split
  · split <;> simp
  · unfold aheadL; split <;> simp
theorem textL_ge (s : ByteArray) : s.size ≤ (textL s).length := by
  have : s.size = s.data.toList.length := (sizeL s).symm
  unfold textL
  split
  · rename_i c hc; rw [this, hc]; split <;> (first | exact Nat.le_refl _ | (rw [List.length_append]; exact Nat.le_add_left _ _))
  · simp
theorem rdLg_texts {f d : Nat} (hd : d ≤ 64) : ∀ (ts : List ByteArray) (g : Nat), (encL (ts.map It.text)).length ≤ g → (encL (ts.map It.text)).length ≤ 65536 → rdLg (rdF (f + 1) d) g (encL (ts.map It.text)) = some (ts.map It.text)
  | [], g, _, _ => by cases g <;> simp [encL, rdLg]
  | s :: ts, g, hg, hl => by
    rw [List.map_cons, encL, It.enc] at hg hl ⊢
    have hp := textL_pos s
    have hge := textL_ge s
    rw [List.length_append] at hg hl
    cases g with
    | zero => omega
    | succ g =>
      have hne : textL s ++ encL (ts.map It.text) ≠ [] := by
        intro h
        have := congrArg List.length h
        rw [List.length_append, List.length_nil] at this
        omega
      unfold rdLg
      rw [if_neg hne, rdF_succ, rdB_text hd (by omega)]
      show (rdLg _ g _).map _ = _
      rw [rdLg_texts hd ts g (by omega) (by omega)]
      rfl
set_option maxRecDepth 100000 in
theorem rdF_put {f d : Nat} (hd : d < 64) {ts : List ByteArray} (hl : (encL (ts.map It.text)).length ≤ 65536) (rest : List UInt8) : rdF (f + 1 + 1) d ((putL ts).data.toList ++ rest) = some (.list (ts.map It.text), rest) := by
  have e : (putL ts).data.toList = aheadL 192 (encL (ts.map It.text)).length ++ encL (ts.map It.text) := by simp [putL, It.bytes, It.enc]
  rw [e]
  refine (rdF_succ (f + 1) d _).trans ?_
  exact rdB_list (R := fun l' => rdLg (rdF (f + 1) (d + 1)) l'.length l') (Nat.le_of_lt hd) hl (rdLg_texts (f := f) (d := d + 1) hd ts _ (Nat.le_refl _) hl) rest
theorem putL_len (ts : List ByteArray) : (encL (ts.map It.text)).length + 1 ≤ (putL ts).data.toList.length := by
  have e : (putL ts).data.toList = aheadL 192 (encL (ts.map It.text)).length ++ encL (ts.map It.text) := by simp [putL, It.bytes, It.enc]
  rw [e, List.length_append]
  unfold aheadL
  split <;> simp <;> omega
/-- What was put is read; with more behind it is none. -/
theorem decF_put {ts : List ByteArray} (hl : (putL ts).data.toList.length ≤ 65536) : decF (putL ts).data.toList = some (.list (ts.map It.text)) := by
  have h1 := putL_len ts
  unfold decF
  rw [if_neg (by omega)]
  have := rdF_put (f := (putL ts).data.toList.length - 1) (d := 0) (by decide) (ts := ts) (by omega) []
  rw [List.append_nil, show (putL ts).data.toList.length - 1 + 1 + 1 = (putL ts).data.toList.length + 1 by omega] at this
  rw [this]
theorem decF_more {ts : List ByteArray} (hl : (putL ts).data.toList.length ≤ 65536) {x : List UInt8} (hx : x ≠ []) : decF ((putL ts).data.toList ++ x) = none := by
  have h1 := putL_len ts
  unfold decF
  split
  · rfl
  · have := rdF_put (f := ((putL ts).data.toList ++ x).length - 1) (d := 0) (by decide) (ts := ts) (by omega) x
    rw [show ((putL ts).data.toList ++ x).length - 1 + 1 + 1 = ((putL ts).data.toList ++ x).length + 1 by rw [List.length_append]; omega] at this
    rw [this]
    cases x with
    | nil => exact absurd rfl hx
    | cons => rfl
theorem manyL_ext {f n : Nat} {l r : List UInt8} (h : manyL f l = some (n, r)) (x : List UInt8) : manyL f (l ++ x) = some (n, r ++ x) := by
  unfold manyL at h ⊢
  split at h
  · rename_i hf
    cases h
    rw [if_pos hf]
  · rename_i hf
    rw [if_neg hf]
    split at h
    · rename_i hl
      rw [if_pos (by rw [List.length_append]; omega), List.take_append_of_le_length hl, List.drop_append_of_le_length hl]
      simp only at h ⊢
      split at h
      · rename_i h3
        cases h
        rw [if_pos h3]
      · cases h
    · cases h
theorem RdI.ext {d : Nat} {l r : List UInt8} {i : It} (h : RdI d l (some (i, r))) (x : List UInt8) : RdI d (l ++ x) (some (i, r ++ x)) := by
  cases h with
  | one hd hb => exact .one hd hb
  | text hd hb hb2 hm hn ht =>
    rw [← List.take_append_of_le_length (l₂ := x) hn] at ht ⊢
    rw [← List.drop_append_of_le_length (l₂ := x) hn]
    exact .text hd hb hb2 (manyL_ext hm x) (by rw [List.length_append]; omega) ht
  | list hd hb hm hn h =>
    rw [← List.take_append_of_le_length (l₂ := x) hn] at h
    rw [← List.drop_append_of_le_length (l₂ := x) hn]
    exact .list hd hb (manyL_ext hm x) (by rw [List.length_append]; omega) h
/-- A cut of what was put is none. -/
theorem decR_cut {ts : List ByteArray} (hl : (putL ts).data.toList.length ≤ 65536) {p x : List UInt8} (hp : p ++ x = (putL ts).data.toList) (hx : x ≠ []) {i : It} (h : DecR p (some i)) : False := by
  have h1 := putL_len ts
  cases h with
  | good h hr =>
    have h2 := rdF_of ((putL ts).data.toList.length + 1) 0 _ _ (by rw [hp]; omega) (hr.ext x)
    have h3 := rdF_put (f := (putL ts).data.toList.length - 1) (d := 0) (by decide) (ts := ts) (by omega) []
    rw [List.append_nil, show (putL ts).data.toList.length - 1 + 1 + 1 = (putL ts).data.toList.length + 1 by omega, ← hp] at h3
    rw [hp] at h2
    rw [hp, h2] at h3
    simp only [Option.some.injEq, Prod.mk.injEq, List.nil_append] at h3
    exact hx h3.2
end Go.Proofs.YtdnpobjokajigaaGreatDoor
