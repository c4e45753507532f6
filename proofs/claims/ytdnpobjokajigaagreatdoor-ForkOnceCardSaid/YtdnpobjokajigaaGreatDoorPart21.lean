/-
  The document's own words: of bytes.
  The document's own encoding of a text.
  The document's own encoding of a list; all.
  The document's own PutAsk.
-/
import Derived.Test.YtdnpobjokajigaaGreatDoorPart20
import Derived.Test.YtdnpobjokajigaaGreatDoorPart18
import Derived.Test.YtdnpobjokajigaaGreatDoorPart7
namespace Go.Proofs.YtdnpobjokajigaaGreatDoor
open Go.RowKit Go.Proofs K
set_option linter.unusedVariables false

theorem info_u64R : (Tryz.prog.info? 22).map (fun i => (i.zero, i.size, i.bytes)) = some (some (.int .u64 0), 1, 8) := by kernel_rfl
def ofRow (s : ByteArray) (k : Nat) : List Value := [.int .u64 (ofL s k 0), .int .u64 (ofL s k 1), .int .u64 (ofL s k 2), .int .u64 (ofL s k 3)]
theorem ofRow_at (s : ByteArray) (k : Nat) {i : Nat} (h : i < 4) : (ofRow s k)[i]? = some (.int .u64 (ofL s k i)) := by
  rcases (by omega : i = 0 ∨ i = 1 ∨ i = 2 ∨ i = 3) with e | e | e | e <;> rw [e] <;> rfl
theorem ofRow_set (s : ByteArray) {k : Nat} (h : k < 32) : (ofRow s k).set (k / 8) (.int .u64 (bits BinOp.or IntKind.u64 (ofL s k (k / 8)) (IntKind.u64.wrap (IntKind.u64.wrap (lowB s k) * 2 ^ (k % 8 * 8))))) = ofRow s (k + 1) := by
  rcases (by omega : k / 8 = 0 ∨ k / 8 = 1 ∨ k / 8 = 2 ∨ k / 8 = 3) with e | e | e | e <;> simp [ofRow, ofL, e]
def lowRow (s : ByteArray) (n : Nat) : List Value := (List.range n).map fun j => .int .i64 (lowB s j)
theorem lowRow_at (s : ByteArray) {n j : Nat} (h : j < n) : (lowRow s n)[j]? = some (.int .i64 (lowB s j)) := by simp [lowRow, h]
theorem lowB_bd (s : ByteArray) (k : Nat) : 0 ≤ lowB s k ∧ lowB s k < 256 := by
  unfold lowB
  have := (s.data.toList.getD (s.size - 1 - k) 0).toNat_lt
  omega
set_option maxRecDepth 100000 in
set_option maxHeartbeats 4000000 in
theorem join0 (s : ByteArray) (hs : s.size ≤ 32) {A : Option Addr} {c : Nat} {w : World} (hcells : ∀ j, j < s.size → ∃ g, A = some ⟨g, 0, none⟩ ∧ g < w.heap.size ∧ w.cell? ⟨g, j, none⟩ = some (.int .i64 (lowB s j))) :
    Calls Tryz.prog 181 #[.slice A s.size c] w (RetV (.agg #[.int .u64 (ofL s s.size 3), .int .u64 (ofL s s.size 2), .int .u64 (ofL s s.size 1), .int .u64 (ofL s s.size 0)]) w) := by
  have HC := Lib.hid hcells
  have HS := Lib.hid ((St.start (ag_emp w)).alloc (.cells #[.int .u64 0, .int .u64 0, .int .u64 0, .int .u64 0] 24))
  obtain ⟨i0, hi0, hz0, hz1, hz2⟩ := info_parts info_u64R
  clear hcells
  go_enter Tryz.func181, Tryz.ntmps181
  go_wp2_with (first
    | (refine wpList_makeFull_st (size := 1) (c := 4) HS.out rfl 22 330 (.const (.int .i64 4)) (.const (.int .i64 4)) rfl i0 (.int .u64 0) 8 rfl rfl Tryz.underlying330 hi0 hz0 hz1 hz2 (by decide) (by decide) ?_)
    | fail)
  intro w2 S2
  rw [toList_madeCells_one] at S2
  have HS2 : Hid (St empH w none_ empH w2 [own 22 1 (.slice (some ⟨w.heap.size + 1, 0, none⟩) 4 4) 4 (ofRow s 0), blk w.heap.size (.cells #[.int .u64 0, .int .u64 0, .int .u64 0, .int .u64 0] 24)]) := S2
  clear S2 HS
  go_wp2_with fail
  go_loopw [4] (fun i wr => ∃ k : Nat, i = .int .i64 k ∧ k ≤ s.size ∧ Hid (St empH w none_ empH wr [own 22 1 (.slice (some ⟨w.heap.size + 1, 0, none⟩) 4 4) 4 (ofRow s k), blk w.heap.size (.cells #[.int .u64 0, .int .u64 0, .int .u64 0, .int .u64 0] 24)])) (fun i _ => 32 - (intOf i).toNat)
  case atStart => exact ⟨0, rfl, by omega, HS2⟩
  case round =>
    clear HS2
    obtain ⟨k, rfl, hk, HS⟩ := hrel
    by_cases hlt : k < s.size
    · obtain ⟨g, rfl, hg, hcl⟩ := HC.out k hlt
      have hc0 : wr.cell? ⟨g, k, none⟩ = some (.int .i64 (lowB s k)) := by rw [HS.out.below.cell (p := ⟨g, k, none⟩) hg]; exact hcl
      have hk4 : k / 8 < 4 := by omega
      have hc1 : wr.cell? ⟨w.heap.size + 1, k / 8, none⟩ = some (.int .u64 (ofL s k (k / 8))) := by rw [HS.out.ownCell 0 rfl (k / 8) (by omega), ofRow_at _ _ hk4]
      have hf1 : wr.frozen? ⟨w.heap.size + 1, k / 8, none⟩ = false := HS.out.ownFrozen 0 rfl (k / 8)
      have hq : (k : Int).tdiv 8 = ((k / 8 : Nat) : Int) := by rw [Int.tdiv_eq_ediv_of_nonneg (by omega)]; omega
      have hr : (k : Int).tmod 8 = ((k % 8 : Nat) : Int) := by rw [Int.tmod_eq_emod_of_nonneg (by omega)]; omega
      have hd32 : decide ((k : Int) < 32) = true := by simp; omega
      have hi1 : (0 : Int) ≤ ((k / 8 : Nat) : Int) := by omega
      have hi2 : ((k / 8 : Nat) : Int) < 4 := by omega
      clear hcl
      go_wp2_with fail
      go_region
      go_wp2_with fail
      go_roundw
      case rel =>
        have S := (HS.out.setOwn 0 rfl (k / 8) (.int .u64 (bits BinOp.or IntKind.u64 (ofL s k (k / 8)) (IntKind.u64.wrap (IntKind.u64.wrap (lowB s k) * 2 ^ (8 * (k % 8))))))).drew
        rw [Nat.mul_comm 8 (k % 8), ofRow_set s (by omega)] at S
        rw [Nat.mul_comm 8 (k % 8)]
        exact ⟨k + 1, by go_num, by omega, S⟩
      case measure => simp [intOf]; omega
    · obtain rfl : k = s.size := by omega
      have h0 : wr.cell? ⟨w.heap.size + 1, 0, none⟩ = some (.int .u64 (ofL s s.size 0)) := HS.out.ownCell 0 rfl 0 (by decide)
      have h1 : wr.cell? ⟨w.heap.size + 1, 1, none⟩ = some (.int .u64 (ofL s s.size 1)) := HS.out.ownCell 0 rfl 1 (by decide)
      have h2 : wr.cell? ⟨w.heap.size + 1, 2, none⟩ = some (.int .u64 (ofL s s.size 2)) := HS.out.ownCell 0 rfl 2 (by decide)
      have h3 : wr.cell? ⟨w.heap.size + 1, 3, none⟩ = some (.int .u64 (ofL s s.size 3)) := HS.out.ownCell 0 rfl 3 (by decide)
      have d0 : wr.cell? ⟨w.heap.size, 0, none⟩ = some (.int .u64 0) := HS.out.cell 1 rfl rfl
      have d1 : wr.cell? ⟨w.heap.size, 1, none⟩ = some (.int .u64 0) := HS.out.cell 1 rfl rfl
      have d2 : wr.cell? ⟨w.heap.size, 2, none⟩ = some (.int .u64 0) := HS.out.cell 1 rfl rfl
      have d3 : wr.cell? ⟨w.heap.size, 3, none⟩ = some (.int .u64 0) := HS.out.cell 1 rfl rfl
      have g0 : wr.frozen? ⟨w.heap.size, 0, none⟩ = false := HS.out.frozen 1 rfl 0
      have g1 : wr.frozen? ⟨w.heap.size, 1, none⟩ = false := HS.out.frozen 1 rfl 1
      have g2 : wr.frozen? ⟨w.heap.size, 2, none⟩ = false := HS.out.frozen 1 rfl 2
      have g3 : wr.frozen? ⟨w.heap.size, 3, none⟩ = false := HS.out.frozen 1 rfl 3
      have S1 : St empH w none_ empH (wr.setCell ⟨w.heap.size, 0, none⟩ (.int .u64 (ofL s s.size 3))) [blk w.heap.size (.cells #[.int .u64 (ofL s s.size 3), .int .u64 0, .int .u64 0, .int .u64 0] 24), own 22 1 (.slice (some ⟨w.heap.size + 1, 0, none⟩) 4 4) 4 (ofRow s s.size)] := HS.out.setCell (j := 0) 1 rfl (.int .u64 (ofL s s.size 3))
      have S2 : St empH w none_ empH ((wr.setCell ⟨w.heap.size, 0, none⟩ (.int .u64 (ofL s s.size 3))).setCell ⟨w.heap.size, 1, none⟩ (.int .u64 (ofL s s.size 2))) [blk w.heap.size (.cells #[.int .u64 (ofL s s.size 3), .int .u64 (ofL s s.size 2), .int .u64 0, .int .u64 0] 24), own 22 1 (.slice (some ⟨w.heap.size + 1, 0, none⟩) 4 4) 4 (ofRow s s.size)] := S1.setCell (j := 1) 0 rfl (.int .u64 (ofL s s.size 2))
      have S3 : St empH w none_ empH (((wr.setCell ⟨w.heap.size, 0, none⟩ (.int .u64 (ofL s s.size 3))).setCell ⟨w.heap.size, 1, none⟩ (.int .u64 (ofL s s.size 2))).setCell ⟨w.heap.size, 2, none⟩ (.int .u64 (ofL s s.size 1))) [blk w.heap.size (.cells #[.int .u64 (ofL s s.size 3), .int .u64 (ofL s s.size 2), .int .u64 (ofL s s.size 1), .int .u64 0] 24), own 22 1 (.slice (some ⟨w.heap.size + 1, 0, none⟩) 4 4) 4 (ofRow s s.size)] := S2.setCell (j := 2) 0 rfl (.int .u64 (ofL s s.size 1))
      have S4 : St empH w none_ empH ((((wr.setCell ⟨w.heap.size, 0, none⟩ (.int .u64 (ofL s s.size 3))).setCell ⟨w.heap.size, 1, none⟩ (.int .u64 (ofL s s.size 2))).setCell ⟨w.heap.size, 2, none⟩ (.int .u64 (ofL s s.size 1))).setCell ⟨w.heap.size, 3, none⟩ (.int .u64 (ofL s s.size 0))) [blk w.heap.size (.cells #[.int .u64 (ofL s s.size 3), .int .u64 (ofL s s.size 2), .int .u64 (ofL s s.size 1), .int .u64 (ofL s s.size 0)] 24), own 22 1 (.slice (some ⟨w.heap.size + 1, 0, none⟩) 4 4) 4 (ofRow s s.size)] := S3.setCell (j := 3) 0 rfl (.int .u64 (ofL s s.size 0))
      have HS4 : Hid (St empH w none_ empH ((((wr.setCell ⟨w.heap.size, 0, none⟩ (.int .u64 (ofL s s.size 3))).setCell ⟨w.heap.size, 1, none⟩ (.int .u64 (ofL s s.size 2))).setCell ⟨w.heap.size, 2, none⟩ (.int .u64 (ofL s s.size 1))).setCell ⟨w.heap.size, 3, none⟩ (.int .u64 (ofL s s.size 0))).drew [blk w.heap.size (.cells #[.int .u64 (ofL s s.size 3), .int .u64 (ofL s s.size 2), .int .u64 (ofL s s.size 1), .int .u64 (ofL s s.size 0)] 24), own 22 1 (.slice (some ⟨w.heap.size + 1, 0, none⟩) 4 4) 4 (ofRow s s.size)]) := S4.drew
      clear S1 S2 S3 S4
      go_wp2_with fail
      all_goals
        go_region
        go_wp2_with fail
        exact post_cell 0 HS4.out rfl Tryz.results181 rfl _ Tryz.underlying24 rfl szWord rfl ⟨rfl, HS4.out.below⟩
theorem rof_no (s : ByteArray) (hs : 32 < s.size) (w : World) : Calls Tryz.prog 141 #[.string s] w (RetV (.tuple #[word0, .bool false]) w) := by
  go_enter Tryz.func141, Tryz.ntmps141
  go_wp2
  exact bodyPost_ret (v := .tuple #[word0, .bool false]) (by simp [results, word0, Tryz.results141, go_sem]) rfl ⟨rfl, (Below.refl _ _).alloc (Nat.le_refl _) _⟩
theorem lowRow_succ (s : ByteArray) (n : Nat) : lowRow s (n + 1) = lowRow s n ++ [.int .i64 (lowB s n)] := by simp [lowRow, List.range_succ]
set_option maxRecDepth 100000 in
set_option maxHeartbeats 2000000 in
theorem rof_any (s : ByteArray) (hs : s.size ≤ 32) (w : World) : Calls Tryz.prog 141 #[.string s] w (RetV (.tuple #[.agg #[.int .u64 (ofL s s.size 3), .int .u64 (ofL s s.size 2), .int .u64 (ofL s s.size 1), .int .u64 (ofL s s.size 0)], .bool true]) w) := by
  have HS : Hid (St empH w none_ empH _ [own 3 1 (.slice none 0 0) 0 (lowRow s 0), blk w.heap.size (.cells #[.int .u64 0, .int .u64 0, .int .u64 0, .int .u64 0] 24)]) := ((St.start (ag_emp w)).alloc (.cells #[.int .u64 0, .int .u64 0, .int .u64 0, .int .u64 0] 24)).own_nil
  obtain ⟨i0, hi0, hz0, hz1, hz2⟩ := info_parts infoInt
  go_enter Tryz.func141, Tryz.ntmps141
  go_wp2_with fail
  go_loopw [4, 5] (fun v i wr => ∃ (k : Nat) (A : Option Addr) (cp : Nat), i = .int .i64 ((s.size : Int) - 1 - k) ∧ k ≤ s.size ∧ v = .slice A k cp ∧ Hid (St empH w none_ empH wr [own 3 1 (.slice A k cp) k (lowRow s k), blk w.heap.size (.cells #[.int .u64 0, .int .u64 0, .int .u64 0, .int .u64 0] 24)])) (fun _ i _ => (intOf i + 1).toNat)
  case atStart => exact ⟨0, none, 0, by simp, by omega, rfl, HS⟩
  case round =>
    clear HS
    obtain ⟨k, A, cp, rfl, hk, rfl, HS⟩ := hrel
    by_cases hlt : k < s.size
    · have hix : (s.size : Int) - 1 - k = ((s.size - 1 - k : Nat) : Int) := by omega
      have hix2 : s.size - 1 - k < s.size := by omega
      rw [hix]
      have HB := Lib.hid (show ((s[s.size - 1 - k].toNat : Nat) : Int) = lowB s k by simp only [lowB, List.getD]; rw [List.getElem?_eq_getElem (show s.size - 1 - k < s.data.toList.length by simpa using hix2)]; rfl)
      have HS1 := Lib.hid (HS.out.alloc (.cells #[.int .i64 (s[s.size - 1 - k].toNat : Int)] 3))
      have HIX := Lib.hid hix
      have hw64 : wrap64 (s[s.size - 1 - k].toNat : Int) = (s[s.size - 1 - k].toNat : Int) := by have := s[s.size - 1 - k].toNat_lt; unfold wrap64; omega
      clear HS hix
      go_wp2_with (first
        | (at_builtin; refine wpList_append_st 1 3 HS1.out rfl rfl _ _ 295 rfl i0 _ 8 Tryz.underlying295 hi0 hz0 hz1 hz2 rfl (by decide) rfl ⟨wr.heap.size, 0, none⟩ 1 1 [.int .i64 (s[s.size - 1 - k].toNat : Int)] rfl rfl (fun j u hj => ?_) (by simp [Value.oneCell']) (by unfold maxLen; omega) (by omega) ?_)
        | fail)
      · rw [Addr.add_lit, Nat.zero_add, cell_of_row _ _ _ _ _ _ (HS1.out.blk_at 0 rfl)]
        simpa using hj
      intro A2 c2 w2 S2
      rw [HB.out, ← lowRow_succ] at S2
      have HS2 : Hid (St empH w none_ empH w2 [own 3 1 (.slice A2 (k + 1) c2) (k + 1) (lowRow s (k + 1)), blk w.heap.size (.cells #[.int .u64 0, .int .u64 0, .int .u64 0, .int .u64 0] 24)]) := S2.drop 1
      clear S2 HS1
      go_wp2_with fail
      go_roundw
      case rel => exact ⟨k + 1, A2, c2, by first | (congr 1; omega) | (congr 1), by omega, rfl, HS2⟩
      case measure => simp [intOf]
    · obtain rfl : k = s.size := by omega
      have hneg : (s.size : Int) - 1 - s.size = -1 := by omega
      rw [hneg]
      have HJ := Lib.hid (join0 s hs (A := A) (c := cp) (w := wr) (fun j hj => by
        obtain ⟨g, rfl, hg⟩ := HS.out.ownForm 0 rfl (by omega)
        exact ⟨g, rfl, hg, by rw [HS.out.ownCell 0 rfl j (by omega), lowRow_at s hj]⟩))
      go_wp2_with fail
      refine HJ.out.mono ?_
      rintro e w2 ⟨rfl, hb2⟩
      have HS3 := Lib.hid (HS.out.grow hb2)
      clear HS hb2 HJ
      go_wp2_with (first
        | (refine wpList_store_st (cs := #[.int .u64 (ofL s s.size 3), .int .u64 (ofL s s.size 2), .int .u64 (ofL s s.size 1), .int .u64 (ofL s s.size 0)]) 1 HS3.out rfl rfl 24 (.tmp 2) (.tmp 25) rfl rfl rfl szWord rfl (oneW _ _ _ _) ?_)
        | fail)
      intro w4 S4
      go_wp2_with fail
      exact post_cell2 0 S4 rfl Tryz.results141 rfl _ Tryz.underlying24 rfl szWord rfl ⟨rfl, S4.below⟩
end Go.Proofs.YtdnpobjokajigaaGreatDoor

namespace Go.Proofs.YtdnpobjokajigaaGreatDoor
open Go.RowKit Go.Proofs K
set_option linter.unusedVariables false

/-- Encoding an item gives its bytes. -/
def REncOk (i : It) : Prop := ∀ (H : Hs) (w : World) (x y z : Value), Ag H w → RepL H [x, y, z] i.d → i.enc.length ≤ 1099511627776 → Calls Tryz.prog 146 #[.agg #[x, y, z]] w (RetV (.string i.bytes) w)
theorem bytes_text (s : ByteArray) : (It.text s).bytes = ⟨(textL s).toArray⟩ := by simp [It.bytes, It.enc]
set_option maxRecDepth 100000 in
set_option maxHeartbeats 1000000 in
theorem renc_text (s : ByteArray) : REncOk (.text s) := by
  intro H w x y z hw hr hl
  obtain ⟨A, c, rfl, rfl, rfl⟩ := text_cells hr
  have hs := textL_ge s
  rw [It.enc] at hl
  have HT := Lib.hid (bytes_text s)
  have HC : Hid (∀ w1, Below (w.alloc (.cells #[.bool false, .string s, .slice A 0 c] 155)).heap.size (w.alloc (.cells #[.bool false, .string s, .slice A 0 c] 155)) w1 → w1.cell? ⟨w.heap.size, 1, none⟩ = some (.string s)) := Lib.hid fun w1 hb => by
    rw [hb.cell (p := ⟨w.heap.size, 1, none⟩) (by simp), cell_of_row _ _ _ _ _ _ (heap_alloc_new w _)]
    rfl
  have hcat : (aheadS 128 s.size).size + s.size ≤ 9223372036854775807 := by
    have := aheadL_len 128 s.size
    rw [aheadS_size]
    omega
  have hcatF : (9223372036854775807 < (aheadS 128 s.size).size + s.size) = False := eq_false (by omega)
  have HHD := Lib.hid (rhead128 s.size (by omega))
  by_cases h1 : s.size = 1
  · have h0 : 0 < s.size := by omega
    by_cases h2 : s[0].toNat < 128
    · have HL := Lib.hid (textL_one h1 h2)
      have e1 : ((s.size : Int) == 1) = true := by rw [beq_iff_eq]; omega
      have h2' : ((s[0].toNat : Nat) : Int) < 128 := by omega
      clear h1 h2
      go_enter Tryz.func146, Tryz.ntmps146
      go_wp2_with fail
      go_ret
      exact ⟨by rw [HT.out, HL.out]; rfl, (Below.refl _ _).alloc (Nat.le_refl _) _⟩
    · have HL : Hid (textL s = aheadL 128 s.size ++ s.data.toList) := Lib.hid (by have := textL_big h1 h2; rw [h1]; exact this)
      have HFIN : Hid (aheadS 128 s.size ++ s = ⟨(textL s).toArray⟩) := Lib.hid (bytes_ext (by rw [data_append, HL.out]; rfl))
      have e1 : ((s.size : Int) == 1) = true := by rw [beq_iff_eq]; omega
      have h2' : ¬ ((s[0].toNat : Nat) : Int) < 128 := by omega
      clear h1 h2
      go_enter Tryz.func146, Tryz.ntmps146
      go_wp2_with fail
      go_region_law (first
        | (go_simp; go_at_call 184; refine (retFrom (W := w.alloc (.cells #[.bool false, .string s, .slice A 0 c] 155)) ?_ (HHD.out _)).mono ?_; (first | assumption | exact (Below.refl _ _).drew); rintro e w1 ⟨rfl, hb1⟩; have k1 := HC.out w1 hb1))
      all_goals
        go_wp2_with fail
        go_ret
        refine ⟨?_, ?_⟩
        · rw [HT.out, ← HFIN.out]; rfl
        · exact ((Below.refl _ _).alloc (Nat.le_refl _) _).trans (hb1.mono (by simp))
  · have HL := Lib.hid (textL_other h1)
    have HFIN : Hid (aheadS 128 s.size ++ s = ⟨(textL s).toArray⟩) := Lib.hid (bytes_ext (by rw [data_append, HL.out]; rfl))
    have e1 : ((s.size : Int) == 1) = false := by rw [beq_eq_false_iff_ne]; omega
    clear h1
    go_enter Tryz.func146, Tryz.ntmps146
    go_wp2_with fail
    go_region_law (first
      | (go_simp; go_at_call 184; refine (retFrom (W := w.alloc (.cells #[.bool false, .string s, .slice A 0 c] 155)) ?_ (HHD.out _)).mono ?_; (first | assumption | exact (Below.refl _ _).drew); rintro e w1 ⟨rfl, hb1⟩; have k1 := HC.out w1 hb1))
    all_goals
      go_wp2_with fail
      go_ret
      refine ⟨?_, ?_⟩
      · rw [HT.out, ← HFIN.out]; rfl
      · exact ((Below.refl _ _).alloc (Nat.le_refl _) _).trans (hb1.mono (by simp))
end Go.Proofs.YtdnpobjokajigaaGreatDoor

namespace Go.Proofs.YtdnpobjokajigaaGreatDoor
open Go.RowKit Go.Proofs K
set_option linter.unusedVariables false

set_option maxRecDepth 100000 in
set_option maxHeartbeats 4000000 in
theorem renc_list (l : List It) (hall : ∀ i ∈ l, REncOk i) (hl : l.length ≤ 1099511627776) : REncOk (.list l) := by
  intro H w x y z hw hr hn
  obtain ⟨A, c, rfl, rfl, rfl, hz⟩ := list_cells hr
  obtain ⟨A', c', cs, he, hnc, hA, hlen, hR, hD⟩ := hz.sl_inv
  obtain ⟨rfl, rfl⟩ : A = A' ∧ c = c' := by simpa using he
  have hn2 : (aheadL 192 (encL l).length).length + (encL l).length ≤ 1099511627776 := by
    unfold It.enc at hn
    rw [List.length_append] at hn
    omega
  have HS := Lib.hid ((St.start hw).alloc (.cells #[.bool true, .string ⟨#[]⟩, .slice A l.length c] 155))
  have HR := Lib.hid hR
  have HD := Lib.hid hD
  have HALL := Lib.hid hall
  clear hr hz he hn hR hD hall hlen hA hw
  go_enter Tryz.func146, Tryz.ntmps146
  go_wp2_with fail
  go_loopw [3, 4] (fun s i wr => ∃ k : Nat, i = .int .i64 k ∧ k ≤ l.length ∧ s = .string (bs (encL (l.take k))) ∧ Hid (St H w none_ H wr [blk w.heap.size (.cells #[.bool true, .string ⟨#[]⟩, .slice A l.length c] 155)])) (fun _ i _ => l.length - (intOf i).toNat)
  case atStart => exact ⟨0, rfl, by omega, rfl, HS⟩
  case round =>
    clear HS
    obtain ⟨k, rfl, hk, rfl, HS⟩ := hrel
    have c2 : wr.cell? ⟨w.heap.size, 2, none⟩ = some (.slice A l.length c) := HS.out.cell 0 rfl rfl
    by_cases hlt : k < l.length
    · obtain ⟨x, y, z, hx, hy, hz, hxyz⟩ := its_at HD.out hlt
      obtain ⟨p, s, A', n', c', rfl, rfl, rfl⟩ := it_cells hxyz
      have HX := Lib.hid hxyz
      clear hxyz
      obtain ⟨b0, o, rfl, hb0, hcell⟩ := HR.out.cells HS.out.ag (by rintro rfl; simp at hx)
      have h0 := hcell _ _ hx
      have h1 := hcell _ _ hy
      have h2 := hcell _ _ hz
      rw [← Nat.add_assoc] at h1 h2
      clear hcell hx hy hz
      have hle := encL_take_le l (k + 1)
      have he := encL_take l hlt
      have hsz : (bs (encL (l.take k))).size = (encL (l.take k)).length := bs_size _
      have hsz2 : l[k].bytes.size = l[k].enc.length := by simp [It.bytes, ByteArray.size]
      have hb1 : l[k].enc.length ≤ 1099511627776 := by
        rw [he, List.length_append] at hle
        omega
      have hcat : (bs (encL (l.take k))).size + l[k].bytes.size ≤ 9223372036854775807 := by
        rw [he, List.length_append] at hle
        omega
      have hcatF : (9223372036854775807 < (bs (encL (l.take k))).size + l[k].bytes.size) = False := eq_false (by omega)
      have HE : Hid (bs (encL (l.take k)) ++ l[k].bytes = bs (encL (l.take (k + 1)))) := Lib.hid (by
        rw [he]
        exact bytes_ext (by rw [data_append]; rfl))
      have HB1 := Lib.hid hb1
      clear he hsz hsz2 hle hb1
      go_wp2_with fail
      refine (HALL.out _ (List.getElem_mem hlt) H _ _ _ _ HS.out.ag HX.out HB1.out).mono ?_
      rintro e w2 ⟨rfl, hb2⟩
      have HS2 := Lib.hid (HS.out.grow hb2)
      clear HS hb2
      go_wp2_with fail
      go_roundw
      case rel => exact ⟨k + 1, by go_num, by omega, by rw [HE.out], HS2⟩
      case measure => simp [intOf]; omega
    · obtain rfl : k = l.length := by omega
      rw [List.take_length]
      have hsz : (bs (encL l)).size = (encL l).length := bs_size _
      have hsz2 : (aheadS 192 (encL l).length).size = (aheadL 192 (encL l).length).length := aheadS_size _ _
      have hcat : (aheadS 192 (encL l).length).size + (bs (encL l)).size ≤ 9223372036854775807 := by omega
      have hcatF : (9223372036854775807 < (aheadS 192 (encL l).length).size + (bs (encL l)).size) = False := eq_false (by omega)
      have HHD := Lib.hid (rhead192 (encL l).length (by omega))
      have HSZ := Lib.hid hsz
      have HFIN : Hid (aheadS 192 (encL l).length ++ bs (encL l) = (It.list l).bytes) := Lib.hid (bytes_ext (by rw [data_append]; simp [It.bytes, It.enc, aheadS, bs]))
      clear hsz hsz2
      go_wp2_with fail
      rw [HSZ.out]
      refine (HHD.out _).mono ?_
      rintro e w2 ⟨rfl, hb2⟩
      have HB := Lib.hid (HS.out.grow hb2)
      clear HS hb2
      go_wp2_with fail
      go_ret
      refine ⟨?_, HB.out.below⟩
      rw [← HFIN.out]; rfl
mutual
theorem renc_ok : ∀ i : It, i.short → REncOk i
  | .text s, _ => renc_text s
  | .list l, h => renc_list l (rencs_ok l h.2) h.1
theorem rencs_ok : ∀ l : List It, shortL l → ∀ i ∈ l, REncOk i
  | [], _, i, hi => by simp at hi
  | x :: l, h, i, hi => by
    rcases List.mem_cons.1 hi with e | hi
    · rw [e]; exact renc_ok x h.1
    · exact rencs_ok l h.2 i hi
end
end Go.Proofs.YtdnpobjokajigaaGreatDoor

namespace Go.Proofs.YtdnpobjokajigaaGreatDoor
open Go.RowKit Go.Proofs K
set_option linter.unusedVariables false

theorem szRItemP : (Tryz.prog.info? 155).map (·.size) = some 3 := by kernel_rfl
theorem infoRItemP : (Tryz.prog.info? 155).map (fun i => (i.zero, i.size, i.bytes)) = some (some (.agg #[.bool false, .string ⟨#[]⟩, .slice none 0 0]), 3, 48) := by kernel_rfl
theorem wrapU_bd (n : Int) : W64 (IntKind.u64.wrap n) := by
  unfold W64
  simp [IntKind.wrap, IntKind.bits, IntKind.signed]
  omega
set_option maxRecDepth 100000 in
theorem rnumber_any (n : Int) (h : W64 n) (w : World) : Calls Tryz.prog 143 #[.int .u64 n] w (RetV (.agg #[.bool false, .string (numS n), .slice none 0 0]) w) := by
  obtain ⟨m, rfl⟩ := Int.eq_ofNat_of_zero_le h.1
  have hm : m < 18446744073709551616 := by have := h.2; omega
  have HB := Lib.hid (rbytes_any m hm)
  have HS := Lib.hid ((St.start (ag_emp w)).alloc (.cells #[.bool false, .string ⟨#[]⟩, .slice none 0 0] 155))
  clear h hm
  go_enter Tryz.func143, Tryz.ntmps143
  go_wp2_with fail
  refine (HB.out _).mono ?_
  rintro e w1 ⟨rfl, hb1⟩
  have HS1 := Lib.hid (HS.out.grow hb1)
  clear HS hb1
  go_wp2_with (first
    | (refine wpList_store_st (cs := #[.bool false, .string (numS (m : Int)), .slice none 0 0]) 0 HS1.out rfl rfl 155 (.tmp 2) (.tmp 5) rfl rfl rfl szRItemP rfl (oneItem _ _ _ _ _) ?_)
    | fail)
  intro w4 S4
  go_wp2_with fail
  exact post_cell 0 S4 rfl Tryz.results143 rfl _ Tryz.underlying155 rfl szRItemP rfl ⟨rfl, S4.below⟩
set_option maxRecDepth 100000 in
theorem rtext_any (s : ByteArray) (w : World) : Calls Tryz.prog 144 #[.string s] w (RetV (.agg #[.bool false, .string s, .slice none 0 0]) w) := by
  have HS := Lib.hid ((St.start (ag_emp w)).alloc (.cells #[.bool false, .string ⟨#[]⟩, .slice none 0 0] 155))
  go_enter Tryz.func144, Tryz.ntmps144
  go_wp2_with (first
    | (refine wpList_store_st (cs := #[.bool false, .string s, .slice none 0 0]) 0 HS.out rfl rfl 155 (.tmp 2) (.tmp 4) rfl rfl rfl szRItemP rfl (oneItem _ _ _ _ _) ?_)
    | fail)
  intro w4 S4
  go_wp2_with fail
  exact post_cell 0 S4 rfl Tryz.results144 rfl _ Tryz.underlying155 rfl szRItemP rfl ⟨rfl, S4.below⟩
set_option maxRecDepth 100000 in
set_option maxHeartbeats 2000000 in
theorem rputAsk_kind (id : Int) (addr : ByteArray) (a b c d kind : Int) (h1 : kind ≠ 1) (h2 : kind ≠ 2) (w : World) : Calls Tryz.prog 142 #[.agg (askC id addr a b c d kind)] w (RetV (.tuple #[.string ⟨#[]⟩, .bool false]) w) := by
  have m1 : (kind == 1) = false := beq_eq_false_iff_ne.2 (by omega)
  have m2 : (kind == 2) = false := beq_eq_false_iff_ne.2 (by omega)
  have n1 : (kind != 1) = true := by rw [bne, m1]; rfl
  have n2 : (kind != 2) = true := by rw [bne, m2]; rfl
  obtain ⟨W, hW⟩ : ∃ W, W = w.alloc (.cells (askC id addr a b c d kind) 158) := ⟨_, rfl⟩
  have HS : Hid (St empH w none_ empH W [blk w.heap.size (.cells (askC id addr a b c d kind) 158)]) := by rw [hW]; exact (St.start (ag_emp w)).alloc _
  have f0 : ∀ w', Below W.heap.size W w' → w'.cell? ⟨w.heap.size, 0, none⟩ = some (.int .u64 id) := fun w' h => (HS.out.grow h).cell 0 rfl rfl
  have f1 : ∀ w', Below W.heap.size W w' → w'.cell? ⟨w.heap.size, 1, none⟩ = some (.string addr) := fun w' h => (HS.out.grow h).cell 0 rfl rfl
  have f6 : ∀ w', Below W.heap.size W w' → w'.cell? ⟨w.heap.size, 6, none⟩ = some (.int .i64 kind) := fun w' h => (HS.out.grow h).cell 0 rfl rfl
  have HW := Lib.hid hW
  clear hW
  simp only [askC]
  go_enter Tryz.func142, Tryz.ntmps142
  go_wp2_with fail
  have eW := HW.out
  simp only [askC] at eW
  rw [← eW]
  clear eW
  go_ret2
  exact ⟨rfl, HS.out.below⟩
set_option maxRecDepth 100000 in
set_option maxHeartbeats 2000000 in
theorem rputAsk_size (id : Int) (addr : ByteArray) (a b c d kind : Int) (hk12 : kind = 1 ∨ kind = 2) (h20 : addr.size ≠ 20) (w : World) : Calls Tryz.prog 142 #[.agg (askC id addr a b c d kind)] w (RetV (.tuple #[.string ⟨#[]⟩, .bool false]) w) := by
  rcases hk12 with hk | hk
  · have m1 : (kind == 1) = true := beq_iff_eq.2 hk
    have m2 : (kind == 2) = false := beq_eq_false_iff_ne.2 (by omega)
    have n1 : (kind != 1) = false := by rw [bne, m1]; rfl
    have n2 : (kind != 2) = true := by rw [bne, m2]; rfl
    have e20 : ((addr.size : Int) == 20) = false := by rw [beq_eq_false_iff_ne]; omega
    have e20' : ((addr.size : Int) != 20) = true := by rw [bne, e20]; rfl
    clear hk h20
    obtain ⟨W, hW⟩ : ∃ W, W = w.alloc (.cells (askC id addr a b c d kind) 158) := ⟨_, rfl⟩
    have HS : Hid (St empH w none_ empH W [blk w.heap.size (.cells (askC id addr a b c d kind) 158)]) := by rw [hW]; exact (St.start (ag_emp w)).alloc _
    have f0 : ∀ w', Below W.heap.size W w' → w'.cell? ⟨w.heap.size, 0, none⟩ = some (.int .u64 id) := fun w' h => (HS.out.grow h).cell 0 rfl rfl
    have f1 : ∀ w', Below W.heap.size W w' → w'.cell? ⟨w.heap.size, 1, none⟩ = some (.string addr) := fun w' h => (HS.out.grow h).cell 0 rfl rfl
    have f6 : ∀ w', Below W.heap.size W w' → w'.cell? ⟨w.heap.size, 6, none⟩ = some (.int .i64 kind) := fun w' h => (HS.out.grow h).cell 0 rfl rfl
    have HW := Lib.hid hW
    clear hW
    simp only [askC]
    go_enter Tryz.func142, Tryz.ntmps142
    go_wp2_with fail
    have eW := HW.out
    simp only [askC] at eW
    rw [← eW]
    clear eW
    go_ret2
    exact ⟨rfl, HS.out.below⟩
  · have m1 : (kind == 1) = false := beq_eq_false_iff_ne.2 (by omega)
    have m2 : (kind == 2) = true := beq_iff_eq.2 hk
    have n1 : (kind != 1) = true := by rw [bne, m1]; rfl
    have n2 : (kind != 2) = false := by rw [bne, m2]; rfl
    have e20 : ((addr.size : Int) == 20) = false := by rw [beq_eq_false_iff_ne]; omega
    have e20' : ((addr.size : Int) != 20) = true := by rw [bne, e20]; rfl
    clear hk h20
    obtain ⟨W, hW⟩ : ∃ W, W = w.alloc (.cells (askC id addr a b c d kind) 158) := ⟨_, rfl⟩
    have HS : Hid (St empH w none_ empH W [blk w.heap.size (.cells (askC id addr a b c d kind) 158)]) := by rw [hW]; exact (St.start (ag_emp w)).alloc _
    have f0 : ∀ w', Below W.heap.size W w' → w'.cell? ⟨w.heap.size, 0, none⟩ = some (.int .u64 id) := fun w' h => (HS.out.grow h).cell 0 rfl rfl
    have f1 : ∀ w', Below W.heap.size W w' → w'.cell? ⟨w.heap.size, 1, none⟩ = some (.string addr) := fun w' h => (HS.out.grow h).cell 0 rfl rfl
    have f6 : ∀ w', Below W.heap.size W w' → w'.cell? ⟨w.heap.size, 6, none⟩ = some (.int .i64 kind) := fun w' h => (HS.out.grow h).cell 0 rfl rfl
    have HW := Lib.hid hW
    clear hW
    simp only [askC]
    go_enter Tryz.func142, Tryz.ntmps142
    go_wp2_with fail
    have eW := HW.out
    simp only [askC] at eW
    rw [← eW]
    clear eW
    go_ret2
    exact ⟨rfl, HS.out.below⟩
set_option maxRecDepth 100000 in
set_option maxHeartbeats 2000000 in
theorem rputAsk_slot (id : Int) (addr : ByteArray) (a b c d kind : Int) (hk : kind = 1) (h20 : addr.size = 20) (hz : ¬ (a = 0 ∧ b = 0 ∧ c = 0 ∧ d = 0)) (w : World) : Calls Tryz.prog 142 #[.agg (askC id addr a b c d kind)] w (RetV (.tuple #[.string ⟨#[]⟩, .bool false]) w) := by
  have m1 : (kind == 1) = true := beq_iff_eq.2 hk
  have m2 : (kind == 2) = false := beq_eq_false_iff_ne.2 (by omega)
  have n1 : (kind != 1) = false := by rw [bne, m1]; rfl
  have n2 : (kind != 2) = true := by rw [bne, m2]; rfl
  have e20 : ((addr.size : Int) == 20) = true := by rw [beq_iff_eq]; omega
  have e20' : ((addr.size : Int) != 20) = false := by rw [bne, e20]; rfl
  have HZ := Lib.hid hz
  clear hk h20 hz
  obtain ⟨W, hW⟩ : ∃ W, W = w.alloc (.cells (askC id addr a b c d kind) 158) := ⟨_, rfl⟩
  have HS : Hid (St empH w none_ empH W [blk w.heap.size (.cells (askC id addr a b c d kind) 158)]) := by rw [hW]; exact (St.start (ag_emp w)).alloc _
  have f0 : ∀ w', Below W.heap.size W w' → w'.cell? ⟨w.heap.size, 0, none⟩ = some (.int .u64 id) := fun w' h => (HS.out.grow h).cell 0 rfl rfl
  have f1 : ∀ w', Below W.heap.size W w' → w'.cell? ⟨w.heap.size, 1, none⟩ = some (.string addr) := fun w' h => (HS.out.grow h).cell 0 rfl rfl
  have f6 : ∀ w', Below W.heap.size W w' → w'.cell? ⟨w.heap.size, 6, none⟩ = some (.int .i64 kind) := fun w' h => (HS.out.grow h).cell 0 rfl rfl
  have HW := Lib.hid hW
  clear hW
  simp only [askC]
  go_enter Tryz.func142, Tryz.ntmps142
  go_wp2_with fail
  all_goals first | (refine (HZ.out ⟨?_, ?_, ?_, ?_⟩).elim <;> assumption) | (go_ret2; exact ⟨rfl, (Below.refl _ _).alloc (Nat.le_refl _) _⟩)
set_option maxRecDepth 100000 in
set_option maxHeartbeats 2000000 in
theorem rputAsk_one (id : Int) (addr : ByteArray) (a b c d kind : Int) (hid : W64 id) (hk : kind = 1) (h20 : addr.size = 20) (hz : a = 0 ∧ b = 0 ∧ c = 0 ∧ d = 0) (w : World) : Calls Tryz.prog 142 #[.agg (askC id addr a b c d kind)] w (RetV (.tuple #[.string (putL [numS id, numS (IntKind.u64.wrap 1), addr]), .bool true]) w) := by
  have m1 : (kind == 1) = true := beq_iff_eq.2 hk
  have m2 : (kind == 2) = false := beq_eq_false_iff_ne.2 (by omega)
  have n1 : (kind != 1) = false := by rw [bne, m1]; rfl
  have n2 : (kind != 2) = true := by rw [bne, m2]; rfl
  have e20 : ((addr.size : Int) == 20) = true := by rw [beq_iff_eq]; omega
  have e20' : ((addr.size : Int) != 20) = false := by rw [bne, e20]; rfl
  have HID := Lib.hid hid
  have HK := Lib.hid hk
  have H20 := Lib.hid h20
  obtain ⟨rfl, rfl, rfl, rfl⟩ := hz
  clear hid hk h20
  obtain ⟨W, hW⟩ : ∃ W, W = w.alloc (.cells (askC id addr 0 0 0 0 kind) 158) := ⟨_, rfl⟩
  have HS : Hid (St empH w none_ empH W [blk w.heap.size (.cells (askC id addr 0 0 0 0 kind) 158)]) := by rw [hW]; exact (St.start (ag_emp w)).alloc _
  have f0 : ∀ w', Below W.heap.size W w' → w'.cell? ⟨w.heap.size, 0, none⟩ = some (.int .u64 id) := fun w' h => (HS.out.grow h).cell 0 rfl rfl
  have f1 : ∀ w', Below W.heap.size W w' → w'.cell? ⟨w.heap.size, 1, none⟩ = some (.string addr) := fun w' h => (HS.out.grow h).cell 0 rfl rfl
  have f6 : ∀ w', Below W.heap.size W w' → w'.cell? ⟨w.heap.size, 6, none⟩ = some (.int .i64 kind) := fun w' h => (HS.out.grow h).cell 0 rfl rfl
  have HW := Lib.hid hW
  clear hW
  simp only [askC]
  go_enter Tryz.func142, Tryz.ntmps142
  go_wp2_with fail
  have eW := HW.out
  simp only [askC] at eW
  rw [← eW]
  clear eW
  go_region_held3 (fun w' => Below W.heap.size W w') (repeat (first | assumption | exact Below.refl _ _ | apply Below.drew | (refine Below.alloc ?_ (by first | exact Nat.le_refl _ | exact Below.size (by assumption) | simp) _))) (first
    | (go_at_call 143; refine (retFrom (W := W) ?_ (rnumber_any _ (by first | exact HID.out | exact wrapU_bd _) _)).mono ?_; (first | assumption | exact (Below.refl _ _).drew); rintro e w1 ⟨rfl, hb1⟩)
    | (go_at_call 144; refine (retFrom (W := W) ?_ (rtext_any _ _)).mono ?_; (first | assumption | exact (Below.refl _ _).drew); rintro e w1 ⟨rfl, hb1⟩))
  clear f0 f1 f6
  obtain ⟨w2, hw2⟩ : ∃ w2, w2 = w1.alloc (.cells #[.bool false, .string (numS id), .slice none 0 0, .bool false, .string (numS (IntKind.u64.wrap kind)), .slice none 0 0, .bool false, .string addr, .slice none 0 0] 155) := ⟨_, rfl⟩
  have HS1 : Hid (St empH w none_ empH w2 [own 155 3 (.slice (some ⟨w1.heap.size, 0, none⟩) 3 3) 3 (textsC [numS id, numS (IntKind.u64.wrap kind), addr]), blk w.heap.size (.cells (askC id addr 0 0 0 0 kind) 158)]) := by
    rw [hw2]
    exact (HS.out.grow hb1).madeRow #[.bool false, .string (numS id), .slice none 0 0, .bool false, .string (numS (IntKind.u64.wrap kind)), .slice none 0 0, .bool false, .string addr, .slice none 0 0] rfl (by decide)
  rw [← hw2]
  clear hw2 hb1 HS
  have c1 : w2.cell? ⟨w.heap.size, 1, none⟩ = some (.string addr) := HS1.out.cell 1 rfl rfl
  have c2 : w2.cell? ⟨w.heap.size, 2, none⟩ = some (.int .u64 0) := HS1.out.cell 1 rfl rfl
  have c3 : w2.cell? ⟨w.heap.size, 3, none⟩ = some (.int .u64 0) := HS1.out.cell 1 rfl rfl
  have c4 : w2.cell? ⟨w.heap.size, 4, none⟩ = some (.int .u64 0) := HS1.out.cell 1 rfl rfl
  have c5 : w2.cell? ⟨w.heap.size, 5, none⟩ = some (.int .u64 0) := HS1.out.cell 1 rfl rfl
  have c6 : w2.cell? ⟨w.heap.size, 6, none⟩ = some (.int .i64 kind) := HS1.out.cell 1 rfl rfl
  obtain rfl := HK.out
  clear HK m1 m2 n1 n2
  obtain ⟨H', hle, hrep, S5⟩ := HS1.out.keepOwn 0 rfl (ds := itsD ([numS id, numS (IntKind.u64.wrap 1), addr].map It.text)) (texts_rep empH [numS id, numS (IntKind.u64.wrap 1), addr])
  have HREP : Hid (∀ A cp, RepV H' (.slice A 3 cp) (.sl 3 3 (itsD ([numS id, numS (IntKind.u64.wrap 1), addr].map It.text))) → RepL H' [.bool true, .string ⟨#[]⟩, .slice A 3 cp] (It.list ([numS id, numS (IntKind.u64.wrap 1), addr].map It.text)).d) := Lib.hid fun A cp h => by unfold It.d; exact .cons (.pl rfl) (.cons (.pl rfl) (.cons h .nil))
  have HREP2 := Lib.hid (HREP.out _ _ hrep)
  have HS5 := Lib.hid S5
  clear S5 hrep HREP
  go_wp2_with fail
  refine (renc_ok (.list ([numS id, numS (IntKind.u64.wrap 1), addr].map It.text)) (put_short (by simp)) _ _ _ _ _ HS5.out.ag HREP2.out (put_len (by simp) (ask_small1 H20.out))).mono ?_
  rintro e w6 ⟨rfl, hb6⟩
  have HB := Lib.hid ((HS5.out.grow hb6).below)
  clear HS5 hb6
  go_wp2_with fail
  go_ret2
  exact ⟨rfl, HB.out⟩
set_option maxRecDepth 100000 in
set_option maxHeartbeats 2000000 in
theorem rputAsk_two (id : Int) (addr : ByteArray) (a b c d kind : Int) (hid : W64 id) (ha : W64 a) (hb : W64 b) (hc : W64 c) (hd : W64 d) (hk : kind = 2) (h20 : addr.size = 20) (w : World) : Calls Tryz.prog 142 #[.agg (askC id addr a b c d kind)] w (RetV (.tuple #[.string (putL [numS id, numS (IntKind.u64.wrap 2), addr, wordS a b c d]), .bool true]) w) := by
  have m1 : (kind == 1) = false := beq_eq_false_iff_ne.2 (by omega)
  have m2 : (kind == 2) = true := beq_iff_eq.2 hk
  have n1 : (kind != 1) = true := by rw [bne, m1]; rfl
  have n2 : (kind != 2) = false := by rw [bne, m2]; rfl
  have e20 : ((addr.size : Int) == 20) = true := by rw [beq_iff_eq]; omega
  have e20' : ((addr.size : Int) != 20) = false := by rw [bne, e20]; rfl
  have HID := Lib.hid hid
  have HK := Lib.hid hk
  have H20 := Lib.hid h20
  have HWB := Lib.hid (rwbytes_any a b c d ha hb hc hd)
  clear hid hk h20 ha hb hc hd
  obtain ⟨W, hW⟩ : ∃ W, W = w.alloc (.cells (askC id addr a b c d kind) 158) := ⟨_, rfl⟩
  have HS : Hid (St empH w none_ empH W [blk w.heap.size (.cells (askC id addr a b c d kind) 158)]) := by rw [hW]; exact (St.start (ag_emp w)).alloc _
  have f0 : ∀ w', Below W.heap.size W w' → w'.cell? ⟨w.heap.size, 0, none⟩ = some (.int .u64 id) := fun w' h => (HS.out.grow h).cell 0 rfl rfl
  have f1 : ∀ w', Below W.heap.size W w' → w'.cell? ⟨w.heap.size, 1, none⟩ = some (.string addr) := fun w' h => (HS.out.grow h).cell 0 rfl rfl
  have f6 : ∀ w', Below W.heap.size W w' → w'.cell? ⟨w.heap.size, 6, none⟩ = some (.int .i64 kind) := fun w' h => (HS.out.grow h).cell 0 rfl rfl
  have HW := Lib.hid hW
  clear hW
  simp only [askC]
  go_enter Tryz.func142, Tryz.ntmps142
  go_wp2_with fail
  have eW := HW.out
  simp only [askC] at eW
  rw [← eW]
  clear eW
  go_region_held3 (fun w' => Below W.heap.size W w') (repeat (first | assumption | exact Below.refl _ _ | apply Below.drew | (refine Below.alloc ?_ (by first | exact Nat.le_refl _ | exact Below.size (by assumption) | simp) _))) (first
    | (go_at_call 143; refine (retFrom (W := W) ?_ (rnumber_any _ (by first | exact HID.out | exact wrapU_bd _) _)).mono ?_; (first | assumption | exact (Below.refl _ _).drew); rintro e w1 ⟨rfl, hb1⟩)
    | (go_at_call 144; refine (retFrom (W := W) ?_ (rtext_any _ _)).mono ?_; (first | assumption | exact (Below.refl _ _).drew); rintro e w1 ⟨rfl, hb1⟩))
  clear f0 f1 f6
  obtain ⟨w2, hw2⟩ : ∃ w2, w2 = w1.alloc (.cells #[.bool false, .string (numS id), .slice none 0 0, .bool false, .string (numS (IntKind.u64.wrap kind)), .slice none 0 0, .bool false, .string addr, .slice none 0 0] 155) := ⟨_, rfl⟩
  have HS1 : Hid (St empH w none_ empH w2 [own 155 3 (.slice (some ⟨w1.heap.size, 0, none⟩) 3 3) 3 (textsC [numS id, numS (IntKind.u64.wrap kind), addr]), blk w.heap.size (.cells (askC id addr a b c d kind) 158)]) := by
    rw [hw2]
    exact (HS.out.grow hb1).madeRow #[.bool false, .string (numS id), .slice none 0 0, .bool false, .string (numS (IntKind.u64.wrap kind)), .slice none 0 0, .bool false, .string addr, .slice none 0 0] rfl (by decide)
  rw [← hw2]
  clear hw2 hb1 HS
  have c1 : w2.cell? ⟨w.heap.size, 1, none⟩ = some (.string addr) := HS1.out.cell 1 rfl rfl
  have c2 : w2.cell? ⟨w.heap.size, 2, none⟩ = some (.int .u64 a) := HS1.out.cell 1 rfl rfl
  have c3 : w2.cell? ⟨w.heap.size, 3, none⟩ = some (.int .u64 b) := HS1.out.cell 1 rfl rfl
  have c4 : w2.cell? ⟨w.heap.size, 4, none⟩ = some (.int .u64 c) := HS1.out.cell 1 rfl rfl
  have c5 : w2.cell? ⟨w.heap.size, 5, none⟩ = some (.int .u64 d) := HS1.out.cell 1 rfl rfl
  have c6 : w2.cell? ⟨w.heap.size, 6, none⟩ = some (.int .i64 kind) := HS1.out.cell 1 rfl rfl
  obtain rfl := HK.out
  clear HK m1 m2 n1 n2
  go_wp2_with fail
  refine (HWB.out _).mono ?_
  rintro e w3 ⟨rfl, hb3⟩
  have HS2 := Lib.hid (HS1.out.grow hb3)
  clear hb3 HS1 c1 c2 c3 c4 c5 c6
  go_wp2_with fail
  refine (rtext_any _ _).mono ?_
  rintro e w4 ⟨rfl, hb4⟩
  have HS3 := Lib.hid ((HS2.out.grow hb4).madeRow (e := 155) (size := 3) (n := 1) #[.bool false, .string (wordS a b c d), .slice none 0 0] rfl (by decide))
  clear hb4 HS2
  obtain ⟨i0, hi, hz0, hz1, hz2⟩ := info_parts infoRItemP
  go_wp2_with (first
    | (at_builtin; refine wpList_append_st 1 155 HS3.out rfl rfl _ _ 153 rfl i0 _ 48 Tryz.underlying153 hi hz0 hz1 hz2 rfl (by decide) rfl ⟨w4.heap.size, 0, none⟩ 1 1 [.bool false, .string (wordS a b c d), .slice none 0 0] rfl rfl (fun j u hj => ?_) (oneItemL _ _ _ _ _) (by unfold maxLen; omega) (by omega) ?_)
    | fail)
  · rw [Addr.add_lit, Nat.zero_add]
    have h1 := HS3.out.ownCell 0 rfl j (by have := (List.getElem?_eq_some_iff.1 hj).1; simpa using this)
    exact h1.trans hj
  intro A4 c4 w5 S4
  obtain ⟨H', hle, hrep, S5⟩ := S4.keepOwn 0 rfl (ds := itsD ([numS id, numS (IntKind.u64.wrap 2), addr, wordS a b c d].map It.text)) (texts_rep empH [numS id, numS (IntKind.u64.wrap 2), addr, wordS a b c d])
  have HREP : Hid (∀ A cp, RepV H' (.slice A 4 cp) (.sl 3 4 (itsD ([numS id, numS (IntKind.u64.wrap 2), addr, wordS a b c d].map It.text))) → RepL H' [.bool true, .string ⟨#[]⟩, .slice A 4 cp] (It.list ([numS id, numS (IntKind.u64.wrap 2), addr, wordS a b c d].map It.text)).d) := Lib.hid fun A cp h => by unfold It.d; exact .cons (.pl rfl) (.cons (.pl rfl) (.cons h .nil))
  have HREP2 := Lib.hid (HREP.out _ _ hrep)
  have HS5 := Lib.hid S5
  clear S4 HS3
  clear S5 hrep HREP
  go_wp2_with fail
  refine (renc_ok (.list ([numS id, numS (IntKind.u64.wrap 2), addr, wordS a b c d].map It.text)) (put_short (by simp)) _ _ _ _ _ HS5.out.ag HREP2.out (put_len (by simp) (ask_small H20.out))).mono ?_
  rintro e w6 ⟨rfl, hb6⟩
  have HB := Lib.hid ((HS5.out.grow hb6).below)
  clear HS5 hb6
  go_wp2_with fail
  go_ret2
  exact ⟨rfl, HB.out⟩
theorem rputAsk_all (id : Int) (addr : ByteArray) (a b c d kind : Int) (hid : W64 id) (ha : W64 a) (hb : W64 b) (hc : W64 c) (hd : W64 d) (w : World) : Calls Tryz.prog 142 #[.agg (askC id addr a b c d kind)] w (RetV (.tuple #[.string (putAskR id addr a b c d kind).1, .bool (putAskR id addr a b c d kind).2]) w) := by
  unfold putAskR
  by_cases h20 : addr.size = 20
  · rw [if_neg (fun h => h h20)]
    by_cases h2 : kind = 2
    · rw [if_pos h2]
      exact rputAsk_two id addr a b c d kind hid ha hb hc hd h2 h20 w
    · rw [if_neg h2]
      by_cases h1 : kind = 1
      · by_cases hz : a = 0 ∧ b = 0 ∧ c = 0 ∧ d = 0
        · rw [if_pos ⟨h1, hz⟩]
          exact rputAsk_one id addr a b c d kind hid h1 h20 hz w
        · rw [if_neg (fun h => hz h.2)]
          exact rputAsk_slot id addr a b c d kind h1 h20 hz w
      · rw [if_neg (fun h => h1 h.1)]
        exact rputAsk_kind id addr a b c d kind h1 h2 w
  · rw [if_pos h20]
    by_cases hk : kind = 1 ∨ kind = 2
    · exact rputAsk_size id addr a b c d kind hk h20 w
    · exact rputAsk_kind id addr a b c d kind (fun h => hk (.inl h)) (fun h => hk (.inr h)) w
end Go.Proofs.YtdnpobjokajigaaGreatDoor
