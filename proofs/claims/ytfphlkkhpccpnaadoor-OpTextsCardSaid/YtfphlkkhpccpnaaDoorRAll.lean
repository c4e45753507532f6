/-
  The document's chapter 12: All.
-/
import Derived.Test.YtfphlkkhpccpnaaDoorRGrp
import Derived.Test.YtfphlkkhpccpnaaDoorOpAll
namespace Go.Proofs.YtfphlkkhpccpnaaDoor
open Go.RowKit Go.Proofs K
set_option linter.unusedVariables false

theorem rent_push : ∀ n : Fin 33, 1 ≤ n.val → opR[67 + n.val]? = some (95 + n.val, [80, 85, 83, 72] ++ dig n.val, 3, 0, 1) := by decide +kernel
theorem rent_dup : ∀ n : Fin 17, 1 ≤ n.val → opR[98 + 2 * n.val]? = some (127 + n.val, [68, 85, 80] ++ dig n.val, 3, n.val, n.val + 1) := by decide +kernel
theorem rent_swap : ∀ n : Fin 17, 1 ≤ n.val → opR[98 + 2 * n.val + 1]? = some (143 + n.val, [83, 87, 65, 80] ++ dig n.val, 3, n.val + 1, n.val + 1) := by decide +kernel
theorem rent_log : ∀ n : Fin 5, opR[132 + n.val]? = some (160 + n.val, [76, 79, 71] ++ dig n.val, 375, n.val + 2, 0) := by decide +kernel
theorem take_one {l : List OpE} {i : Nat} {e : OpE} (h : l[i]? = some e) : l.take (i + 1) = l.take i ++ [e] := by
  rw [List.take_add_one, h]
  rfl
/-- The rows so far: at a place of the walk. -/
def RA (w : World) (A : Option Addr) (n c : Nat) (w' : World) : Prop := St empH w none_ empH w' [own 113 5 (.slice A n c) n (rowsC (opR.take n))]
set_option maxRecDepth 100000 in
set_option maxHeartbeats 40000000 in
theorem rall_any (w : World) : Calls Tryd.prog 55 #[] w (RowsP opR w) := by
  obtain ⟨i0, hi0, hz0, hz1, hz2⟩ := info_parts infoRow
  have HS : Hid (RA w none 0 0 w) := Lib.hid (St.start (ag_emp w)).own_nil
  go_enter Tryd.func55, Tryd.ntmps55
  have HA100 : Hid (St empH w none_ empH _ [blk (w.heap.size + 1) (.cells ([[83, 84, 79, 80], [73, 78, 86, 65, 76, 73, 68]].map fun s => Value.string (bs s)).toArray 9), blk w.heap.size (.cells ([0, 254].map intV).toArray 3), own 113 5 (.slice none 0 0) 0 (rowsC (opR.take 0))]) := Lib.hid ((HS.out.alloc (.cells ([0, 254].map intV).toArray 3)).alloc' (.cells ([[83, 84, 79, 80], [73, 78, 86, 65, 76, 73, 68]].map fun s => Value.string (bs s)).toArray 9) (w.heap.size + 1) (by simp))
  have HG := Lib.hid (group_any [0, 254] [[83, 84, 79, 80], [73, 78, 86, 65, 76, 73, 68]] 0 0 0 rfl (by decide) _ w.heap.size (w.heap.size + 1) (HA100.out.blk_at 1 rfl) (HA100.out.blk_at 0 rfl))
  go_wp2_with fail
  refine HG.out.mono ?_
  rintro e w2 ⟨v, rfl, S2⟩
  obtain ⟨A2, c2, rfl⟩ := own_slice S2 0 rfl
  obtain ⟨g2, rfl, _⟩ := S2.ownForm 0 rfl (by decide)
  have HB := Lib.hid (HA100.out.more S2)
  clear HS HA100 HG S2
  go_wp2_with (first
    | (at_builtin; refine wpList_append_any 3 113 HB.out rfl rfl (.tmp 5) (.tmp 8) 110 rfl i0 _ 48 Tryd.underlying110 hi0 hz0 hz1 hz2 rfl (by decide) rfl (some ⟨g2, 0, none⟩) 2 c2 (rowsC (grpR [0, 254] [[83, 84, 79, 80], [73, 78, 86, 65, 76, 73, 68]] 0 0 0)) rfl (fun h => by cases h) (by rw [rowsC_len]; rfl) (fun ad had j u hj => ?_) (rowsC_one _) (by unfold maxLen; omega) (by omega) ?_; (cases had; rw [Addr.add_lit, Nat.zero_add]; exact (HB.out.ownCell 0 rfl j (by have := (List.getElem?_eq_some_iff.1 hj).1; rw [rowsC_len] at this; exact this)).trans hj))
    | fail)
  intro A100 c100 w100' S3
  have HS : Hid (RA w A100 2 c100 w100') := Lib.hid (by
    have h := ((S3.drop 1).drop 1).drop 1
    have e : opR.take 2 = opR.take 0 ++ (grpR [0, 254] [[83, 84, 79, 80], [73, 78, 86, 65, 76, 73, 68]] 0 0 0) := by decide +kernel
    unfold RA
    rw [e, rowsC_app]
    exact h)
  clear S3 HB
  have HA101 : Hid (St empH w none_ empH _ [blk (w100'.heap.size + 1) (.cells ([[65, 68, 68], [83, 85, 66]].map fun s => Value.string (bs s)).toArray 9), blk w100'.heap.size (.cells ([1, 3].map intV).toArray 3), own 113 5 (.slice A100 2 c100) 2 (rowsC (opR.take 2))]) := Lib.hid ((HS.out.alloc (.cells ([1, 3].map intV).toArray 3)).alloc' (.cells ([[65, 68, 68], [83, 85, 66]].map fun s => Value.string (bs s)).toArray 9) (w100'.heap.size + 1) (by simp))
  have HG := Lib.hid (group_any [1, 3] [[65, 68, 68], [83, 85, 66]] 3 2 1 rfl (by decide) _ w100'.heap.size (w100'.heap.size + 1) (HA101.out.blk_at 1 rfl) (HA101.out.blk_at 0 rfl))
  go_wp2_with fail
  refine HG.out.mono ?_
  rintro e w2 ⟨v, rfl, S2⟩
  obtain ⟨A2, c2, rfl⟩ := own_slice S2 0 rfl
  obtain ⟨g2, rfl, _⟩ := S2.ownForm 0 rfl (by decide)
  have HB := Lib.hid (HA101.out.more S2)
  clear HS HA101 HG S2
  go_wp2_with (first
    | (at_builtin; refine wpList_append_any 3 113 HB.out rfl rfl (.tmp 10) (.tmp 13) 110 rfl i0 _ 48 Tryd.underlying110 hi0 hz0 hz1 hz2 rfl (by decide) rfl (some ⟨g2, 0, none⟩) 2 c2 (rowsC (grpR [1, 3] [[65, 68, 68], [83, 85, 66]] 3 2 1)) rfl (fun h => by cases h) (by rw [rowsC_len]; rfl) (fun ad had j u hj => ?_) (rowsC_one _) (by unfold maxLen; omega) (by omega) ?_; (cases had; rw [Addr.add_lit, Nat.zero_add]; exact (HB.out.ownCell 0 rfl j (by have := (List.getElem?_eq_some_iff.1 hj).1; rw [rowsC_len] at this; exact this)).trans hj))
    | fail)
  intro A101 c101 w101' S3
  have HS : Hid (RA w A101 4 c101 w101') := Lib.hid (by
    have h := ((S3.drop 1).drop 1).drop 1
    have e : opR.take 4 = opR.take 2 ++ (grpR [1, 3] [[65, 68, 68], [83, 85, 66]] 3 2 1) := by decide +kernel
    unfold RA
    rw [e, rowsC_app]
    exact h)
  clear S3 HB
  have HA102 : Hid (St empH w none_ empH _ [blk (w101'.heap.size + 1) (.cells ([[77, 85, 76], [68, 73, 86], [83, 68, 73, 86], [77, 79, 68], [83, 77, 79, 68], [83, 73, 71, 78, 69, 88, 84, 69, 78, 68]].map fun s => Value.string (bs s)).toArray 9), blk w101'.heap.size (.cells ([2, 4, 5, 6, 7, 11].map intV).toArray 3), own 113 5 (.slice A101 4 c101) 4 (rowsC (opR.take 4))]) := Lib.hid ((HS.out.alloc (.cells ([2, 4, 5, 6, 7, 11].map intV).toArray 3)).alloc' (.cells ([[77, 85, 76], [68, 73, 86], [83, 68, 73, 86], [77, 79, 68], [83, 77, 79, 68], [83, 73, 71, 78, 69, 88, 84, 69, 78, 68]].map fun s => Value.string (bs s)).toArray 9) (w101'.heap.size + 1) (by simp))
  have HG := Lib.hid (group_any [2, 4, 5, 6, 7, 11] [[77, 85, 76], [68, 73, 86], [83, 68, 73, 86], [77, 79, 68], [83, 77, 79, 68], [83, 73, 71, 78, 69, 88, 84, 69, 78, 68]] 5 2 1 rfl (by decide) _ w101'.heap.size (w101'.heap.size + 1) (HA102.out.blk_at 1 rfl) (HA102.out.blk_at 0 rfl))
  go_wp2_with fail
  refine HG.out.mono ?_
  rintro e w2 ⟨v, rfl, S2⟩
  obtain ⟨A2, c2, rfl⟩ := own_slice S2 0 rfl
  obtain ⟨g2, rfl, _⟩ := S2.ownForm 0 rfl (by decide)
  have HB := Lib.hid (HA102.out.more S2)
  clear HS HA102 HG S2
  go_wp2_with (first
    | (at_builtin; refine wpList_append_any 3 113 HB.out rfl rfl (.tmp 15) (.tmp 18) 110 rfl i0 _ 48 Tryd.underlying110 hi0 hz0 hz1 hz2 rfl (by decide) rfl (some ⟨g2, 0, none⟩) 6 c2 (rowsC (grpR [2, 4, 5, 6, 7, 11] [[77, 85, 76], [68, 73, 86], [83, 68, 73, 86], [77, 79, 68], [83, 77, 79, 68], [83, 73, 71, 78, 69, 88, 84, 69, 78, 68]] 5 2 1)) rfl (fun h => by cases h) (by rw [rowsC_len]; rfl) (fun ad had j u hj => ?_) (rowsC_one _) (by unfold maxLen; omega) (by omega) ?_; (cases had; rw [Addr.add_lit, Nat.zero_add]; exact (HB.out.ownCell 0 rfl j (by have := (List.getElem?_eq_some_iff.1 hj).1; rw [rowsC_len] at this; exact this)).trans hj))
    | fail)
  intro A102 c102 w102' S3
  have HS : Hid (RA w A102 10 c102 w102') := Lib.hid (by
    have h := ((S3.drop 1).drop 1).drop 1
    have e : opR.take 10 = opR.take 4 ++ (grpR [2, 4, 5, 6, 7, 11] [[77, 85, 76], [68, 73, 86], [83, 68, 73, 86], [77, 79, 68], [83, 77, 79, 68], [83, 73, 71, 78, 69, 88, 84, 69, 78, 68]] 5 2 1) := by decide +kernel
    unfold RA
    rw [e, rowsC_app]
    exact h)
  clear S3 HB
  have HA103 : Hid (St empH w none_ empH _ [blk (w102'.heap.size + 1) (.cells ([[65, 68, 68, 77, 79, 68], [77, 85, 76, 77, 79, 68]].map fun s => Value.string (bs s)).toArray 9), blk w102'.heap.size (.cells ([8, 9].map intV).toArray 3), own 113 5 (.slice A102 10 c102) 10 (rowsC (opR.take 10))]) := Lib.hid ((HS.out.alloc (.cells ([8, 9].map intV).toArray 3)).alloc' (.cells ([[65, 68, 68, 77, 79, 68], [77, 85, 76, 77, 79, 68]].map fun s => Value.string (bs s)).toArray 9) (w102'.heap.size + 1) (by simp))
  have HG := Lib.hid (group_any [8, 9] [[65, 68, 68, 77, 79, 68], [77, 85, 76, 77, 79, 68]] 8 3 1 rfl (by decide) _ w102'.heap.size (w102'.heap.size + 1) (HA103.out.blk_at 1 rfl) (HA103.out.blk_at 0 rfl))
  go_wp2_with fail
  refine HG.out.mono ?_
  rintro e w2 ⟨v, rfl, S2⟩
  obtain ⟨A2, c2, rfl⟩ := own_slice S2 0 rfl
  obtain ⟨g2, rfl, _⟩ := S2.ownForm 0 rfl (by decide)
  have HB := Lib.hid (HA103.out.more S2)
  clear HS HA103 HG S2
  go_wp2_with (first
    | (at_builtin; refine wpList_append_any 3 113 HB.out rfl rfl (.tmp 20) (.tmp 23) 110 rfl i0 _ 48 Tryd.underlying110 hi0 hz0 hz1 hz2 rfl (by decide) rfl (some ⟨g2, 0, none⟩) 2 c2 (rowsC (grpR [8, 9] [[65, 68, 68, 77, 79, 68], [77, 85, 76, 77, 79, 68]] 8 3 1)) rfl (fun h => by cases h) (by rw [rowsC_len]; rfl) (fun ad had j u hj => ?_) (rowsC_one _) (by unfold maxLen; omega) (by omega) ?_; (cases had; rw [Addr.add_lit, Nat.zero_add]; exact (HB.out.ownCell 0 rfl j (by have := (List.getElem?_eq_some_iff.1 hj).1; rw [rowsC_len] at this; exact this)).trans hj))
    | fail)
  intro A103 c103 w103' S3
  have HS : Hid (RA w A103 12 c103 w103') := Lib.hid (by
    have h := ((S3.drop 1).drop 1).drop 1
    have e : opR.take 12 = opR.take 10 ++ (grpR [8, 9] [[65, 68, 68, 77, 79, 68], [77, 85, 76, 77, 79, 68]] 8 3 1) := by decide +kernel
    unfold RA
    rw [e, rowsC_app]
    exact h)
  clear S3 HB
  have HA104 : Hid (St empH w none_ empH _ [blk (w103'.heap.size + 1) (.cells ([[69, 88, 80]].map fun s => Value.string (bs s)).toArray 9), blk w103'.heap.size (.cells ([10].map intV).toArray 3), own 113 5 (.slice A103 12 c103) 12 (rowsC (opR.take 12))]) := Lib.hid ((HS.out.alloc (.cells ([10].map intV).toArray 3)).alloc' (.cells ([[69, 88, 80]].map fun s => Value.string (bs s)).toArray 9) (w103'.heap.size + 1) (by simp))
  have HG := Lib.hid (group_any [10] [[69, 88, 80]] 10 2 1 rfl (by decide) _ w103'.heap.size (w103'.heap.size + 1) (HA104.out.blk_at 1 rfl) (HA104.out.blk_at 0 rfl))
  go_wp2_with fail
  refine HG.out.mono ?_
  rintro e w2 ⟨v, rfl, S2⟩
  obtain ⟨A2, c2, rfl⟩ := own_slice S2 0 rfl
  obtain ⟨g2, rfl, _⟩ := S2.ownForm 0 rfl (by decide)
  have HB := Lib.hid (HA104.out.more S2)
  clear HS HA104 HG S2
  go_wp2_with (first
    | (at_builtin; refine wpList_append_any 3 113 HB.out rfl rfl (.tmp 25) (.tmp 28) 110 rfl i0 _ 48 Tryd.underlying110 hi0 hz0 hz1 hz2 rfl (by decide) rfl (some ⟨g2, 0, none⟩) 1 c2 (rowsC (grpR [10] [[69, 88, 80]] 10 2 1)) rfl (fun h => by cases h) (by rw [rowsC_len]; rfl) (fun ad had j u hj => ?_) (rowsC_one _) (by unfold maxLen; omega) (by omega) ?_; (cases had; rw [Addr.add_lit, Nat.zero_add]; exact (HB.out.ownCell 0 rfl j (by have := (List.getElem?_eq_some_iff.1 hj).1; rw [rowsC_len] at this; exact this)).trans hj))
    | fail)
  intro A104 c104 w104' S3
  have HS : Hid (RA w A104 13 c104 w104') := Lib.hid (by
    have h := ((S3.drop 1).drop 1).drop 1
    have e : opR.take 13 = opR.take 12 ++ (grpR [10] [[69, 88, 80]] 10 2 1) := by decide +kernel
    unfold RA
    rw [e, rowsC_app]
    exact h)
  clear S3 HB
  have HA105 : Hid (St empH w none_ empH _ [blk (w104'.heap.size + 1) (.cells ([[76, 84], [71, 84], [83, 76, 84], [83, 71, 84], [69, 81], [65, 78, 68], [79, 82], [88, 79, 82], [66, 89, 84, 69], [83, 72, 76], [83, 72, 82], [83, 65, 82]].map fun s => Value.string (bs s)).toArray 9), blk w104'.heap.size (.cells ([16, 17, 18, 19, 20, 22, 23, 24, 26, 27, 28, 29].map intV).toArray 3), own 113 5 (.slice A104 13 c104) 13 (rowsC (opR.take 13))]) := Lib.hid ((HS.out.alloc (.cells ([16, 17, 18, 19, 20, 22, 23, 24, 26, 27, 28, 29].map intV).toArray 3)).alloc' (.cells ([[76, 84], [71, 84], [83, 76, 84], [83, 71, 84], [69, 81], [65, 78, 68], [79, 82], [88, 79, 82], [66, 89, 84, 69], [83, 72, 76], [83, 72, 82], [83, 65, 82]].map fun s => Value.string (bs s)).toArray 9) (w104'.heap.size + 1) (by simp))
  have HG := Lib.hid (group_any [16, 17, 18, 19, 20, 22, 23, 24, 26, 27, 28, 29] [[76, 84], [71, 84], [83, 76, 84], [83, 71, 84], [69, 81], [65, 78, 68], [79, 82], [88, 79, 82], [66, 89, 84, 69], [83, 72, 76], [83, 72, 82], [83, 65, 82]] 3 2 1 rfl (by decide) _ w104'.heap.size (w104'.heap.size + 1) (HA105.out.blk_at 1 rfl) (HA105.out.blk_at 0 rfl))
  go_wp2_with fail
  refine HG.out.mono ?_
  rintro e w2 ⟨v, rfl, S2⟩
  obtain ⟨A2, c2, rfl⟩ := own_slice S2 0 rfl
  obtain ⟨g2, rfl, _⟩ := S2.ownForm 0 rfl (by decide)
  have HB := Lib.hid (HA105.out.more S2)
  clear HS HA105 HG S2
  go_wp2_with (first
    | (at_builtin; refine wpList_append_any 3 113 HB.out rfl rfl (.tmp 30) (.tmp 33) 110 rfl i0 _ 48 Tryd.underlying110 hi0 hz0 hz1 hz2 rfl (by decide) rfl (some ⟨g2, 0, none⟩) 12 c2 (rowsC (grpR [16, 17, 18, 19, 20, 22, 23, 24, 26, 27, 28, 29] [[76, 84], [71, 84], [83, 76, 84], [83, 71, 84], [69, 81], [65, 78, 68], [79, 82], [88, 79, 82], [66, 89, 84, 69], [83, 72, 76], [83, 72, 82], [83, 65, 82]] 3 2 1)) rfl (fun h => by cases h) (by rw [rowsC_len]; rfl) (fun ad had j u hj => ?_) (rowsC_one _) (by unfold maxLen; omega) (by omega) ?_; (cases had; rw [Addr.add_lit, Nat.zero_add]; exact (HB.out.ownCell 0 rfl j (by have := (List.getElem?_eq_some_iff.1 hj).1; rw [rowsC_len] at this; exact this)).trans hj))
    | fail)
  intro A105 c105 w105' S3
  have HS : Hid (RA w A105 25 c105 w105') := Lib.hid (by
    have h := ((S3.drop 1).drop 1).drop 1
    have e : opR.take 25 = opR.take 13 ++ (grpR [16, 17, 18, 19, 20, 22, 23, 24, 26, 27, 28, 29] [[76, 84], [71, 84], [83, 76, 84], [83, 71, 84], [69, 81], [65, 78, 68], [79, 82], [88, 79, 82], [66, 89, 84, 69], [83, 72, 76], [83, 72, 82], [83, 65, 82]] 3 2 1) := by decide +kernel
    unfold RA
    rw [e, rowsC_app]
    exact h)
  clear S3 HB
  have HA106 : Hid (St empH w none_ empH _ [blk (w105'.heap.size + 1) (.cells ([[73, 83, 90, 69, 82, 79], [78, 79, 84], [67, 65, 76, 76, 68, 65, 84, 65, 76, 79, 65, 68], [77, 76, 79, 65, 68]].map fun s => Value.string (bs s)).toArray 9), blk w105'.heap.size (.cells ([21, 25, 53, 81].map intV).toArray 3), own 113 5 (.slice A105 25 c105) 25 (rowsC (opR.take 25))]) := Lib.hid ((HS.out.alloc (.cells ([21, 25, 53, 81].map intV).toArray 3)).alloc' (.cells ([[73, 83, 90, 69, 82, 79], [78, 79, 84], [67, 65, 76, 76, 68, 65, 84, 65, 76, 79, 65, 68], [77, 76, 79, 65, 68]].map fun s => Value.string (bs s)).toArray 9) (w105'.heap.size + 1) (by simp))
  have HG := Lib.hid (group_any [21, 25, 53, 81] [[73, 83, 90, 69, 82, 79], [78, 79, 84], [67, 65, 76, 76, 68, 65, 84, 65, 76, 79, 65, 68], [77, 76, 79, 65, 68]] 3 1 1 rfl (by decide) _ w105'.heap.size (w105'.heap.size + 1) (HA106.out.blk_at 1 rfl) (HA106.out.blk_at 0 rfl))
  go_wp2_with fail
  refine HG.out.mono ?_
  rintro e w2 ⟨v, rfl, S2⟩
  obtain ⟨A2, c2, rfl⟩ := own_slice S2 0 rfl
  obtain ⟨g2, rfl, _⟩ := S2.ownForm 0 rfl (by decide)
  have HB := Lib.hid (HA106.out.more S2)
  clear HS HA106 HG S2
  go_wp2_with (first
    | (at_builtin; refine wpList_append_any 3 113 HB.out rfl rfl (.tmp 35) (.tmp 38) 110 rfl i0 _ 48 Tryd.underlying110 hi0 hz0 hz1 hz2 rfl (by decide) rfl (some ⟨g2, 0, none⟩) 4 c2 (rowsC (grpR [21, 25, 53, 81] [[73, 83, 90, 69, 82, 79], [78, 79, 84], [67, 65, 76, 76, 68, 65, 84, 65, 76, 79, 65, 68], [77, 76, 79, 65, 68]] 3 1 1)) rfl (fun h => by cases h) (by rw [rowsC_len]; rfl) (fun ad had j u hj => ?_) (rowsC_one _) (by unfold maxLen; omega) (by omega) ?_; (cases had; rw [Addr.add_lit, Nat.zero_add]; exact (HB.out.ownCell 0 rfl j (by have := (List.getElem?_eq_some_iff.1 hj).1; rw [rowsC_len] at this; exact this)).trans hj))
    | fail)
  intro A106 c106 w106' S3
  have HS : Hid (RA w A106 29 c106 w106') := Lib.hid (by
    have h := ((S3.drop 1).drop 1).drop 1
    have e : opR.take 29 = opR.take 25 ++ (grpR [21, 25, 53, 81] [[73, 83, 90, 69, 82, 79], [78, 79, 84], [67, 65, 76, 76, 68, 65, 84, 65, 76, 79, 65, 68], [77, 76, 79, 65, 68]] 3 1 1) := by decide +kernel
    unfold RA
    rw [e, rowsC_app]
    exact h)
  clear S3 HB
  have HA107 : Hid (St empH w none_ empH _ [blk (w106'.heap.size + 1) (.cells ([[75, 69, 67, 67, 65, 75, 50, 53, 54]].map fun s => Value.string (bs s)).toArray 9), blk w106'.heap.size (.cells ([32].map intV).toArray 3), own 113 5 (.slice A106 29 c106) 29 (rowsC (opR.take 29))]) := Lib.hid ((HS.out.alloc (.cells ([32].map intV).toArray 3)).alloc' (.cells ([[75, 69, 67, 67, 65, 75, 50, 53, 54]].map fun s => Value.string (bs s)).toArray 9) (w106'.heap.size + 1) (by simp))
  have HG := Lib.hid (group_any [32] [[75, 69, 67, 67, 65, 75, 50, 53, 54]] 30 2 1 rfl (by decide) _ w106'.heap.size (w106'.heap.size + 1) (HA107.out.blk_at 1 rfl) (HA107.out.blk_at 0 rfl))
  go_wp2_with fail
  refine HG.out.mono ?_
  rintro e w2 ⟨v, rfl, S2⟩
  obtain ⟨A2, c2, rfl⟩ := own_slice S2 0 rfl
  obtain ⟨g2, rfl, _⟩ := S2.ownForm 0 rfl (by decide)
  have HB := Lib.hid (HA107.out.more S2)
  clear HS HA107 HG S2
  go_wp2_with (first
    | (at_builtin; refine wpList_append_any 3 113 HB.out rfl rfl (.tmp 40) (.tmp 43) 110 rfl i0 _ 48 Tryd.underlying110 hi0 hz0 hz1 hz2 rfl (by decide) rfl (some ⟨g2, 0, none⟩) 1 c2 (rowsC (grpR [32] [[75, 69, 67, 67, 65, 75, 50, 53, 54]] 30 2 1)) rfl (fun h => by cases h) (by rw [rowsC_len]; rfl) (fun ad had j u hj => ?_) (rowsC_one _) (by unfold maxLen; omega) (by omega) ?_; (cases had; rw [Addr.add_lit, Nat.zero_add]; exact (HB.out.ownCell 0 rfl j (by have := (List.getElem?_eq_some_iff.1 hj).1; rw [rowsC_len] at this; exact this)).trans hj))
    | fail)
  intro A107 c107 w107' S3
  have HS : Hid (RA w A107 30 c107 w107') := Lib.hid (by
    have h := ((S3.drop 1).drop 1).drop 1
    have e : opR.take 30 = opR.take 29 ++ (grpR [32] [[75, 69, 67, 67, 65, 75, 50, 53, 54]] 30 2 1) := by decide +kernel
    unfold RA
    rw [e, rowsC_app]
    exact h)
  clear S3 HB
  have HA108 : Hid (St empH w none_ empH _ [blk (w107'.heap.size + 1) (.cells ([[65, 68, 68, 82, 69, 83, 83], [79, 82, 73, 71, 73, 78], [67, 65, 76, 76, 69, 82], [67, 65, 76, 76, 86, 65, 76, 85, 69], [67, 65, 76, 76, 68, 65, 84, 65, 83, 73, 90, 69], [67, 79, 68, 69, 83, 73, 90, 69], [71, 65, 83, 80, 82, 73, 67, 69], [82, 69, 84, 85, 82, 78, 68, 65, 84, 65, 83, 73, 90, 69]].map fun s => Value.string (bs s)).toArray 9), blk w107'.heap.size (.cells ([48, 50, 51, 52, 54, 56, 58, 61].map intV).toArray 3), own 113 5 (.slice A107 30 c107) 30 (rowsC (opR.take 30))]) := Lib.hid ((HS.out.alloc (.cells ([48, 50, 51, 52, 54, 56, 58, 61].map intV).toArray 3)).alloc' (.cells ([[65, 68, 68, 82, 69, 83, 83], [79, 82, 73, 71, 73, 78], [67, 65, 76, 76, 69, 82], [67, 65, 76, 76, 86, 65, 76, 85, 69], [67, 65, 76, 76, 68, 65, 84, 65, 83, 73, 90, 69], [67, 79, 68, 69, 83, 73, 90, 69], [71, 65, 83, 80, 82, 73, 67, 69], [82, 69, 84, 85, 82, 78, 68, 65, 84, 65, 83, 73, 90, 69]].map fun s => Value.string (bs s)).toArray 9) (w107'.heap.size + 1) (by simp))
  have HG := Lib.hid (group_any [48, 50, 51, 52, 54, 56, 58, 61] [[65, 68, 68, 82, 69, 83, 83], [79, 82, 73, 71, 73, 78], [67, 65, 76, 76, 69, 82], [67, 65, 76, 76, 86, 65, 76, 85, 69], [67, 65, 76, 76, 68, 65, 84, 65, 83, 73, 90, 69], [67, 79, 68, 69, 83, 73, 90, 69], [71, 65, 83, 80, 82, 73, 67, 69], [82, 69, 84, 85, 82, 78, 68, 65, 84, 65, 83, 73, 90, 69]] 2 0 1 rfl (by decide) _ w107'.heap.size (w107'.heap.size + 1) (HA108.out.blk_at 1 rfl) (HA108.out.blk_at 0 rfl))
  go_wp2_with fail
  refine HG.out.mono ?_
  rintro e w2 ⟨v, rfl, S2⟩
  obtain ⟨A2, c2, rfl⟩ := own_slice S2 0 rfl
  obtain ⟨g2, rfl, _⟩ := S2.ownForm 0 rfl (by decide)
  have HB := Lib.hid (HA108.out.more S2)
  clear HS HA108 HG S2
  go_wp2_with (first
    | (at_builtin; refine wpList_append_any 3 113 HB.out rfl rfl (.tmp 45) (.tmp 48) 110 rfl i0 _ 48 Tryd.underlying110 hi0 hz0 hz1 hz2 rfl (by decide) rfl (some ⟨g2, 0, none⟩) 8 c2 (rowsC (grpR [48, 50, 51, 52, 54, 56, 58, 61] [[65, 68, 68, 82, 69, 83, 83], [79, 82, 73, 71, 73, 78], [67, 65, 76, 76, 69, 82], [67, 65, 76, 76, 86, 65, 76, 85, 69], [67, 65, 76, 76, 68, 65, 84, 65, 83, 73, 90, 69], [67, 79, 68, 69, 83, 73, 90, 69], [71, 65, 83, 80, 82, 73, 67, 69], [82, 69, 84, 85, 82, 78, 68, 65, 84, 65, 83, 73, 90, 69]] 2 0 1)) rfl (fun h => by cases h) (by rw [rowsC_len]; rfl) (fun ad had j u hj => ?_) (rowsC_one _) (by unfold maxLen; omega) (by omega) ?_; (cases had; rw [Addr.add_lit, Nat.zero_add]; exact (HB.out.ownCell 0 rfl j (by have := (List.getElem?_eq_some_iff.1 hj).1; rw [rowsC_len] at this; exact this)).trans hj))
    | fail)
  intro A108 c108 w108' S3
  have HS : Hid (RA w A108 38 c108 w108') := Lib.hid (by
    have h := ((S3.drop 1).drop 1).drop 1
    have e : opR.take 38 = opR.take 30 ++ (grpR [48, 50, 51, 52, 54, 56, 58, 61] [[65, 68, 68, 82, 69, 83, 83], [79, 82, 73, 71, 73, 78], [67, 65, 76, 76, 69, 82], [67, 65, 76, 76, 86, 65, 76, 85, 69], [67, 65, 76, 76, 68, 65, 84, 65, 83, 73, 90, 69], [67, 79, 68, 69, 83, 73, 90, 69], [71, 65, 83, 80, 82, 73, 67, 69], [82, 69, 84, 85, 82, 78, 68, 65, 84, 65, 83, 73, 90, 69]] 2 0 1) := by decide +kernel
    unfold RA
    rw [e, rowsC_app]
    exact h)
  clear S3 HB
  have HA109 : Hid (St empH w none_ empH _ [blk (w108'.heap.size + 1) (.cells ([[66, 65, 76, 65, 78, 67, 69], [69, 88, 84, 67, 79, 68, 69, 83, 73, 90, 69], [69, 88, 84, 67, 79, 68, 69, 72, 65, 83, 72], [83, 76, 79, 65, 68]].map fun s => Value.string (bs s)).toArray 9), blk w108'.heap.size (.cells ([49, 59, 63, 84].map intV).toArray 3), own 113 5 (.slice A108 38 c108) 38 (rowsC (opR.take 38))]) := Lib.hid ((HS.out.alloc (.cells ([49, 59, 63, 84].map intV).toArray 3)).alloc' (.cells ([[66, 65, 76, 65, 78, 67, 69], [69, 88, 84, 67, 79, 68, 69, 83, 73, 90, 69], [69, 88, 84, 67, 79, 68, 69, 72, 65, 83, 72], [83, 76, 79, 65, 68]].map fun s => Value.string (bs s)).toArray 9) (w108'.heap.size + 1) (by simp))
  have HG := Lib.hid (group_any [49, 59, 63, 84] [[66, 65, 76, 65, 78, 67, 69], [69, 88, 84, 67, 79, 68, 69, 83, 73, 90, 69], [69, 88, 84, 67, 79, 68, 69, 72, 65, 83, 72], [83, 76, 79, 65, 68]] 0 1 1 rfl (by decide) _ w108'.heap.size (w108'.heap.size + 1) (HA109.out.blk_at 1 rfl) (HA109.out.blk_at 0 rfl))
  go_wp2_with fail
  refine HG.out.mono ?_
  rintro e w2 ⟨v, rfl, S2⟩
  obtain ⟨A2, c2, rfl⟩ := own_slice S2 0 rfl
  obtain ⟨g2, rfl, _⟩ := S2.ownForm 0 rfl (by decide)
  have HB := Lib.hid (HA109.out.more S2)
  clear HS HA109 HG S2
  go_wp2_with (first
    | (at_builtin; refine wpList_append_any 3 113 HB.out rfl rfl (.tmp 50) (.tmp 53) 110 rfl i0 _ 48 Tryd.underlying110 hi0 hz0 hz1 hz2 rfl (by decide) rfl (some ⟨g2, 0, none⟩) 4 c2 (rowsC (grpR [49, 59, 63, 84] [[66, 65, 76, 65, 78, 67, 69], [69, 88, 84, 67, 79, 68, 69, 83, 73, 90, 69], [69, 88, 84, 67, 79, 68, 69, 72, 65, 83, 72], [83, 76, 79, 65, 68]] 0 1 1)) rfl (fun h => by cases h) (by rw [rowsC_len]; rfl) (fun ad had j u hj => ?_) (rowsC_one _) (by unfold maxLen; omega) (by omega) ?_; (cases had; rw [Addr.add_lit, Nat.zero_add]; exact (HB.out.ownCell 0 rfl j (by have := (List.getElem?_eq_some_iff.1 hj).1; rw [rowsC_len] at this; exact this)).trans hj))
    | fail)
  intro A109 c109 w109' S3
  have HS : Hid (RA w A109 42 c109 w109') := Lib.hid (by
    have h := ((S3.drop 1).drop 1).drop 1
    have e : opR.take 42 = opR.take 38 ++ (grpR [49, 59, 63, 84] [[66, 65, 76, 65, 78, 67, 69], [69, 88, 84, 67, 79, 68, 69, 83, 73, 90, 69], [69, 88, 84, 67, 79, 68, 69, 72, 65, 83, 72], [83, 76, 79, 65, 68]] 0 1 1) := by decide +kernel
    unfold RA
    rw [e, rowsC_app]
    exact h)
  clear S3 HB
  have HA110 : Hid (St empH w none_ empH _ [blk (w109'.heap.size + 1) (.cells ([[67, 65, 76, 76, 68, 65, 84, 65, 67, 79, 80, 89], [67, 79, 68, 69, 67, 79, 80, 89], [82, 69, 84, 85, 82, 78, 68, 65, 84, 65, 67, 79, 80, 89]].map fun s => Value.string (bs s)).toArray 9), blk w109'.heap.size (.cells ([55, 57, 62].map intV).toArray 3), own 113 5 (.slice A109 42 c109) 42 (rowsC (opR.take 42))]) := Lib.hid ((HS.out.alloc (.cells ([55, 57, 62].map intV).toArray 3)).alloc' (.cells ([[67, 65, 76, 76, 68, 65, 84, 65, 67, 79, 80, 89], [67, 79, 68, 69, 67, 79, 80, 89], [82, 69, 84, 85, 82, 78, 68, 65, 84, 65, 67, 79, 80, 89]].map fun s => Value.string (bs s)).toArray 9) (w109'.heap.size + 1) (by simp))
  have HG := Lib.hid (group_any [55, 57, 62] [[67, 65, 76, 76, 68, 65, 84, 65, 67, 79, 80, 89], [67, 79, 68, 69, 67, 79, 80, 89], [82, 69, 84, 85, 82, 78, 68, 65, 84, 65, 67, 79, 80, 89]] 3 3 0 rfl (by decide) _ w109'.heap.size (w109'.heap.size + 1) (HA110.out.blk_at 1 rfl) (HA110.out.blk_at 0 rfl))
  go_wp2_with fail
  refine HG.out.mono ?_
  rintro e w2 ⟨v, rfl, S2⟩
  obtain ⟨A2, c2, rfl⟩ := own_slice S2 0 rfl
  obtain ⟨g2, rfl, _⟩ := S2.ownForm 0 rfl (by decide)
  have HB := Lib.hid (HA110.out.more S2)
  clear HS HA110 HG S2
  go_wp2_with (first
    | (at_builtin; refine wpList_append_any 3 113 HB.out rfl rfl (.tmp 55) (.tmp 58) 110 rfl i0 _ 48 Tryd.underlying110 hi0 hz0 hz1 hz2 rfl (by decide) rfl (some ⟨g2, 0, none⟩) 3 c2 (rowsC (grpR [55, 57, 62] [[67, 65, 76, 76, 68, 65, 84, 65, 67, 79, 80, 89], [67, 79, 68, 69, 67, 79, 80, 89], [82, 69, 84, 85, 82, 78, 68, 65, 84, 65, 67, 79, 80, 89]] 3 3 0)) rfl (fun h => by cases h) (by rw [rowsC_len]; rfl) (fun ad had j u hj => ?_) (rowsC_one _) (by unfold maxLen; omega) (by omega) ?_; (cases had; rw [Addr.add_lit, Nat.zero_add]; exact (HB.out.ownCell 0 rfl j (by have := (List.getElem?_eq_some_iff.1 hj).1; rw [rowsC_len] at this; exact this)).trans hj))
    | fail)
  intro A110 c110 w110' S3
  have HS : Hid (RA w A110 45 c110 w110') := Lib.hid (by
    have h := ((S3.drop 1).drop 1).drop 1
    have e : opR.take 45 = opR.take 42 ++ (grpR [55, 57, 62] [[67, 65, 76, 76, 68, 65, 84, 65, 67, 79, 80, 89], [67, 79, 68, 69, 67, 79, 80, 89], [82, 69, 84, 85, 82, 78, 68, 65, 84, 65, 67, 79, 80, 89]] 3 3 0) := by decide +kernel
    unfold RA
    rw [e, rowsC_app]
    exact h)
  clear S3 HB
  have HA111 : Hid (St empH w none_ empH _ [blk (w110'.heap.size + 1) (.cells ([[69, 88, 84, 67, 79, 68, 69, 67, 79, 80, 89]].map fun s => Value.string (bs s)).toArray 9), blk w110'.heap.size (.cells ([60].map intV).toArray 3), own 113 5 (.slice A110 45 c110) 45 (rowsC (opR.take 45))]) := Lib.hid ((HS.out.alloc (.cells ([60].map intV).toArray 3)).alloc' (.cells ([[69, 88, 84, 67, 79, 68, 69, 67, 79, 80, 89]].map fun s => Value.string (bs s)).toArray 9) (w110'.heap.size + 1) (by simp))
  have HG := Lib.hid (group_any [60] [[69, 88, 84, 67, 79, 68, 69, 67, 79, 80, 89]] 0 4 0 rfl (by decide) _ w110'.heap.size (w110'.heap.size + 1) (HA111.out.blk_at 1 rfl) (HA111.out.blk_at 0 rfl))
  go_wp2_with fail
  refine HG.out.mono ?_
  rintro e w2 ⟨v, rfl, S2⟩
  obtain ⟨A2, c2, rfl⟩ := own_slice S2 0 rfl
  obtain ⟨g2, rfl, _⟩ := S2.ownForm 0 rfl (by decide)
  have HB := Lib.hid (HA111.out.more S2)
  clear HS HA111 HG S2
  go_wp2_with (first
    | (at_builtin; refine wpList_append_any 3 113 HB.out rfl rfl (.tmp 60) (.tmp 63) 110 rfl i0 _ 48 Tryd.underlying110 hi0 hz0 hz1 hz2 rfl (by decide) rfl (some ⟨g2, 0, none⟩) 1 c2 (rowsC (grpR [60] [[69, 88, 84, 67, 79, 68, 69, 67, 79, 80, 89]] 0 4 0)) rfl (fun h => by cases h) (by rw [rowsC_len]; rfl) (fun ad had j u hj => ?_) (rowsC_one _) (by unfold maxLen; omega) (by omega) ?_; (cases had; rw [Addr.add_lit, Nat.zero_add]; exact (HB.out.ownCell 0 rfl j (by have := (List.getElem?_eq_some_iff.1 hj).1; rw [rowsC_len] at this; exact this)).trans hj))
    | fail)
  intro A111 c111 w111' S3
  have HS : Hid (RA w A111 46 c111 w111') := Lib.hid (by
    have h := ((S3.drop 1).drop 1).drop 1
    have e : opR.take 46 = opR.take 45 ++ (grpR [60] [[69, 88, 84, 67, 79, 68, 69, 67, 79, 80, 89]] 0 4 0) := by decide +kernel
    unfold RA
    rw [e, rowsC_app]
    exact h)
  clear S3 HB
  have HA112 : Hid (St empH w none_ empH _ [blk (w111'.heap.size + 1) (.cells ([[66, 76, 79, 67, 75, 72, 65, 83, 72]].map fun s => Value.string (bs s)).toArray 9), blk w111'.heap.size (.cells ([64].map intV).toArray 3), own 113 5 (.slice A111 46 c111) 46 (rowsC (opR.take 46))]) := Lib.hid ((HS.out.alloc (.cells ([64].map intV).toArray 3)).alloc' (.cells ([[66, 76, 79, 67, 75, 72, 65, 83, 72]].map fun s => Value.string (bs s)).toArray 9) (w111'.heap.size + 1) (by simp))
  have HG := Lib.hid (group_any [64] [[66, 76, 79, 67, 75, 72, 65, 83, 72]] 20 1 1 rfl (by decide) _ w111'.heap.size (w111'.heap.size + 1) (HA112.out.blk_at 1 rfl) (HA112.out.blk_at 0 rfl))
  go_wp2_with fail
  refine HG.out.mono ?_
  rintro e w2 ⟨v, rfl, S2⟩
  obtain ⟨A2, c2, rfl⟩ := own_slice S2 0 rfl
  obtain ⟨g2, rfl, _⟩ := S2.ownForm 0 rfl (by decide)
  have HB := Lib.hid (HA112.out.more S2)
  clear HS HA112 HG S2
  go_wp2_with (first
    | (at_builtin; refine wpList_append_any 3 113 HB.out rfl rfl (.tmp 65) (.tmp 68) 110 rfl i0 _ 48 Tryd.underlying110 hi0 hz0 hz1 hz2 rfl (by decide) rfl (some ⟨g2, 0, none⟩) 1 c2 (rowsC (grpR [64] [[66, 76, 79, 67, 75, 72, 65, 83, 72]] 20 1 1)) rfl (fun h => by cases h) (by rw [rowsC_len]; rfl) (fun ad had j u hj => ?_) (rowsC_one _) (by unfold maxLen; omega) (by omega) ?_; (cases had; rw [Addr.add_lit, Nat.zero_add]; exact (HB.out.ownCell 0 rfl j (by have := (List.getElem?_eq_some_iff.1 hj).1; rw [rowsC_len] at this; exact this)).trans hj))
    | fail)
  intro A112 c112 w112' S3
  have HS : Hid (RA w A112 47 c112 w112') := Lib.hid (by
    have h := ((S3.drop 1).drop 1).drop 1
    have e : opR.take 47 = opR.take 46 ++ (grpR [64] [[66, 76, 79, 67, 75, 72, 65, 83, 72]] 20 1 1) := by decide +kernel
    unfold RA
    rw [e, rowsC_app]
    exact h)
  clear S3 HB
  have HA113 : Hid (St empH w none_ empH _ [blk (w112'.heap.size + 1) (.cells ([[67, 79, 73, 78, 66, 65, 83, 69], [84, 73, 77, 69, 83, 84, 65, 77, 80], [78, 85, 77, 66, 69, 82], [80, 82, 69, 86, 82, 65, 78, 68, 65, 79], [71, 65, 83, 76, 73, 77, 73, 84], [67, 72, 65, 73, 78, 73, 68], [66, 65, 83, 69, 70, 69, 69], [80, 67], [77, 83, 73, 90, 69], [71, 65, 83], [80, 85, 83, 72, 48]].map fun s => Value.string (bs s)).toArray 9), blk w112'.heap.size (.cells ([65, 66, 67, 68, 69, 70, 72, 88, 89, 90, 95].map intV).toArray 3), own 113 5 (.slice A112 47 c112) 47 (rowsC (opR.take 47))]) := Lib.hid ((HS.out.alloc (.cells ([65, 66, 67, 68, 69, 70, 72, 88, 89, 90, 95].map intV).toArray 3)).alloc' (.cells ([[67, 79, 73, 78, 66, 65, 83, 69], [84, 73, 77, 69, 83, 84, 65, 77, 80], [78, 85, 77, 66, 69, 82], [80, 82, 69, 86, 82, 65, 78, 68, 65, 79], [71, 65, 83, 76, 73, 77, 73, 84], [67, 72, 65, 73, 78, 73, 68], [66, 65, 83, 69, 70, 69, 69], [80, 67], [77, 83, 73, 90, 69], [71, 65, 83], [80, 85, 83, 72, 48]].map fun s => Value.string (bs s)).toArray 9) (w112'.heap.size + 1) (by simp))
  have HG := Lib.hid (group_any [65, 66, 67, 68, 69, 70, 72, 88, 89, 90, 95] [[67, 79, 73, 78, 66, 65, 83, 69], [84, 73, 77, 69, 83, 84, 65, 77, 80], [78, 85, 77, 66, 69, 82], [80, 82, 69, 86, 82, 65, 78, 68, 65, 79], [71, 65, 83, 76, 73, 77, 73, 84], [67, 72, 65, 73, 78, 73, 68], [66, 65, 83, 69, 70, 69, 69], [80, 67], [77, 83, 73, 90, 69], [71, 65, 83], [80, 85, 83, 72, 48]] 2 0 1 rfl (by decide) _ w112'.heap.size (w112'.heap.size + 1) (HA113.out.blk_at 1 rfl) (HA113.out.blk_at 0 rfl))
  go_wp2_with fail
  refine HG.out.mono ?_
  rintro e w2 ⟨v, rfl, S2⟩
  obtain ⟨A2, c2, rfl⟩ := own_slice S2 0 rfl
  obtain ⟨g2, rfl, _⟩ := S2.ownForm 0 rfl (by decide)
  have HB := Lib.hid (HA113.out.more S2)
  clear HS HA113 HG S2
  go_wp2_with (first
    | (at_builtin; refine wpList_append_any 3 113 HB.out rfl rfl (.tmp 70) (.tmp 73) 110 rfl i0 _ 48 Tryd.underlying110 hi0 hz0 hz1 hz2 rfl (by decide) rfl (some ⟨g2, 0, none⟩) 11 c2 (rowsC (grpR [65, 66, 67, 68, 69, 70, 72, 88, 89, 90, 95] [[67, 79, 73, 78, 66, 65, 83, 69], [84, 73, 77, 69, 83, 84, 65, 77, 80], [78, 85, 77, 66, 69, 82], [80, 82, 69, 86, 82, 65, 78, 68, 65, 79], [71, 65, 83, 76, 73, 77, 73, 84], [67, 72, 65, 73, 78, 73, 68], [66, 65, 83, 69, 70, 69, 69], [80, 67], [77, 83, 73, 90, 69], [71, 65, 83], [80, 85, 83, 72, 48]] 2 0 1)) rfl (fun h => by cases h) (by rw [rowsC_len]; rfl) (fun ad had j u hj => ?_) (rowsC_one _) (by unfold maxLen; omega) (by omega) ?_; (cases had; rw [Addr.add_lit, Nat.zero_add]; exact (HB.out.ownCell 0 rfl j (by have := (List.getElem?_eq_some_iff.1 hj).1; rw [rowsC_len] at this; exact this)).trans hj))
    | fail)
  intro A113 c113 w113' S3
  have HS : Hid (RA w A113 58 c113 w113') := Lib.hid (by
    have h := ((S3.drop 1).drop 1).drop 1
    have e : opR.take 58 = opR.take 47 ++ (grpR [65, 66, 67, 68, 69, 70, 72, 88, 89, 90, 95] [[67, 79, 73, 78, 66, 65, 83, 69], [84, 73, 77, 69, 83, 84, 65, 77, 80], [78, 85, 77, 66, 69, 82], [80, 82, 69, 86, 82, 65, 78, 68, 65, 79], [71, 65, 83, 76, 73, 77, 73, 84], [67, 72, 65, 73, 78, 73, 68], [66, 65, 83, 69, 70, 69, 69], [80, 67], [77, 83, 73, 90, 69], [71, 65, 83], [80, 85, 83, 72, 48]] 2 0 1) := by decide +kernel
    unfold RA
    rw [e, rowsC_app]
    exact h)
  clear S3 HB
  have HA114 : Hid (St empH w none_ empH _ [blk (w113'.heap.size + 1) (.cells ([[83, 69, 76, 70, 66, 65, 76, 65, 78, 67, 69]].map fun s => Value.string (bs s)).toArray 9), blk w113'.heap.size (.cells ([71].map intV).toArray 3), own 113 5 (.slice A113 58 c113) 58 (rowsC (opR.take 58))]) := Lib.hid ((HS.out.alloc (.cells ([71].map intV).toArray 3)).alloc' (.cells ([[83, 69, 76, 70, 66, 65, 76, 65, 78, 67, 69]].map fun s => Value.string (bs s)).toArray 9) (w113'.heap.size + 1) (by simp))
  have HG := Lib.hid (group_any [71] [[83, 69, 76, 70, 66, 65, 76, 65, 78, 67, 69]] 5 0 1 rfl (by decide) _ w113'.heap.size (w113'.heap.size + 1) (HA114.out.blk_at 1 rfl) (HA114.out.blk_at 0 rfl))
  go_wp2_with fail
  refine HG.out.mono ?_
  rintro e w2 ⟨v, rfl, S2⟩
  obtain ⟨A2, c2, rfl⟩ := own_slice S2 0 rfl
  obtain ⟨g2, rfl, _⟩ := S2.ownForm 0 rfl (by decide)
  have HB := Lib.hid (HA114.out.more S2)
  clear HS HA114 HG S2
  go_wp2_with (first
    | (at_builtin; refine wpList_append_any 3 113 HB.out rfl rfl (.tmp 75) (.tmp 78) 110 rfl i0 _ 48 Tryd.underlying110 hi0 hz0 hz1 hz2 rfl (by decide) rfl (some ⟨g2, 0, none⟩) 1 c2 (rowsC (grpR [71] [[83, 69, 76, 70, 66, 65, 76, 65, 78, 67, 69]] 5 0 1)) rfl (fun h => by cases h) (by rw [rowsC_len]; rfl) (fun ad had j u hj => ?_) (rowsC_one _) (by unfold maxLen; omega) (by omega) ?_; (cases had; rw [Addr.add_lit, Nat.zero_add]; exact (HB.out.ownCell 0 rfl j (by have := (List.getElem?_eq_some_iff.1 hj).1; rw [rowsC_len] at this; exact this)).trans hj))
    | fail)
  intro A114 c114 w114' S3
  have HS : Hid (RA w A114 59 c114 w114') := Lib.hid (by
    have h := ((S3.drop 1).drop 1).drop 1
    have e : opR.take 59 = opR.take 58 ++ (grpR [71] [[83, 69, 76, 70, 66, 65, 76, 65, 78, 67, 69]] 5 0 1) := by decide +kernel
    unfold RA
    rw [e, rowsC_app]
    exact h)
  clear S3 HB
  have HA115 : Hid (St empH w none_ empH _ [blk (w114'.heap.size + 1) (.cells ([[80, 79, 80]].map fun s => Value.string (bs s)).toArray 9), blk w114'.heap.size (.cells ([80].map intV).toArray 3), own 113 5 (.slice A114 59 c114) 59 (rowsC (opR.take 59))]) := Lib.hid ((HS.out.alloc (.cells ([80].map intV).toArray 3)).alloc' (.cells ([[80, 79, 80]].map fun s => Value.string (bs s)).toArray 9) (w114'.heap.size + 1) (by simp))
  have HG := Lib.hid (group_any [80] [[80, 79, 80]] 2 1 0 rfl (by decide) _ w114'.heap.size (w114'.heap.size + 1) (HA115.out.blk_at 1 rfl) (HA115.out.blk_at 0 rfl))
  go_wp2_with fail
  refine HG.out.mono ?_
  rintro e w2 ⟨v, rfl, S2⟩
  obtain ⟨A2, c2, rfl⟩ := own_slice S2 0 rfl
  obtain ⟨g2, rfl, _⟩ := S2.ownForm 0 rfl (by decide)
  have HB := Lib.hid (HA115.out.more S2)
  clear HS HA115 HG S2
  go_wp2_with (first
    | (at_builtin; refine wpList_append_any 3 113 HB.out rfl rfl (.tmp 80) (.tmp 83) 110 rfl i0 _ 48 Tryd.underlying110 hi0 hz0 hz1 hz2 rfl (by decide) rfl (some ⟨g2, 0, none⟩) 1 c2 (rowsC (grpR [80] [[80, 79, 80]] 2 1 0)) rfl (fun h => by cases h) (by rw [rowsC_len]; rfl) (fun ad had j u hj => ?_) (rowsC_one _) (by unfold maxLen; omega) (by omega) ?_; (cases had; rw [Addr.add_lit, Nat.zero_add]; exact (HB.out.ownCell 0 rfl j (by have := (List.getElem?_eq_some_iff.1 hj).1; rw [rowsC_len] at this; exact this)).trans hj))
    | fail)
  intro A115 c115 w115' S3
  have HS : Hid (RA w A115 60 c115 w115') := Lib.hid (by
    have h := ((S3.drop 1).drop 1).drop 1
    have e : opR.take 60 = opR.take 59 ++ (grpR [80] [[80, 79, 80]] 2 1 0) := by decide +kernel
    unfold RA
    rw [e, rowsC_app]
    exact h)
  clear S3 HB
  have HA116 : Hid (St empH w none_ empH _ [blk (w115'.heap.size + 1) (.cells ([[77, 83, 84, 79, 82, 69], [77, 83, 84, 79, 82, 69, 56]].map fun s => Value.string (bs s)).toArray 9), blk w115'.heap.size (.cells ([82, 83].map intV).toArray 3), own 113 5 (.slice A115 60 c115) 60 (rowsC (opR.take 60))]) := Lib.hid ((HS.out.alloc (.cells ([82, 83].map intV).toArray 3)).alloc' (.cells ([[77, 83, 84, 79, 82, 69], [77, 83, 84, 79, 82, 69, 56]].map fun s => Value.string (bs s)).toArray 9) (w115'.heap.size + 1) (by simp))
  have HG := Lib.hid (group_any [82, 83] [[77, 83, 84, 79, 82, 69], [77, 83, 84, 79, 82, 69, 56]] 3 2 0 rfl (by decide) _ w115'.heap.size (w115'.heap.size + 1) (HA116.out.blk_at 1 rfl) (HA116.out.blk_at 0 rfl))
  go_wp2_with fail
  refine HG.out.mono ?_
  rintro e w2 ⟨v, rfl, S2⟩
  obtain ⟨A2, c2, rfl⟩ := own_slice S2 0 rfl
  obtain ⟨g2, rfl, _⟩ := S2.ownForm 0 rfl (by decide)
  have HB := Lib.hid (HA116.out.more S2)
  clear HS HA116 HG S2
  go_wp2_with (first
    | (at_builtin; refine wpList_append_any 3 113 HB.out rfl rfl (.tmp 85) (.tmp 88) 110 rfl i0 _ 48 Tryd.underlying110 hi0 hz0 hz1 hz2 rfl (by decide) rfl (some ⟨g2, 0, none⟩) 2 c2 (rowsC (grpR [82, 83] [[77, 83, 84, 79, 82, 69], [77, 83, 84, 79, 82, 69, 56]] 3 2 0)) rfl (fun h => by cases h) (by rw [rowsC_len]; rfl) (fun ad had j u hj => ?_) (rowsC_one _) (by unfold maxLen; omega) (by omega) ?_; (cases had; rw [Addr.add_lit, Nat.zero_add]; exact (HB.out.ownCell 0 rfl j (by have := (List.getElem?_eq_some_iff.1 hj).1; rw [rowsC_len] at this; exact this)).trans hj))
    | fail)
  intro A116 c116 w116' S3
  have HS : Hid (RA w A116 62 c116 w116') := Lib.hid (by
    have h := ((S3.drop 1).drop 1).drop 1
    have e : opR.take 62 = opR.take 60 ++ (grpR [82, 83] [[77, 83, 84, 79, 82, 69], [77, 83, 84, 79, 82, 69, 56]] 3 2 0) := by decide +kernel
    unfold RA
    rw [e, rowsC_app]
    exact h)
  clear S3 HB
  have HA117 : Hid (St empH w none_ empH _ [blk (w116'.heap.size + 1) (.cells ([[83, 83, 84, 79, 82, 69], [82, 69, 84, 85, 82, 78], [82, 69, 86, 69, 82, 84]].map fun s => Value.string (bs s)).toArray 9), blk w116'.heap.size (.cells ([85, 243, 253].map intV).toArray 3), own 113 5 (.slice A116 62 c116) 62 (rowsC (opR.take 62))]) := Lib.hid ((HS.out.alloc (.cells ([85, 243, 253].map intV).toArray 3)).alloc' (.cells ([[83, 83, 84, 79, 82, 69], [82, 69, 84, 85, 82, 78], [82, 69, 86, 69, 82, 84]].map fun s => Value.string (bs s)).toArray 9) (w116'.heap.size + 1) (by simp))
  have HG := Lib.hid (group_any [85, 243, 253] [[83, 83, 84, 79, 82, 69], [82, 69, 84, 85, 82, 78], [82, 69, 86, 69, 82, 84]] 0 2 0 rfl (by decide) _ w116'.heap.size (w116'.heap.size + 1) (HA117.out.blk_at 1 rfl) (HA117.out.blk_at 0 rfl))
  go_wp2_with fail
  refine HG.out.mono ?_
  rintro e w2 ⟨v, rfl, S2⟩
  obtain ⟨A2, c2, rfl⟩ := own_slice S2 0 rfl
  obtain ⟨g2, rfl, _⟩ := S2.ownForm 0 rfl (by decide)
  have HB := Lib.hid (HA117.out.more S2)
  clear HS HA117 HG S2
  go_wp2_with (first
    | (at_builtin; refine wpList_append_any 3 113 HB.out rfl rfl (.tmp 90) (.tmp 93) 110 rfl i0 _ 48 Tryd.underlying110 hi0 hz0 hz1 hz2 rfl (by decide) rfl (some ⟨g2, 0, none⟩) 3 c2 (rowsC (grpR [85, 243, 253] [[83, 83, 84, 79, 82, 69], [82, 69, 84, 85, 82, 78], [82, 69, 86, 69, 82, 84]] 0 2 0)) rfl (fun h => by cases h) (by rw [rowsC_len]; rfl) (fun ad had j u hj => ?_) (rowsC_one _) (by unfold maxLen; omega) (by omega) ?_; (cases had; rw [Addr.add_lit, Nat.zero_add]; exact (HB.out.ownCell 0 rfl j (by have := (List.getElem?_eq_some_iff.1 hj).1; rw [rowsC_len] at this; exact this)).trans hj))
    | fail)
  intro A117 c117 w117' S3
  have HS : Hid (RA w A117 65 c117 w117') := Lib.hid (by
    have h := ((S3.drop 1).drop 1).drop 1
    have e : opR.take 65 = opR.take 62 ++ (grpR [85, 243, 253] [[83, 83, 84, 79, 82, 69], [82, 69, 84, 85, 82, 78], [82, 69, 86, 69, 82, 84]] 0 2 0) := by decide +kernel
    unfold RA
    rw [e, rowsC_app]
    exact h)
  clear S3 HB
  have HA118 : Hid (St empH w none_ empH _ [blk (w117'.heap.size + 1) (.cells ([[74, 85, 77, 80]].map fun s => Value.string (bs s)).toArray 9), blk w117'.heap.size (.cells ([86].map intV).toArray 3), own 113 5 (.slice A117 65 c117) 65 (rowsC (opR.take 65))]) := Lib.hid ((HS.out.alloc (.cells ([86].map intV).toArray 3)).alloc' (.cells ([[74, 85, 77, 80]].map fun s => Value.string (bs s)).toArray 9) (w117'.heap.size + 1) (by simp))
  have HG := Lib.hid (group_any [86] [[74, 85, 77, 80]] 8 1 0 rfl (by decide) _ w117'.heap.size (w117'.heap.size + 1) (HA118.out.blk_at 1 rfl) (HA118.out.blk_at 0 rfl))
  go_wp2_with fail
  refine HG.out.mono ?_
  rintro e w2 ⟨v, rfl, S2⟩
  obtain ⟨A2, c2, rfl⟩ := own_slice S2 0 rfl
  obtain ⟨g2, rfl, _⟩ := S2.ownForm 0 rfl (by decide)
  have HB := Lib.hid (HA118.out.more S2)
  clear HS HA118 HG S2
  go_wp2_with (first
    | (at_builtin; refine wpList_append_any 3 113 HB.out rfl rfl (.tmp 95) (.tmp 98) 110 rfl i0 _ 48 Tryd.underlying110 hi0 hz0 hz1 hz2 rfl (by decide) rfl (some ⟨g2, 0, none⟩) 1 c2 (rowsC (grpR [86] [[74, 85, 77, 80]] 8 1 0)) rfl (fun h => by cases h) (by rw [rowsC_len]; rfl) (fun ad had j u hj => ?_) (rowsC_one _) (by unfold maxLen; omega) (by omega) ?_; (cases had; rw [Addr.add_lit, Nat.zero_add]; exact (HB.out.ownCell 0 rfl j (by have := (List.getElem?_eq_some_iff.1 hj).1; rw [rowsC_len] at this; exact this)).trans hj))
    | fail)
  intro A118 c118 w118' S3
  have HS : Hid (RA w A118 66 c118 w118') := Lib.hid (by
    have h := ((S3.drop 1).drop 1).drop 1
    have e : opR.take 66 = opR.take 65 ++ (grpR [86] [[74, 85, 77, 80]] 8 1 0) := by decide +kernel
    unfold RA
    rw [e, rowsC_app]
    exact h)
  clear S3 HB
  have HA119 : Hid (St empH w none_ empH _ [blk (w118'.heap.size + 1) (.cells ([[74, 85, 77, 80, 73]].map fun s => Value.string (bs s)).toArray 9), blk w118'.heap.size (.cells ([87].map intV).toArray 3), own 113 5 (.slice A118 66 c118) 66 (rowsC (opR.take 66))]) := Lib.hid ((HS.out.alloc (.cells ([87].map intV).toArray 3)).alloc' (.cells ([[74, 85, 77, 80, 73]].map fun s => Value.string (bs s)).toArray 9) (w118'.heap.size + 1) (by simp))
  have HG := Lib.hid (group_any [87] [[74, 85, 77, 80, 73]] 10 2 0 rfl (by decide) _ w118'.heap.size (w118'.heap.size + 1) (HA119.out.blk_at 1 rfl) (HA119.out.blk_at 0 rfl))
  go_wp2_with fail
  refine HG.out.mono ?_
  rintro e w2 ⟨v, rfl, S2⟩
  obtain ⟨A2, c2, rfl⟩ := own_slice S2 0 rfl
  obtain ⟨g2, rfl, _⟩ := S2.ownForm 0 rfl (by decide)
  have HB := Lib.hid (HA119.out.more S2)
  clear HS HA119 HG S2
  go_wp2_with (first
    | (at_builtin; refine wpList_append_any 3 113 HB.out rfl rfl (.tmp 100) (.tmp 103) 110 rfl i0 _ 48 Tryd.underlying110 hi0 hz0 hz1 hz2 rfl (by decide) rfl (some ⟨g2, 0, none⟩) 1 c2 (rowsC (grpR [87] [[74, 85, 77, 80, 73]] 10 2 0)) rfl (fun h => by cases h) (by rw [rowsC_len]; rfl) (fun ad had j u hj => ?_) (rowsC_one _) (by unfold maxLen; omega) (by omega) ?_; (cases had; rw [Addr.add_lit, Nat.zero_add]; exact (HB.out.ownCell 0 rfl j (by have := (List.getElem?_eq_some_iff.1 hj).1; rw [rowsC_len] at this; exact this)).trans hj))
    | fail)
  intro A119 c119 w119' S3
  have HS : Hid (RA w A119 67 c119 w119') := Lib.hid (by
    have h := ((S3.drop 1).drop 1).drop 1
    have e : opR.take 67 = opR.take 66 ++ (grpR [87] [[74, 85, 77, 80, 73]] 10 2 0) := by decide +kernel
    unfold RA
    rw [e, rowsC_app]
    exact h)
  clear S3 HB
  have HA120 : Hid (St empH w none_ empH _ [blk (w119'.heap.size + 1) (.cells ([[74, 85, 77, 80, 68, 69, 83, 84]].map fun s => Value.string (bs s)).toArray 9), blk w119'.heap.size (.cells ([91].map intV).toArray 3), own 113 5 (.slice A119 67 c119) 67 (rowsC (opR.take 67))]) := Lib.hid ((HS.out.alloc (.cells ([91].map intV).toArray 3)).alloc' (.cells ([[74, 85, 77, 80, 68, 69, 83, 84]].map fun s => Value.string (bs s)).toArray 9) (w119'.heap.size + 1) (by simp))
  have HG := Lib.hid (group_any [91] [[74, 85, 77, 80, 68, 69, 83, 84]] 1 0 0 rfl (by decide) _ w119'.heap.size (w119'.heap.size + 1) (HA120.out.blk_at 1 rfl) (HA120.out.blk_at 0 rfl))
  go_wp2_with fail
  refine HG.out.mono ?_
  rintro e w2 ⟨v, rfl, S2⟩
  obtain ⟨A2, c2, rfl⟩ := own_slice S2 0 rfl
  obtain ⟨g2, rfl, _⟩ := S2.ownForm 0 rfl (by decide)
  have HB := Lib.hid (HA120.out.more S2)
  clear HS HA120 HG S2
  go_wp2_with (first
    | (at_builtin; refine wpList_append_any 3 113 HB.out rfl rfl (.tmp 105) (.tmp 108) 110 rfl i0 _ 48 Tryd.underlying110 hi0 hz0 hz1 hz2 rfl (by decide) rfl (some ⟨g2, 0, none⟩) 1 c2 (rowsC (grpR [91] [[74, 85, 77, 80, 68, 69, 83, 84]] 1 0 0)) rfl (fun h => by cases h) (by rw [rowsC_len]; rfl) (fun ad had j u hj => ?_) (rowsC_one _) (by unfold maxLen; omega) (by omega) ?_; (cases had; rw [Addr.add_lit, Nat.zero_add]; exact (HB.out.ownCell 0 rfl j (by have := (List.getElem?_eq_some_iff.1 hj).1; rw [rowsC_len] at this; exact this)).trans hj))
    | fail)
  intro A120 c120 w120' S3
  have HS : Hid (RA w A120 68 c120 w120') := Lib.hid (by
    have h := ((S3.drop 1).drop 1).drop 1
    have e : opR.take 68 = opR.take 67 ++ (grpR [91] [[74, 85, 77, 80, 68, 69, 83, 84]] 1 0 0) := by decide +kernel
    unfold RA
    rw [e, rowsC_app]
    exact h)
  clear S3 HB
  have HSL : Hid (RA w A120 (67 + 1) c120 w120') := HS
  clear HS
  go_wp2_with fail
  go_loopw [1, 2] (fun v z wr => ∃ n : Nat, z = .int .i64 n ∧ 1 ≤ n ∧ n ≤ 33 ∧ ∃ A c, v = .slice A (67 + n) c ∧ Hid (RA w A (67 + n) c wr)) (fun _ z _ => 33 - (intOf z).toNat)
  case atStart => exact ⟨1, rfl, by omega, by omega, _, _, rfl, HSL⟩
  case round =>
    clear HSL
    obtain ⟨n, rfl, hn1, hn2, A, c, rfl, HS⟩ := hrel
    obtain ⟨wp, rfl⟩ : ∃ wp : World, wp = wr := ⟨_, rfl⟩
    by_cases hlt : n ≤ 32
    · have HDG := Lib.hid (digits_any n (by omega))
      have hcat := cat_fits 4 n (by decide)
      have HA1 : Hid (St empH w none_ empH _ [blk wp.heap.size (.cells #[.int .i64 (95 + n : Int)] 3), own 113 5 (.slice A (67 + n) c) (67 + n) (rowsC (opR.take (67 + n)))]) := Lib.hid (HS.out.alloc (.cells #[.int .i64 (95 + n : Int)] 3))
      go_wp2_with fail
      refine (HDG.out _).mono ?_
      rintro e w3 ⟨rfl, hb3⟩
      have HA2 := Lib.hid ((HA1.out.grow hb3).alloc (.cells #[.string ((⟨#[80, 85, 83, 72]⟩ : ByteArray) ++ bs (dig n))] 9))
      clear HA1 hb3
      have HG : Hid (Calls Tryd.prog 82 #[.slice (some ⟨wp.heap.size, 0, none⟩) 1 1, .slice (some ⟨w3.heap.size, 0, none⟩) 1 1, .int .u64 3, .int .i64 (0), .int .i64 (1)] (w3.alloc (.cells #[.string ((⟨#[80, 85, 83, 72]⟩ : ByteArray) ++ bs (dig n))] 9)) (RowsP (grpR [95 + n] [([80, 85, 83, 72] ++ dig n)] 3 0 1) (w3.alloc (.cells #[.string ((⟨#[80, 85, 83, 72]⟩ : ByteArray) ++ bs (dig n))] 9)))) := Lib.hid (by
        have hn : (⟨#[80, 85, 83, 72]⟩ : ByteArray) ++ bs (dig n) = bs ([80, 85, 83, 72] ++ dig n) := bs_cat [80, 85, 83, 72] (dig n)
        have h0 := HA2.out.blk_at 0 rfl
        have h1 := HA2.out.blk_at 1 rfl
        rw [hn] at h0 h1 ⊢
        exact group_any [95 + n] [([80, 85, 83, 72] ++ dig n)] 3 0 1 rfl (by simp) _ _ _ h1 h0)
      go_wp2_with fail
      refine HG.out.mono ?_
      rintro e w4 ⟨v, rfl, S2⟩
      obtain ⟨A2, c2, rfl⟩ := own_slice S2 0 rfl
      obtain ⟨g2, rfl, _⟩ := S2.ownForm 0 rfl (by simp [grpR])
      have HB := Lib.hid (HA2.out.more S2)
      clear HA2 HG S2
      go_wp2_with (first
        | (at_builtin; refine wpList_append_any 3 113 HB.out rfl rfl (.tmp 114) (.tmp 122) 110 rfl i0 _ 48 Tryd.underlying110 hi0 hz0 hz1 hz2 rfl (by decide) rfl (some ⟨g2, 0, none⟩) 1 c2 (rowsC (grpR [95 + n] [([80, 85, 83, 72] ++ dig n)] 3 0 1)) rfl (fun h => by cases h) (by rw [rowsC_len]; rfl) (fun ad had j u hj => ?_) (rowsC_one _) (by unfold maxLen; omega) (by omega) ?_; (cases had; rw [Addr.add_lit, Nat.zero_add]; exact (HB.out.ownCell 0 rfl j (by have := (List.getElem?_eq_some_iff.1 hj).1; rw [rowsC_len] at this; exact this)).trans hj))
        | fail)
      intro A5 c5 w5 S3
      have HS5 : Hid (RA w A5 (67 + n + 1) c5 w5) := Lib.hid (by
        have h := ((S3.drop 1).drop 1).drop 1
        have e : opR.take (67 + n + 1) = opR.take (67 + n) ++ (grpR [95 + n] [([80, 85, 83, 72] ++ dig n)] 3 0 1) := take_one (rent_push ⟨n, by omega⟩ hn1)
        unfold RA
        rw [e, rowsC_app]
        exact h)
      clear S3 HB
      go_wp2_with fail
      go_roundw
      case rel => exact ⟨n + 1, by go_num, by omega, by omega, A5, c5, rfl, HS5⟩
      case measure => simp [intOf]; omega
    · obtain rfl : n = 33 := by omega
      rw [show ((33 : Nat) : Int) = 33 from rfl]
      have HSL : Hid (RA w A (98 + 2 * 1) c wp) := HS
      clear HS
      go_wp2_with fail
      go_loopw [1, 3] (fun v z wr => ∃ n : Nat, z = .int .i64 n ∧ 1 ≤ n ∧ n ≤ 17 ∧ ∃ A c, v = .slice A (98 + 2 * n) c ∧ Hid (RA w A (98 + 2 * n) c wr)) (fun _ z _ => 17 - (intOf z).toNat)
      case atStart => exact ⟨1, rfl, by omega, by omega, _, _, rfl, HSL⟩
      case round =>
        clear HSL
        obtain ⟨n, rfl, hn1, hn2, A, c, rfl, HS⟩ := hrel
        obtain ⟨wq, rfl⟩ : ∃ wq : World, wq = wr := ⟨_, rfl⟩
        by_cases hlt : n ≤ 16
        · have HDG := Lib.hid (digits_any n (by omega))
          have hcat := cat_fits 3 n (by decide)
          have hcat2 := cat_fits 4 n (by decide)
          have HA1 : Hid (St empH w none_ empH _ [blk wq.heap.size (.cells #[.int .i64 (127 + n : Int)] 3), own 113 5 (.slice A (98 + 2 * n) c) (98 + 2 * n) (rowsC (opR.take (98 + 2 * n)))]) := Lib.hid (HS.out.alloc (.cells #[.int .i64 (127 + n : Int)] 3))
          go_wp2_with fail
          refine (HDG.out _).mono ?_
          rintro e w3 ⟨rfl, hb3⟩
          have HA2 := Lib.hid ((HA1.out.grow hb3).alloc (.cells #[.string ((⟨#[68, 85, 80]⟩ : ByteArray) ++ bs (dig n))] 9))
          clear HA1 hb3
          have HG : Hid (Calls Tryd.prog 82 #[.slice (some ⟨wq.heap.size, 0, none⟩) 1 1, .slice (some ⟨w3.heap.size, 0, none⟩) 1 1, .int .u64 3, .int .i64 ((n : Int)), .int .i64 ((n : Int) + 1)] (w3.alloc (.cells #[.string ((⟨#[68, 85, 80]⟩ : ByteArray) ++ bs (dig n))] 9)) (RowsP (grpR [127 + n] [([68, 85, 80] ++ dig n)] 3 n (n + 1)) (w3.alloc (.cells #[.string ((⟨#[68, 85, 80]⟩ : ByteArray) ++ bs (dig n))] 9)))) := Lib.hid (by
            have hn : (⟨#[68, 85, 80]⟩ : ByteArray) ++ bs (dig n) = bs ([68, 85, 80] ++ dig n) := bs_cat [68, 85, 80] (dig n)
            have h0 := HA2.out.blk_at 0 rfl
            have h1 := HA2.out.blk_at 1 rfl
            rw [hn] at h0 h1 ⊢
            exact group_any [127 + n] [([68, 85, 80] ++ dig n)] 3 n (n + 1) rfl (by simp) _ _ _ h1 h0)
          go_wp2_with fail
          refine HG.out.mono ?_
          rintro e w4 ⟨v, rfl, S2⟩
          obtain ⟨A2, c2, rfl⟩ := own_slice S2 0 rfl
          obtain ⟨g2, rfl, _⟩ := S2.ownForm 0 rfl (by simp [grpR])
          have HB := Lib.hid (HA2.out.more S2)
          clear HA2 HG S2
          go_wp2_with (first
            | (at_builtin; refine wpList_append_any 3 113 HB.out rfl rfl (.tmp 128) (.tmp 139) 110 rfl i0 _ 48 Tryd.underlying110 hi0 hz0 hz1 hz2 rfl (by decide) rfl (some ⟨g2, 0, none⟩) 1 c2 (rowsC (grpR [127 + n] [([68, 85, 80] ++ dig n)] 3 n (n + 1))) rfl (fun h => by cases h) (by rw [rowsC_len]; rfl) (fun ad had j u hj => ?_) (rowsC_one _) (by unfold maxLen; omega) (by omega) ?_; (cases had; rw [Addr.add_lit, Nat.zero_add]; exact (HB.out.ownCell 0 rfl j (by have := (List.getElem?_eq_some_iff.1 hj).1; rw [rowsC_len] at this; exact this)).trans hj))
            | fail)
          intro A5 c5 w5 S3
          have HS5 : Hid (RA w A5 (98 + 2 * n + 1) c5 w5) := Lib.hid (by
            have h := ((S3.drop 1).drop 1).drop 1
            have e : opR.take (98 + 2 * n + 1) = opR.take (98 + 2 * n) ++ (grpR [127 + n] [([68, 85, 80] ++ dig n)] 3 n (n + 1)) := take_one (rent_dup ⟨n, by omega⟩ hn1)
            unfold RA
            rw [e, rowsC_app]
            exact h)
          clear S3 HB
          have HA1 : Hid (St empH w none_ empH _ [blk w5.heap.size (.cells #[.int .i64 (143 + n : Int)] 3), own 113 5 (.slice A5 (98 + 2 * n + 1) c5) (98 + 2 * n + 1) (rowsC (opR.take (98 + 2 * n + 1)))]) := Lib.hid (HS5.out.alloc (.cells #[.int .i64 (143 + n : Int)] 3))
          go_wp2_with fail
          refine (HDG.out _).mono ?_
          rintro e w3s ⟨rfl, hb3⟩
          have HA2 := Lib.hid ((HA1.out.grow hb3).alloc (.cells #[.string ((⟨#[83, 87, 65, 80]⟩ : ByteArray) ++ bs (dig n))] 9))
          clear HA1 hb3
          have HG : Hid (Calls Tryd.prog 82 #[.slice (some ⟨w5.heap.size, 0, none⟩) 1 1, .slice (some ⟨w3s.heap.size, 0, none⟩) 1 1, .int .u64 3, .int .i64 ((n : Int) + 1), .int .i64 ((n : Int) + 1)] (w3s.alloc (.cells #[.string ((⟨#[83, 87, 65, 80]⟩ : ByteArray) ++ bs (dig n))] 9)) (RowsP (grpR [143 + n] [([83, 87, 65, 80] ++ dig n)] 3 (n + 1) (n + 1)) (w3s.alloc (.cells #[.string ((⟨#[83, 87, 65, 80]⟩ : ByteArray) ++ bs (dig n))] 9)))) := Lib.hid (by
            have hn : (⟨#[83, 87, 65, 80]⟩ : ByteArray) ++ bs (dig n) = bs ([83, 87, 65, 80] ++ dig n) := bs_cat [83, 87, 65, 80] (dig n)
            have h0 := HA2.out.blk_at 0 rfl
            have h1 := HA2.out.blk_at 1 rfl
            rw [hn] at h0 h1 ⊢
            exact group_any [143 + n] [([83, 87, 65, 80] ++ dig n)] 3 (n + 1) (n + 1) rfl (by simp) _ _ _ h1 h0)
          go_wp2_with fail
          refine HG.out.mono ?_
          rintro e w4s ⟨v, rfl, S2⟩
          obtain ⟨A2, c2, rfl⟩ := own_slice S2 0 rfl
          obtain ⟨g2, rfl, _⟩ := S2.ownForm 0 rfl (by simp [grpR])
          have HB := Lib.hid (HA2.out.more S2)
          clear HA2 HG S2
          go_wp2_with (first
            | (at_builtin; refine wpList_append_any 3 113 HB.out rfl rfl (.tmp 141) (.tmp 153) 110 rfl i0 _ 48 Tryd.underlying110 hi0 hz0 hz1 hz2 rfl (by decide) rfl (some ⟨g2, 0, none⟩) 1 c2 (rowsC (grpR [143 + n] [([83, 87, 65, 80] ++ dig n)] 3 (n + 1) (n + 1))) rfl (fun h => by cases h) (by rw [rowsC_len]; rfl) (fun ad had j u hj => ?_) (rowsC_one _) (by unfold maxLen; omega) (by omega) ?_; (cases had; rw [Addr.add_lit, Nat.zero_add]; exact (HB.out.ownCell 0 rfl j (by have := (List.getElem?_eq_some_iff.1 hj).1; rw [rowsC_len] at this; exact this)).trans hj))
            | fail)
          intro A5s c5s w5s S3
          have HS5s : Hid (RA w A5s (98 + 2 * n + 1 + 1) c5s w5s) := Lib.hid (by
            have h := ((S3.drop 1).drop 1).drop 1
            have e : opR.take (98 + 2 * n + 1 + 1) = opR.take (98 + 2 * n + 1) ++ (grpR [143 + n] [([83, 87, 65, 80] ++ dig n)] 3 (n + 1) (n + 1)) := take_one (rent_swap ⟨n, by omega⟩ hn1)
            unfold RA
            rw [e, rowsC_app]
            exact h)
          clear S3 HB
          go_wp2_with fail
          go_roundw
          case rel => exact ⟨n + 1, by go_num, by omega, by omega, A5s, c5s, rfl, HS5s⟩
          case measure => simp [intOf]; omega
        · obtain rfl : n = 17 := by omega
          rw [show ((17 : Nat) : Int) = 17 from rfl]
          have HSL : Hid (RA w A (132 + 0) c wq) := HS
          clear HS
          go_wp2_with fail
          go_loopw [1, 4] (fun v z wr => ∃ n : Nat, z = .int .i64 n ∧ n ≤ 5 ∧ ∃ A c, v = .slice A (132 + n) c ∧ Hid (RA w A (132 + n) c wr)) (fun _ z _ => 5 - (intOf z).toNat)
          case atStart => exact ⟨0, rfl, by omega, _, _, rfl, HSL⟩
          case round =>
            clear HSL
            obtain ⟨n, rfl, hn2, A, c, rfl, HS⟩ := hrel
            obtain ⟨wt, rfl⟩ : ∃ wt : World, wt = wr := ⟨_, rfl⟩
            by_cases hlt : n ≤ 4
            · have HDG := Lib.hid (digits_any n (by omega))
              have hcat := cat_fits 3 n (by decide)
              have HA1 : Hid (St empH w none_ empH _ [blk wt.heap.size (.cells #[.int .i64 (160 + n : Int)] 3), own 113 5 (.slice A (132 + n) c) (132 + n) (rowsC (opR.take (132 + n)))]) := Lib.hid (HS.out.alloc (.cells #[.int .i64 (160 + n : Int)] 3))
              go_wp2_with fail
              refine (HDG.out _).mono ?_
              rintro e w3 ⟨rfl, hb3⟩
              have HA2 := Lib.hid ((HA1.out.grow hb3).alloc (.cells #[.string ((⟨#[76, 79, 71]⟩ : ByteArray) ++ bs (dig n))] 9))
              clear HA1 hb3
              have HG : Hid (Calls Tryd.prog 82 #[.slice (some ⟨wt.heap.size, 0, none⟩) 1 1, .slice (some ⟨w3.heap.size, 0, none⟩) 1 1, .int .u64 375, .int .i64 ((n : Int) + 2), .int .i64 (0)] (w3.alloc (.cells #[.string ((⟨#[76, 79, 71]⟩ : ByteArray) ++ bs (dig n))] 9)) (RowsP (grpR [160 + n] [([76, 79, 71] ++ dig n)] 375 (n + 2) 0) (w3.alloc (.cells #[.string ((⟨#[76, 79, 71]⟩ : ByteArray) ++ bs (dig n))] 9)))) := Lib.hid (by
                have hn : (⟨#[76, 79, 71]⟩ : ByteArray) ++ bs (dig n) = bs ([76, 79, 71] ++ dig n) := bs_cat [76, 79, 71] (dig n)
                have h0 := HA2.out.blk_at 0 rfl
                have h1 := HA2.out.blk_at 1 rfl
                rw [hn] at h0 h1 ⊢
                exact group_any [160 + n] [([76, 79, 71] ++ dig n)] 375 (n + 2) 0 rfl (by simp) _ _ _ h1 h0)
              go_wp2_with fail
              refine HG.out.mono ?_
              rintro e w4 ⟨v, rfl, S2⟩
              obtain ⟨A2, c2, rfl⟩ := own_slice S2 0 rfl
              obtain ⟨g2, rfl, _⟩ := S2.ownForm 0 rfl (by simp [grpR])
              have HB := Lib.hid (HA2.out.more S2)
              clear HA2 HG S2
              go_wp2_with (first
                | (at_builtin; refine wpList_append_any 3 113 HB.out rfl rfl (.tmp 159) (.tmp 169) 110 rfl i0 _ 48 Tryd.underlying110 hi0 hz0 hz1 hz2 rfl (by decide) rfl (some ⟨g2, 0, none⟩) 1 c2 (rowsC (grpR [160 + n] [([76, 79, 71] ++ dig n)] 375 (n + 2) 0)) rfl (fun h => by cases h) (by rw [rowsC_len]; rfl) (fun ad had j u hj => ?_) (rowsC_one _) (by unfold maxLen; omega) (by omega) ?_; (cases had; rw [Addr.add_lit, Nat.zero_add]; exact (HB.out.ownCell 0 rfl j (by have := (List.getElem?_eq_some_iff.1 hj).1; rw [rowsC_len] at this; exact this)).trans hj))
                | fail)
              intro A5 c5 w5 S3
              have HS5 : Hid (RA w A5 (132 + n + 1) c5 w5) := Lib.hid (by
                have h := ((S3.drop 1).drop 1).drop 1
                have e : opR.take (132 + n + 1) = opR.take (132 + n) ++ (grpR [160 + n] [([76, 79, 71] ++ dig n)] 375 (n + 2) 0) := take_one (rent_log ⟨n, by omega⟩)
                unfold RA
                rw [e, rowsC_app]
                exact h)
              clear S3 HB
              go_wp2_with fail
              go_roundw
              case rel => exact ⟨n + 1, by go_num, by omega, A5, c5, rfl, HS5⟩
              case measure => simp [intOf]; omega
            · obtain rfl : n = 5 := by omega
              rw [show ((5 : Nat) : Int) = 5 from rfl]
              have HS : Hid (RA w A 137 c wt) := HS
              have HA200 : Hid (St empH w none_ empH _ [blk (wt.heap.size + 1) (.cells ([[67, 82, 69, 65, 84, 69]].map fun s => Value.string (bs s)).toArray 9), blk wt.heap.size (.cells ([240].map intV).toArray 3), own 113 5 (.slice A 137 c) 137 (rowsC (opR.take 137))]) := Lib.hid ((HS.out.alloc (.cells ([240].map intV).toArray 3)).alloc' (.cells ([[67, 82, 69, 65, 84, 69]].map fun s => Value.string (bs s)).toArray 9) (wt.heap.size + 1) (by simp))
              have HG := Lib.hid (group_any [240] [[67, 82, 69, 65, 84, 69]] 32000 3 1 rfl (by decide) _ wt.heap.size (wt.heap.size + 1) (HA200.out.blk_at 1 rfl) (HA200.out.blk_at 0 rfl))
              go_wp2_with fail
              refine HG.out.mono ?_
              rintro e w2 ⟨v, rfl, S2⟩
              obtain ⟨A2, c2, rfl⟩ := own_slice S2 0 rfl
              obtain ⟨g2, rfl, _⟩ := S2.ownForm 0 rfl (by decide)
              have HB := Lib.hid (HA200.out.more S2)
              clear HS HA200 HG S2
              go_wp2_with (first
                | (at_builtin; refine wpList_append_any 3 113 HB.out rfl rfl (.tmp 171) (.tmp 174) 110 rfl i0 _ 48 Tryd.underlying110 hi0 hz0 hz1 hz2 rfl (by decide) rfl (some ⟨g2, 0, none⟩) 1 c2 (rowsC (grpR [240] [[67, 82, 69, 65, 84, 69]] 32000 3 1)) rfl (fun h => by cases h) (by rw [rowsC_len]; rfl) (fun ad had j u hj => ?_) (rowsC_one _) (by unfold maxLen; omega) (by omega) ?_; (cases had; rw [Addr.add_lit, Nat.zero_add]; exact (HB.out.ownCell 0 rfl j (by have := (List.getElem?_eq_some_iff.1 hj).1; rw [rowsC_len] at this; exact this)).trans hj))
                | fail)
              intro A200 c200 w200' S3
              have HS : Hid (RA w A200 138 c200 w200') := Lib.hid (by
                have h := ((S3.drop 1).drop 1).drop 1
                have e : opR.take 138 = opR.take 137 ++ (grpR [240] [[67, 82, 69, 65, 84, 69]] 32000 3 1) := by decide +kernel
                unfold RA
                rw [e, rowsC_app]
                exact h)
              clear S3 HB
              have HA201 : Hid (St empH w none_ empH _ [blk (w200'.heap.size + 1) (.cells ([[67, 82, 69, 65, 84, 69, 50]].map fun s => Value.string (bs s)).toArray 9), blk w200'.heap.size (.cells ([245].map intV).toArray 3), own 113 5 (.slice A200 138 c200) 138 (rowsC (opR.take 138))]) := Lib.hid ((HS.out.alloc (.cells ([245].map intV).toArray 3)).alloc' (.cells ([[67, 82, 69, 65, 84, 69, 50]].map fun s => Value.string (bs s)).toArray 9) (w200'.heap.size + 1) (by simp))
              have HG := Lib.hid (group_any [245] [[67, 82, 69, 65, 84, 69, 50]] 32000 4 1 rfl (by decide) _ w200'.heap.size (w200'.heap.size + 1) (HA201.out.blk_at 1 rfl) (HA201.out.blk_at 0 rfl))
              go_wp2_with fail
              refine HG.out.mono ?_
              rintro e w2 ⟨v, rfl, S2⟩
              obtain ⟨A2, c2, rfl⟩ := own_slice S2 0 rfl
              obtain ⟨g2, rfl, _⟩ := S2.ownForm 0 rfl (by decide)
              have HB := Lib.hid (HA201.out.more S2)
              clear HS HA201 HG S2
              go_wp2_with (first
                | (at_builtin; refine wpList_append_any 3 113 HB.out rfl rfl (.tmp 176) (.tmp 179) 110 rfl i0 _ 48 Tryd.underlying110 hi0 hz0 hz1 hz2 rfl (by decide) rfl (some ⟨g2, 0, none⟩) 1 c2 (rowsC (grpR [245] [[67, 82, 69, 65, 84, 69, 50]] 32000 4 1)) rfl (fun h => by cases h) (by rw [rowsC_len]; rfl) (fun ad had j u hj => ?_) (rowsC_one _) (by unfold maxLen; omega) (by omega) ?_; (cases had; rw [Addr.add_lit, Nat.zero_add]; exact (HB.out.ownCell 0 rfl j (by have := (List.getElem?_eq_some_iff.1 hj).1; rw [rowsC_len] at this; exact this)).trans hj))
                | fail)
              intro A201 c201 w201' S3
              have HS : Hid (RA w A201 139 c201 w201') := Lib.hid (by
                have h := ((S3.drop 1).drop 1).drop 1
                have e : opR.take 139 = opR.take 138 ++ (grpR [245] [[67, 82, 69, 65, 84, 69, 50]] 32000 4 1) := by decide +kernel
                unfold RA
                rw [e, rowsC_app]
                exact h)
              clear S3 HB
              have HA202 : Hid (St empH w none_ empH _ [blk (w201'.heap.size + 1) (.cells ([[67, 65, 76, 76], [67, 65, 76, 76, 67, 79, 68, 69]].map fun s => Value.string (bs s)).toArray 9), blk w201'.heap.size (.cells ([241, 242].map intV).toArray 3), own 113 5 (.slice A201 139 c201) 139 (rowsC (opR.take 139))]) := Lib.hid ((HS.out.alloc (.cells ([241, 242].map intV).toArray 3)).alloc' (.cells ([[67, 65, 76, 76], [67, 65, 76, 76, 67, 79, 68, 69]].map fun s => Value.string (bs s)).toArray 9) (w201'.heap.size + 1) (by simp))
              have HG := Lib.hid (group_any [241, 242] [[67, 65, 76, 76], [67, 65, 76, 76, 67, 79, 68, 69]] 0 7 1 rfl (by decide) _ w201'.heap.size (w201'.heap.size + 1) (HA202.out.blk_at 1 rfl) (HA202.out.blk_at 0 rfl))
              go_wp2_with fail
              refine HG.out.mono ?_
              rintro e w2 ⟨v, rfl, S2⟩
              obtain ⟨A2, c2, rfl⟩ := own_slice S2 0 rfl
              obtain ⟨g2, rfl, _⟩ := S2.ownForm 0 rfl (by decide)
              have HB := Lib.hid (HA202.out.more S2)
              clear HS HA202 HG S2
              go_wp2_with (first
                | (at_builtin; refine wpList_append_any 3 113 HB.out rfl rfl (.tmp 181) (.tmp 184) 110 rfl i0 _ 48 Tryd.underlying110 hi0 hz0 hz1 hz2 rfl (by decide) rfl (some ⟨g2, 0, none⟩) 2 c2 (rowsC (grpR [241, 242] [[67, 65, 76, 76], [67, 65, 76, 76, 67, 79, 68, 69]] 0 7 1)) rfl (fun h => by cases h) (by rw [rowsC_len]; rfl) (fun ad had j u hj => ?_) (rowsC_one _) (by unfold maxLen; omega) (by omega) ?_; (cases had; rw [Addr.add_lit, Nat.zero_add]; exact (HB.out.ownCell 0 rfl j (by have := (List.getElem?_eq_some_iff.1 hj).1; rw [rowsC_len] at this; exact this)).trans hj))
                | fail)
              intro A202 c202 w202' S3
              have HS : Hid (RA w A202 141 c202 w202') := Lib.hid (by
                have h := ((S3.drop 1).drop 1).drop 1
                have e : opR.take 141 = opR.take 139 ++ (grpR [241, 242] [[67, 65, 76, 76], [67, 65, 76, 76, 67, 79, 68, 69]] 0 7 1) := by decide +kernel
                unfold RA
                rw [e, rowsC_app]
                exact h)
              clear S3 HB
              have HA203 : Hid (St empH w none_ empH _ [blk (w202'.heap.size + 1) (.cells ([[68, 69, 76, 69, 71, 65, 84, 69, 67, 65, 76, 76], [83, 84, 65, 84, 73, 67, 67, 65, 76, 76]].map fun s => Value.string (bs s)).toArray 9), blk w202'.heap.size (.cells ([244, 250].map intV).toArray 3), own 113 5 (.slice A202 141 c202) 141 (rowsC (opR.take 141))]) := Lib.hid ((HS.out.alloc (.cells ([244, 250].map intV).toArray 3)).alloc' (.cells ([[68, 69, 76, 69, 71, 65, 84, 69, 67, 65, 76, 76], [83, 84, 65, 84, 73, 67, 67, 65, 76, 76]].map fun s => Value.string (bs s)).toArray 9) (w202'.heap.size + 1) (by simp))
              have HG := Lib.hid (group_any [244, 250] [[68, 69, 76, 69, 71, 65, 84, 69, 67, 65, 76, 76], [83, 84, 65, 84, 73, 67, 67, 65, 76, 76]] 0 6 1 rfl (by decide) _ w202'.heap.size (w202'.heap.size + 1) (HA203.out.blk_at 1 rfl) (HA203.out.blk_at 0 rfl))
              go_wp2_with fail
              refine HG.out.mono ?_
              rintro e w2 ⟨v, rfl, S2⟩
              obtain ⟨A2, c2, rfl⟩ := own_slice S2 0 rfl
              obtain ⟨g2, rfl, _⟩ := S2.ownForm 0 rfl (by decide)
              have HB := Lib.hid (HA203.out.more S2)
              clear HS HA203 HG S2
              go_wp2_with (first
                | (at_builtin; refine wpList_append_any 3 113 HB.out rfl rfl (.tmp 186) (.tmp 189) 110 rfl i0 _ 48 Tryd.underlying110 hi0 hz0 hz1 hz2 rfl (by decide) rfl (some ⟨g2, 0, none⟩) 2 c2 (rowsC (grpR [244, 250] [[68, 69, 76, 69, 71, 65, 84, 69, 67, 65, 76, 76], [83, 84, 65, 84, 73, 67, 67, 65, 76, 76]] 0 6 1)) rfl (fun h => by cases h) (by rw [rowsC_len]; rfl) (fun ad had j u hj => ?_) (rowsC_one _) (by unfold maxLen; omega) (by omega) ?_; (cases had; rw [Addr.add_lit, Nat.zero_add]; exact (HB.out.ownCell 0 rfl j (by have := (List.getElem?_eq_some_iff.1 hj).1; rw [rowsC_len] at this; exact this)).trans hj))
                | fail)
              intro A203 c203 w203' S3
              have HS : Hid (RA w A203 143 c203 w203') := Lib.hid (by
                have h := ((S3.drop 1).drop 1).drop 1
                have e : opR.take 143 = opR.take 141 ++ (grpR [244, 250] [[68, 69, 76, 69, 71, 65, 84, 69, 67, 65, 76, 76], [83, 84, 65, 84, 73, 67, 67, 65, 76, 76]] 0 6 1) := by decide +kernel
                unfold RA
                rw [e, rowsC_app]
                exact h)
              clear S3 HB
              have HA204 : Hid (St empH w none_ empH _ [blk (w203'.heap.size + 1) (.cells ([[83, 69, 76, 70, 68, 69, 83, 84, 82, 85, 67, 84]].map fun s => Value.string (bs s)).toArray 9), blk w203'.heap.size (.cells ([255].map intV).toArray 3), own 113 5 (.slice A203 143 c203) 143 (rowsC (opR.take 143))]) := Lib.hid ((HS.out.alloc (.cells ([255].map intV).toArray 3)).alloc' (.cells ([[83, 69, 76, 70, 68, 69, 83, 84, 82, 85, 67, 84]].map fun s => Value.string (bs s)).toArray 9) (w203'.heap.size + 1) (by simp))
              have HG := Lib.hid (group_any [255] [[83, 69, 76, 70, 68, 69, 83, 84, 82, 85, 67, 84]] 5000 1 0 rfl (by decide) _ w203'.heap.size (w203'.heap.size + 1) (HA204.out.blk_at 1 rfl) (HA204.out.blk_at 0 rfl))
              go_wp2_with fail
              refine HG.out.mono ?_
              rintro e w2 ⟨v, rfl, S2⟩
              obtain ⟨A2, c2, rfl⟩ := own_slice S2 0 rfl
              obtain ⟨g2, rfl, _⟩ := S2.ownForm 0 rfl (by decide)
              have HB := Lib.hid (HA204.out.more S2)
              clear HS HA204 HG S2
              go_wp2_with (first
                | (at_builtin; refine wpList_append_any 3 113 HB.out rfl rfl (.tmp 191) (.tmp 194) 110 rfl i0 _ 48 Tryd.underlying110 hi0 hz0 hz1 hz2 rfl (by decide) rfl (some ⟨g2, 0, none⟩) 1 c2 (rowsC (grpR [255] [[83, 69, 76, 70, 68, 69, 83, 84, 82, 85, 67, 84]] 5000 1 0)) rfl (fun h => by cases h) (by rw [rowsC_len]; rfl) (fun ad had j u hj => ?_) (rowsC_one _) (by unfold maxLen; omega) (by omega) ?_; (cases had; rw [Addr.add_lit, Nat.zero_add]; exact (HB.out.ownCell 0 rfl j (by have := (List.getElem?_eq_some_iff.1 hj).1; rw [rowsC_len] at this; exact this)).trans hj))
                | fail)
              intro A204 c204 w204' S3
              have HS : Hid (RA w A204 144 c204 w204') := Lib.hid (by
                have h := ((S3.drop 1).drop 1).drop 1
                have e : opR.take 144 = opR.take 143 ++ (grpR [255] [[83, 69, 76, 70, 68, 69, 83, 84, 82, 85, 67, 84]] 5000 1 0) := by decide +kernel
                unfold RA
                rw [e, rowsC_app]
                exact h)
              clear S3 HB
              have HF : Hid (St empH w none_ empH w204' [own 113 5 (.slice A204 144 c204) 144 (rowsC opR)]) := Lib.hid (by
                have h := HS.out
                unfold RA at h
                rwa [show opR.take 144 = opR from List.take_of_length_le (by rw [opR_len]; exact Nat.le_refl _)] at h)
              go_wp2_with fail
              go_ret
              exact ⟨_, rfl, by rw [opR_len]; exact HF.out⟩
end Go.Proofs.YtfphlkkhpccpnaaDoor
