/-
  PoolPlays, walked.
-/
import Derived.Test.YtfphlkkhpccpnaaPlays
namespace Go.Proofs.Ytfphlkkhpccpnaa
open Go.RowKit Go.Proofs K
set_option linter.unusedVariables false

namespace K
open Classical in
/-- A part of a block, as a whole. -/
noncomputable def partOf (w : World) (b q n : Nat) : Option (Array Value) := if h : ∃ cs : Array Value, cs.size = n ∧ ∀ j u, cs[j]? = some u → w.cell? ⟨b, q + j, none⟩ = some u then some h.choose else none
theorem partOf_spec {w : World} {b q n : Nat} {cs : Array Value} (h : partOf w b q n = some cs) : cs.size = n ∧ ∀ j u, cs[j]? = some u → w.cell? ⟨b, q + j, none⟩ = some u := by
  unfold partOf at h
  split at h
  · rename_i he
    cases h
    exact he.choose_spec
  · cases h
theorem partOf_of {w : World} {b q n : Nat} {cs : Array Value} (hn : cs.size = n) (hc : ∀ j u, cs[j]? = some u → w.cell? ⟨b, q + j, none⟩ = some u) : partOf w b q n = some cs := by
  have he : ∃ cs : Array Value, cs.size = n ∧ ∀ j u, cs[j]? = some u → w.cell? ⟨b, q + j, none⟩ = some u := ⟨cs, hn, hc⟩
  unfold partOf
  rw [dif_pos he]
  congr 1
  obtain ⟨h1, h2⟩ := he.choose_spec
  generalize he.choose = ds at h1 h2
  refine Array.ext (by rw [h1, hn]) fun j hj1 hj2 => ?_
  have a1 := h2 j _ (Array.getElem?_eq_getElem hj1)
  have a2 := hc j _ (Array.getElem?_eq_getElem hj2)
  rw [a1] at a2
  exact Option.some.inj a2
noncomputable def loadPart (P : Program) (n : Nat) (ev : Operand → Value) (o : Oper) (w : World) : Value → Result Next
  | .pointer (some ⟨b, q, none⟩) => match partOf w b q n with | some cs => .ok (.value (.agg cs)) w | none => (slowExec ev o).run P w
  | _ => (slowExec ev o).run P w
theorem exec_load_part {P : Program} (ty : TypeId) (d : TypeDesc) (n : Nat) (hu : P.underlying ty = some d) (hd : (match d with | .struct _ | .array _ _ => true | _ => false) = true) (hs : (P.info? ty).map (·.size) = some n)
    (ev : Operand → Value) (dst : Option Tmp) (x : Operand) (t : TypeId) (pos : String) (after : Array Edge) (g : Option (Nat × Bool)) (w : World) :
    (execOp ev ⟨dst, .load ty x, t, pos, after, g⟩).run P w = loadPart P n ev ⟨dst, .load ty x, t, pos, after, g⟩ w (ev x) := by
  unfold loadPart slowExec
  split
  · rename_i b q hx
    cases hr : partOf w b q n with
    | none => rfl
    | some cs =>
      obtain ⟨h1, h2⟩ := partOf_spec hr
      unfold execOp
      simp only [hx, Instr.loadAt, Instr.sureAddr, Sem.run_bind, Sem.run_pure, Result.andThen_ok, run_loadVar_at (P := P) w ⟨b, q, none⟩ ty cs d (fun j u hj => by rw [Addr.add_lit]; exact h2 j u hj) hu hd (by rw [hs, h1])]
  · rfl
theorem loadPart_at (P : Program) (n : Nat) (ev : Operand → Value) (o : Oper) (w : World) (b q : Nat) : loadPart P n ev o w (.pointer (some ⟨b, q, none⟩)) =
    match partOf w b q n with | some cs => .ok (.value (.agg cs)) w | none => (slowExec ev o).run P w := rfl
end K
theorem loadTxP (ev : Operand → Value) (dst : Option Tmp) (x : Operand) (t : TypeId) (pos : String) (after : Array Edge) (g : Option (Nat × Bool)) (w : World) : (execOp ev ⟨dst, .load 33 x, t, pos, after, g⟩).run Try.prog w = loadPart Try.prog 19 ev ⟨dst, .load 33 x, t, pos, after, g⟩ w (ev x) :=
  exec_load_part 33 _ 19 Try.underlying33 rfl (by kernel_rfl) ev dst x t pos after g w
theorem part_own {H0 H : Hs} {w0 w : World} {X : Nat → Prop} {ps : List Hp} {g c q n : Nat} {d : List El} (i : Nat) (S : St H0 w0 X H w ps) (hi : ps[i]? = some (own 33 19 (.slice (some ⟨g, 0, none⟩) n c) n (d.flatMap encEl))) {cs : Array Value} (hn : cs.size = 19) (hcs : ∀ j u, cs[j]? = some u → (d.flatMap encEl)[q + j]? = some u) : partOf w g q 19 = some cs :=
  partOf_of hn fun j u hj => by
    have h1 := hcs j u hj
    have hlen := (S.own_at i hi).1
    have hlt := (List.getElem?_eq_some_iff.1 h1).1
    exact (S.ownCell i hi (q + j) (by omega)).trans h1
attribute [local go_sem ↓] loadTxP
attribute [local go_sem] loadPart_at
set_option maxRecDepth 100000 in
set_option maxHeartbeats 8000000 in
theorem plays_any (l : List Dd) (hl : ∀ u ∈ l, u.fits) (v : Value) (w : World) (hv : RepV (allOf w) v (deedsD l)) :
    Calls Try.prog 5 #[v] w (BoolBelow true w) := by
  obtain ⟨AV, cV, cs, rfl, hnc, hAV, hlen, hr, hd⟩ := hv.sl_inv
  have HR := Lib.hid hr
  have HDD := Lib.hid hd
  have HC := Lib.hid (hd.len.trans hlen)
  have HLF := Lib.hid hl
  clear hv hr hd hlen hAV hl
  go_enter Try.func5, Try.ntmps5
  go_wp2_with fail
  refine (examples_any (allOf w) w (ag_allOf w)).mono ?_
  rintro e w1 ⟨rfl, S1⟩
  have HS1 := Lib.hid S1
  clear S1
  go_wp2_with fail
  refine (new_any (allOf w) w1 HS1.out.ag).mono ?_
  rintro e w2 ⟨p, rfl, S2⟩
  have HS2 := Lib.hid (HS1.out.more S2)
  clear S2 HS1
  have HB0 : Hid (Both [] p w2.heap.size (allOf w) (allOf w) w none_ [] (w2.alloc (.cells #[.slice none 0 0] 49))) := by
    have S3 := ((HS2.out.alloc (refO (.slice none 0 0))).own_nil (e := 33) (size := 19))
    exact ⟨[], [], none, 0, allOf w, Le.refl _, Alike.nil, .nil, (by simp), (S3.pick 1 rfl).pick 2 rfl⟩
  clear HS2
  go_wp2_with fail
  go_loopw [6] (fun i wr => ∃ (k : Nat) (ts : List TxS), i = .int .i64 k ∧ k ≤ 120 ∧ k ≤ l.length ∧ Hid (Good ts) ∧ Hid (Both ts p w2.heap.size (allOf w) (allOf w) w none_ [] wr)) (fun i _ => 120 - (intOf i).toNat)
  case atStart => exact ⟨0, [], rfl, by omega, by omega, Lib.hid good_nil, HB0⟩
  case round =>
    clear HB0
    obtain ⟨k, ts, rfl, hk, hkl, HG, HB⟩ := hrel
    obtain ⟨m, d, A, c, H', hle, hA, hM, hD, S⟩ := HB.out
    have HS : Hid (St (allOf w) w none_ H' wr (poolP p m :: blk w2.heap.size (refO (.slice A d.length c)) :: own 33 19 (.slice A d.length c) d.length (d.flatMap encEl) :: [])) := S
    have HA := Lib.hid hA
    have HM := Lib.hid hM
    have HD := Lib.hid hD
    have HLE := Lib.hid hle
    clear S hA hM hD hle HB
    rcases (by omega : (k < l.length ∧ k < 120) ∨ (k = l.length ∨ (k < l.length ∧ k = 120))) with ⟨h1, h2⟩ | hdone
    · obtain ⟨b, oo, rfl, hb, hcc⟩ := HR.out.cells (ag_allOf w) (by intro e; have := HC.out; rw [e, List.length_nil] at this; omega)
      obtain ⟨s, hsr, hsc⟩ := deed_cells HDD.out h1
      have HU := Lib.hid (HLF.out _ (List.getElem_mem h1))
      have HSR := Lib.hid (hsr.le HLE.out)
      generalize l[k] = u at hsc HU HSR
      have HCC : Hid (∀ j y, (u.cells s)[j]? = some y → wr.cell? (Addr.add ⟨b, oo + k * 23, none⟩ j) = some y) := Lib.hid fun j y hj => by
        rw [Addr.add_lit, HS.out.oldCell b _ hb, Nat.add_assoc]
        exact hcc _ _ (hsc j y hj)
      clear hsr hsc hcc
      go_wp2_with (first
        | (refine wpList_loadAt (ad := ⟨b, oo + k * 23, none⟩) (cs := u.cells s) rfl 52 (.tmp 33) rfl rfl _ Try.underlying52 rfl szDeed HCC.out ?_)
        | fail)
      refine (does_any HS.out HA.out HM.out HD.out HG.out u HU.out s HSR.out).mono ?_
      rintro e w5 ⟨rfl, hB5⟩
      have HG5 := Lib.hid (HG.out.step HU.out)
      have HB5 := Lib.hid (hB5.base HLE.out)
      clear hB5 HS HA HM HD HLE HCC HSR HG
      obtain ⟨m, d, A, c, H', hle, hA, hM, hD, S⟩ := HB5.out
      have HS : Hid (St (allOf w) w none_ H' w5 (poolP p m :: blk w2.heap.size (refO (.slice A d.length c)) :: own 33 19 (.slice A d.length c) d.length (d.flatMap encEl) :: [])) := S
      have HM := Lib.hid hM
      have HA := Lib.hid hA
      have HD := Lib.hid hD
      have HLE := Lib.hid hle
      have c0 : w5.cell? ⟨w2.heap.size, 0, none⟩ = some (.slice A d.length c) := S.cell 1 rfl rfl
      have HLN := Lib.hid hA.len
      clear S hA hM hD hle HB5
      go_wp2_with fail
      go_region_law (first
        | (go_simp; go_at_call 12; (first | refine (len_st HS.out 0 rfl HM.out).mono ?_ | refine (len_st HS.out.drew 0 rfl HM.out).mono ?_); rintro e6 w6 ⟨rfl, S6⟩; rw [HLN.out]; have c6 : w6.cell? ⟨w2.heap.size, 0, none⟩ = some (.slice A d.length c) := S6.cell 1 rfl rfl))
      all_goals
        have HB6 : Hid (Both (u.step ts) p w2.heap.size (allOf w) (allOf w) w none_ [] w6) := Lib.hid ⟨m, d, A, c, H', HLE.out, HA.out, HM.out, HD.out, S6⟩
        clear S6 HS c0 c6
        go_wp2_with fail
        go_roundw
        case rel => exact ⟨k + 1, u.step ts, by go_num, by omega, by omega, HG5, HB6⟩
        case measure => simp [intOf]; omega
    · have HLN := Lib.hid HA.out.len
      clear HR HDD HC HLF
      go_wp2_with fail
      all_goals
        refine (list_st HS.out 0 rfl HM.out HG.out.small HG.out.len).mono ?_
        rintro e w3 ⟨A4, c4, xs, l', H4, rfl, hperm, hsort, hrow, hle4, S4⟩
        have hl' := HA.out.same hperm hsort
        obtain ⟨d2, hd2, rfl, hr2⟩ := hrow.els
        rw [HLN.out] at S4 ⊢
        have HS4 : Hid (St (allOf w) w none_ H4 w3 (own 33 19 (.slice A4 d.length c4) d.length (d2.flatMap encEl) :: poolP p m :: blk w2.heap.size (refO (.slice A d.length c)) :: own 33 19 (.slice A d.length c) d.length (d.flatMap encEl) :: [])) := S4
        have HDE : Hid (d2.map (·.1) = d.map (·.1)) := Lib.hid (hd2.trans hl')
        have HR2 := Lib.hid hr2
        have HD2 : Hid (∀ y ∈ d, RepV H4 y.sl (accsD y.1.acc)) := Lib.hid fun y hy => (HD.out y hy).le hle4
        have HFT : Hid (∀ y ∈ d, y.1.fits) := Lib.hid fun y hy => HG.out.fits _ (HA.out.perm.mem_iff.1 (List.mem_map.2 ⟨y, hy, rfl⟩))
        have hd64 : d.length ≤ 64 := by rw [← HLN.out]; exact HG.out.len
        clear S4 hperm hsort hrow hle4 hl' hd2 hr2 HS HD HG HM HLE hdone
        go_wp2_with fail
        go_loopw [9] (fun i wr => ∃ k2 : Nat, i = .int .i64 k2 ∧ k2 ≤ d.length ∧ Hid (St (allOf w) w none_ H4 wr (own 33 19 (.slice A4 d.length c4) d.length (d2.flatMap encEl) :: poolP p m :: blk w2.heap.size (refO (.slice A d.length c)) :: own 33 19 (.slice A d.length c) d.length (d.flatMap encEl) :: []))) (fun i _ => d.length - (intOf i).toNat)
        case atStart => exact ⟨0, rfl, by omega, HS4⟩
        case round =>
          clear HS4
          obtain ⟨k2, rfl, hk2, HS5⟩ := hrel
          by_cases hlt : k2 < d.length
          · obtain ⟨g1, rfl, _⟩ := HS5.out.ownForm 0 rfl (by omega)
            obtain ⟨g2, rfl, _⟩ := HS5.out.ownForm 3 rfl (by omega)
            have HS6 : Hid (St (allOf w) w none_ H4 wr (own 33 19 (.slice (some ⟨g1, 0, none⟩) d.length c4) d.length (d2.flatMap encEl) :: poolP p m :: blk w2.heap.size (refO (.slice (some ⟨g2, 0, none⟩) d.length c)) :: own 33 19 (.slice (some ⟨g2, 0, none⟩) d.length c) d.length (d.flatMap encEl) :: [])) := HS5
            have c0 : wr.cell? ⟨w2.heap.size, 0, none⟩ = some (.slice (some ⟨g2, 0, none⟩) d.length c) := HS6.out.cell 2 rfl rfl
            have hl2 : d2.length = d.length := by have := congrArg List.length HDE.out; simpa using this
            obtain ⟨⟨t1, z1⟩, h1, m1⟩ := els_at (d := d2) (k := k2) (by omega)
            obtain ⟨⟨t2, z2⟩, h2, m2⟩ := els_at (d := d) (k := k2) hlt
            obtain rfl : t1 = t2 := by
              have := congrArg (fun q : List TxS => q[k2]?) HDE.out
              simp only [List.getElem?_map, h1, h2, Option.map_some, Option.some.injEq] at this
              exact this
            have HE1 := Lib.hid (el_at h1)
            have HE2 := Lib.hid (el_at h2)
            have HV1 := Lib.hid (HR2.out _ m1)
            have HV2 := Lib.hid (HD2.out _ m2)
            have HTF := Lib.hid (HFT.out _ m2)
            have k1 : partOf wr g1 (k2 * 19) 19 = some (t1.cells (El.sl (t1, z1))) := part_own 0 HS6.out rfl rfl HE1.out
            have k1d : partOf wr.drew g1 (k2 * 19) 19 = some (t1.cells (El.sl (t1, z1))) := part_own 0 HS6.out.drew rfl rfl HE1.out
            have k3 : partOf wr g2 (k2 * 19) 19 = some (t1.cells (El.sl (t1, z2))) := part_own 3 HS6.out rfl rfl HE2.out
            have k3d : partOf wr.drew g2 (k2 * 19) 19 = some (t1.cells (El.sl (t1, z2))) := part_own 3 HS6.out.drew rfl rfl HE2.out
            clear h1 h2 m1 m2 hl2 HS5
            go_wp2_with fail
            go_region_law (first
              | (go_simp; go_at_call 14; (first | refine (same_any t1 _ _ H4 _ HS6.out.ag HV1.out HV2.out HTF.out).mono ?_ | refine (same_any t1 _ _ H4 _ HS6.out.drew.ag HV1.out HV2.out HTF.out).mono ?_); rintro e7 w7 ⟨rfl, hb7⟩))
            all_goals
              have HS7 : Hid (St (allOf w) w none_ H4 w7 (own 33 19 (.slice (some ⟨g1, 0, none⟩) d.length c4) d.length (d2.flatMap encEl) :: poolP p m :: blk w2.heap.size (refO (.slice (some ⟨g2, 0, none⟩) d.length c)) :: own 33 19 (.slice (some ⟨g2, 0, none⟩) d.length c) d.length (d.flatMap encEl) :: [])) := Lib.hid (by first | exact HS6.out.grow hb7 | exact HS6.out.drew.grow hb7)
              clear HS6 hb7 c0 k1 k1d k3 k3d
              go_wp2_with fail
              go_roundw
              case rel => exact ⟨k2 + 1, by go_num, by omega, HS7⟩
              case measure => simp [intOf]; omega
          · obtain rfl : k2 = d.length := by omega
            have c0 : wr.cell? ⟨w2.heap.size, 0, none⟩ = some (.slice A d.length c) := HS5.out.cell 2 rfl rfl
            go_wp2_with fail
            go_ret
            exact ⟨rfl, HS5.out.below⟩
end Go.Proofs.Ytfphlkkhpccpnaa
