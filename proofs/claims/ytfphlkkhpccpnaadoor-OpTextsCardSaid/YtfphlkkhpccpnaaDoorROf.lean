/-
  The document's chapter 12: Of, Code.
-/
import Derived.Test.YtfphlkkhpccpnaaDoorRAll
import Derived.Test.YtfphlkkhpccpnaaDoorOpEx
namespace Go.Proofs.YtfphlkkhpccpnaaDoor
open Go.RowKit Go.Proofs K
set_option linter.unusedVariables false

theorem zeroInfoR (w : World) : (zeroValue 60).run Tryd.prog w = .ok (.agg opZ) w := by kernel_rfl
theorem szInfoR : (Tryd.prog.info? 60).map (·.size) = some 4 := by kernel_rfl
theorem row_cell {H0 H : Hs} {w0 w : World} {X : Nat → Prop} {ps : List Hp} {g c : Nat} (S : St H0 w0 X H w ps) (i : Nat) (hi : ps[i]? = some (own 113 5 (.slice (some ⟨g, 0, none⟩) 144 c) 144 (rowsC opR))) {k j : Nat} (hk : k < opR.length) (hj : j < 5) : w.cell? ⟨g, k * 5 + j, none⟩ = (rowC opR[k])[j]? := by
  have hl := opR_len
  rw [S.ownCell i hi (k * 5 + j) (by omega)]
  exact flat_get (f := rowC) (s := 5) (fun _ => rfl) (List.getElem?_eq_getElem hk) hj
theorem find_at {α : Type} {l : List α} {p : α → Bool} {k : Nat} {x : α} (h : (l.take k).find? p = none) (hk : l[k]? = some x) (hp : p x = true) : l.find? p = some x := by
  obtain ⟨hkl, rfl⟩ := List.getElem?_eq_some_iff.1 hk
  have e : l = l.take k ++ (l[k] :: l.drop (k + 1)) := by rw [← List.drop_eq_getElem_cons hkl, List.take_append_drop]
  have h2 : (l.take k ++ (l[k] :: l.drop (k + 1))).find? p = some l[k] := by rw [List.find?_append, h, Option.none_or, List.find?_cons, hp]
  exact (congrArg (fun m => m.find? p) e).trans h2
theorem find_more {α : Type} {l : List α} {p : α → Bool} {k : Nat} {x : α} (h : (l.take k).find? p = none) (hk : l[k]? = some x) (hp : p x = false) : (l.take (k + 1)).find? p = none := by
  rw [List.take_add_one, hk, List.find?_append, h, Option.none_or]
  simp [hp]
set_option maxRecDepth 100000 in
set_option maxHeartbeats 4000000 in
theorem rofop_any (c : Nat) (hc : c < 256) (w : World) : Calls Tryd.prog 24 #[.int .u8 c] w (OfP c w) := by
  have HR : Hid (opR.find? (fun e => e.1 == c) = opOf c) := Lib.hid (opR_of ⟨c, hc⟩)
  have HS := Lib.hid ((St.start (ag_emp w)).alloc (.cells opZ 60))
  go_enter Tryd.func24, Tryd.ntmps24
  go_wp2_with fail
  refine (rall_any _).mono ?_
  rintro e w1 ⟨v, rfl, S1⟩
  rw [opR_len] at S1
  obtain ⟨A, cp, rfl⟩ := own_slice S1 0 rfl
  obtain ⟨g, rfl, _⟩ := S1.ownForm 0 rfl (by decide)
  have HS1 := Lib.hid (HS.out.more S1)
  clear HS S1
  go_wp2_with fail
  have hlen := opR_len
  go_loop [5] (fun z => ∃ k : Nat, z = .int .i64 k ∧ k ≤ 144 ∧ Hid ((opR.take k).find? (fun e => e.1 == c) = none)) (fun z => 144 - (intOf z).toNat)
  case atStart => exact ⟨0, rfl, by omega, Lib.hid rfl⟩
  case round =>
    obtain ⟨k, rfl, hk, HN⟩ := hrel
    by_cases hlt : k < 144
    · have hkl : k < opR.length := by omega
      have HE := Lib.hid (List.getElem?_eq_getElem hkl)
      have c0 : w1.cell? ⟨g, k * 5, none⟩ = some (.int .i64 opR[k].1) := row_cell HS1.out 0 rfl hkl (j := 0) (by decide)
      have HG : Hid (w1.rangeAt g (k * 5 + 1) (opC opR[k]).toList) := Lib.hid (by
        intro j u hj
        have hj4 : j < 4 := (List.getElem?_eq_some_iff.1 hj).1
        rw [show k * 5 + 1 + j = k * 5 + (1 + j) by omega, row_cell HS1.out 0 rfl hkl (j := 1 + j) (by omega), ← hj, Nat.add_comm 1 j]
        rfl)
      clear hlen
      generalize opR[k] = en at c0 HG HE
      by_cases he : en.1 = c
      · have hb : ((en.1 : Int) == (c : Int)) = true := by rw [beq_iff_eq]; omega
        have HO := Lib.hid (HR.out.symm.trans (find_at HN.out HE.out (by simpa using he)))
        clear HN HE he hkl
        go_wp2_with (first
          | (refine wpList_load_mid rfl 60 (.tmp 24) rfl g (k * 5 + 1) rfl (opC en).toList _ HG.out Tryd.underlying60 rfl szInfoR ?_)
          | (refine wpList_store_st (cs := opC en) 1 HS1.out rfl rfl 60 (.tmp 2) (.tmp 25) rfl rfl rfl szInfoR rfl (by simp [opC, Value.oneCell']) ?_)
          | fail)
        intro w2 S2
        go_wp2_with fail
        refine post_cell2 0 S2 rfl Tryd.results24 rfl _ Tryd.underlying60 rfl szInfoR rfl ⟨?_, S2.below⟩
        unfold opD
        rw [HO.out]
        rfl
      · have hb : ((en.1 : Int) == (c : Int)) = false := by rw [beq_eq_false_iff_ne]; omega
        have HF2 := Lib.hid (find_more HN.out HE.out (by simpa using he))
        clear HN HE HG he hkl
        go_wp2_with fail
        go_round
        case rel => exact ⟨k + 1, by go_num, by omega, HF2⟩
        case measure => simp [intOf]; omega
    · obtain rfl : k = 144 := by omega
      have HO : Hid (opOf c = none) := Lib.hid (by
        have := HN.out
        rwa [List.take_of_length_le (by omega), HR.out] at this)
      clear HN
      go_wp2_with (first
        | (refine wpList_store_st (cs := opZ) 1 HS1.out rfl rfl 60 (.tmp 2) (.tmp 26) rfl rfl rfl szInfoR rfl (by simp [opZ, Value.oneCell']) ?_)
        | fail)
      intro w2 S2
      go_wp2_with fail
      refine post_cell2 0 S2 rfl Tryd.results24 rfl _ Tryd.underlying60 rfl szInfoR rfl ⟨?_, S2.below⟩
      unfold opD
      rw [HO.out]
      rfl
theorem opR_sub : ∀ e ∈ opR, e ∈ opL := by decide +kernel
theorem opL_sub : ∀ e ∈ opL, e ∈ opR := by decide +kernel
theorem opR_named (s : List UInt8) : opR.find? (fun e => e.2.1 == s) = opNamed s := by
  cases h : opR.find? (fun e => e.2.1 == s) with
  | none =>
    symm
    unfold opNamed
    rw [List.find?_eq_none] at h ⊢
    exact fun e he => h e (opL_sub e he)
  | some e =>
    have h1 := opNamed_of (opR_sub e (List.mem_of_find?_eq_some h))
    have h2 := List.find?_some h
    rw [beq_iff_eq] at h2
    rw [h2] at h1
    exact h1.symm
set_option maxRecDepth 100000 in
set_option maxHeartbeats 4000000 in
theorem rcodeop_any (s : List UInt8) (w : World) : Calls Tryd.prog 26 #[.string (bs s)] w (CodeP s w) := by
  have HR : Hid (opR.find? (fun e => e.2.1 == s) = opNamed s) := Lib.hid (opR_named s)
  have HB8 := Lib.hid opL_bytes
  go_enter Tryd.func26, Tryd.ntmps26
  go_wp2_with fail
  refine (rall_any _).mono ?_
  rintro e w1 ⟨v, rfl, S1⟩
  rw [opR_len] at S1
  obtain ⟨A, cp, rfl⟩ := own_slice S1 0 rfl
  obtain ⟨g, rfl, _⟩ := S1.ownForm 0 rfl (by decide)
  have HS1 := Lib.hid S1
  clear S1
  go_wp2_with fail
  have hlen := opR_len
  go_loop [5] (fun z => ∃ k : Nat, z = .int .i64 k ∧ k ≤ 144 ∧ Hid ((opR.take k).find? (fun e => e.2.1 == s) = none)) (fun z => 144 - (intOf z).toNat)
  case atStart => exact ⟨0, rfl, by omega, Lib.hid rfl⟩
  case round =>
    obtain ⟨k, rfl, hk, HN⟩ := hrel
    by_cases hlt : k < 144
    · have hkl : k < opR.length := by omega
      have HE := Lib.hid (List.getElem?_eq_getElem hkl)
      have c0 : w1.cell? ⟨g, k * 5, none⟩ = some (.int .i64 opR[k].1) := row_cell HS1.out 0 rfl hkl (j := 0) (by decide)
      have c1 : w1.cell? ⟨g, k * 5 + 1, none⟩ = some (.string (bs opR[k].2.1)) := row_cell HS1.out 0 rfl hkl (j := 1) (by decide)
      have h8 : opR[k].1 < 256 := HB8.out _ (opR_sub _ (List.getElem_mem hkl))
      clear hlen
      generalize opR[k] = en at c0 c1 HE h8
      by_cases he : en.2.1 = s
      · have hb : ((bs en.2.1).toList == (bs s).toList) = true := by rw [he]; simp
        have HO := Lib.hid (HR.out.symm.trans (find_at HN.out HE.out (by simpa using he)))
        clear HN HE he hkl
        go_wp2_with fail
        go_ret2
        exact ⟨by unfold nameC; rw [HO.out]; rfl, HS1.out.below⟩
      · have hb : ((bs en.2.1).toList == (bs s).toList) = false := by
          rw [beq_eq_false_iff_ne, ByteArray.toList_eq, ByteArray.toList_eq]
          exact he
        have HF2 := Lib.hid (find_more HN.out HE.out (by simpa using he))
        clear HN HE he hkl
        go_wp2_with fail
        go_round
        case rel => exact ⟨k + 1, by go_num, by omega, HF2⟩
        case measure => simp [intOf]; omega
    · obtain rfl : k = 144 := by omega
      have HO : Hid (opNamed s = none) := Lib.hid (by
        have := HN.out
        rwa [List.take_of_length_le (by omega), HR.out] at this)
      clear HN
      go_wp2_with fail
      go_ret2
      exact ⟨by unfold nameC; rw [HO.out]; rfl, HS1.out.below⟩
end Go.Proofs.YtfphlkkhpccpnaaDoor
