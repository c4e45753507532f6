/-
  Statements of chapter 9: script, address.
-/
import Derived.Test.YtdnpobjokajigaaGreatDoorNew9
import Derived.Test.YtdnpobjokajigaaGreatDoorR08o
import Derived.Laws.DeepStrings4
namespace Go.Proofs.YtdnpobjokajigaaGreatDoor
open Go.RowKit Go.Proofs K
set_option linter.unusedVariables false
/-- A reply of a script, as it came in. -/
structure TellS where
  id : Int
  n : Int
  a : Int
  b : Int
  c : Int
  d : Int
  code : ByteArray
  e : Int
  f : Int
  g : Int
  h : Int
  kind : Int
  bad : Bool
  raw : ByteArray
def TellS.cells (t : TellS) : List Value := [.int .u64 t.id, .int .u64 t.n, .int .u64 t.a, .int .u64 t.b, .int .u64 t.c, .int .u64 t.d, .string t.code, .int .u64 t.e, .int .u64 t.f, .int .u64 t.g, .int .u64 t.h, .int .u8 t.kind, .bool t.bad, .string t.raw]
structure TellS.ok (t : TellS) : Prop where
  id : W64 t.id
  n : W64 t.n
  a : W64 t.a
  b : W64 t.b
  c : W64 t.c
  d : W64 t.d
  e : W64 t.e
  f : W64 t.f
  g : W64 t.g
  h : W64 t.h
  k0 : 0 ≤ t.kind
  k1 : t.kind < 256
  cs : t.code.size ≤ 140737488355328
def cut60 (s : ByteArray) : ByteArray := s.extract 0 (min (s.size : Int) 60).toNat
def TellS.text (t : TellS) (i : Nat) : ByteArray :=
  if 240 < t.kind then t.raw
  else if t.kind % 2 = 1 then (putReplyR 1 (if t.bad then t.id else (i : Int) + 1) t.n t.a t.b t.c t.d (cut60 t.code) 0 0 0 0).1
  else (putReplyR 2 (if t.bad then t.id else (i : Int) + 1) 0 0 0 0 0 ⟨#[]⟩ t.e t.f t.g t.h).1
def scriptL (l : List TellS) : List ByteArray := (l.take 40).zipIdx.map fun x => x.1.text x.2
theorem cells14 (t : TellS) : t.cells.length = 14 := rfl
section
variable {H0 H : Hs} {w0 w : World} {X : Nat → Prop} {ps : List Hp}
def OwnS (H0 H : Hs) (w0 : World) (X : Nat → Prop) (ps : List Hp) (l : List ByteArray) (e : Ending) (w' : World) : Prop :=
  ∃ A c, e = .returned (.slice A l.length c) ∧ St H0 w0 X H w' (own 9 1 (.slice A l.length c) l.length (strS l) :: ps)
set_option maxRecDepth 100000 in
set_option maxHeartbeats 8000000 in
theorem script_of (S : St H0 w0 X H w ps) (A : Option Addr) (cap : Nat) (l : List TellS) (hr : Row H A (l.flatMap TellS.cells)) (hl : l.length ≤ 140737488355328) (hok : ∀ t ∈ l, t.ok) :
    Calls Tryz.prog 31 #[.slice A l.length cap] w (OwnS H0 H w0 X ps (scriptL l)) := by
  have HS := Lib.hid (S.own_nil (e := 9) (size := 1))
  have HR := Lib.hid hr
  have HOK := Lib.hid hok
  have hlI : (l.length : Int) ≤ 140737488355328 := by omega
  obtain ⟨i0, hi0, hz0, hz1, hz2⟩ := info_parts infoStr
  clear S hr hl hok
  go_enter Tryz.func31, Tryz.ntmps31
  go_wp2_with fail
  go_loopw [3, 4] (fun o i wr => ∃ (n : Nat) (A' : Option Addr) (c' : Nat), i = .int .i64 n ∧ n ≤ l.length ∧ n ≤ 40 ∧ o = .slice A' n c' ∧ Hid (St H0 w0 X H wr (own 9 1 (.slice A' n c') n (strS ((l.take n).zipIdx.map fun x => x.1.text x.2)) :: ps))) (fun _ i _ => 40 - (intOf i).toNat)
  case atStart => exact ⟨0, none, 0, rfl, Nat.zero_le _, by decide, rfl, Lib.hid HS.out⟩
  case round =>
    clear HS
    obtain ⟨n, A', c', rfl, hn, hn40, rfl, HI⟩ := hrel
    by_cases hlt : n < l.length
    · by_cases h40 : n < 40
      · have hltI : (n : Int) < (l.length : Int) := by omega
        have h40I : (n : Int) < 40 := by omega
        obtain ⟨t, ht⟩ : ∃ t, t = l[n] := ⟨_, rfl⟩
        have htn : l[n]? = some t := by rw [ht]; exact List.getElem?_eq_getElem hlt
        have HT := Lib.hid (HOK.out t (by rw [ht]; exact List.getElem_mem hlt))
        obtain ⟨b, o, rfl, hb, hc⟩ := HR.out.cells HI.out.ag (by
          intro e
          have := congrArg List.length e
          rw [flat_length cells14] at this
          simp at this
          omega)
        have HC : Hid (∀ w', Ag H w' → ∀ j u, t.cells[j]? = some u → j < 14 → w'.cell? ⟨b, o + n * 14 + j, none⟩ = some u) := Lib.hid fun w' hw j u hu hj => by
          obtain ⟨b', o', e, h⟩ := HR.out.cell (w := w') hw (j := n * 14 + j) (u := u) (by rw [flat_get cells14 htn hj]; exact hu)
          cases e
          rw [Nat.add_assoc]
          exact h
        have HSTEP : Hid (strS ((l.take (n + 1)).zipIdx.map fun x => x.1.text x.2) = strS ((l.take n).zipIdx.map fun x => x.1.text x.2) ++ [.string (t.text n)]) := Lib.hid (by
          rw [List.take_succ_eq_append_getElem hlt, ← ht, List.zipIdx_append, List.map_append]
          simp [strS, List.length_take, Nat.min_eq_left (Nat.le_of_lt hlt)])
        have k0 : wr.cell? ⟨b, o + n * 14, none⟩ = some (.int .u64 t.id) := HC.out wr HI.out.ag 0 _ rfl (by decide)
        have k1 : wr.cell? ⟨b, o + n * 14 + 1, none⟩ = some (.int .u64 t.n) := HC.out wr HI.out.ag 1 _ rfl (by decide)
        have k2 : wr.cell? ⟨b, o + n * 14 + 2, none⟩ = some (.int .u64 t.a) := HC.out wr HI.out.ag 2 _ rfl (by decide)
        have k3 : wr.cell? ⟨b, o + n * 14 + 3, none⟩ = some (.int .u64 t.b) := HC.out wr HI.out.ag 3 _ rfl (by decide)
        have k4 : wr.cell? ⟨b, o + n * 14 + 4, none⟩ = some (.int .u64 t.c) := HC.out wr HI.out.ag 4 _ rfl (by decide)
        have k5 : wr.cell? ⟨b, o + n * 14 + 5, none⟩ = some (.int .u64 t.d) := HC.out wr HI.out.ag 5 _ rfl (by decide)
        have k6 : wr.cell? ⟨b, o + n * 14 + 6, none⟩ = some (.string t.code) := HC.out wr HI.out.ag 6 _ rfl (by decide)
        have k12 : wr.cell? ⟨b, o + n * 14 + 12, none⟩ = some (.bool t.bad) := HC.out wr HI.out.ag 12 _ rfl (by decide)
        clear hc hb ht htn
        obtain ⟨idv, hidv⟩ : ∃ idv, idv = if t.bad = true then t.id else (n : Int) + 1 := ⟨_, rfl⟩
        cases hbad : t.bad
        all_goals rw [hbad] at k12 hidv
        · go_upto_region 8 with (fail)
          rw [show (n : Int) + 1 = idv from hidv.symm]
          have HIDV : Hid (W64 idv ∧ idv = if t.bad = true then t.id else (n : Int) + 1) := Lib.hid ⟨by rw [show idv = (n : Int) + 1 from hidv]; exact ⟨by omega, by omega⟩, by rw [hidv, hbad]⟩
          clear hidv k12 k0 hbad
          have HS1 := Lib.hid (HI.out.alloc' (.cells acc0 26) wr.heap.size rfl)
          simp only [acc0, accC] at HS1
          have hcl : (t.code.size : Int) ≤ 140737488355328 := by have := HT.out.cs; omega
          have hcm : (0 : Int) ≤ min (t.code.size : Int) 60 := by omega
          have hcm2 : min (t.code.size : Int) 60 ≤ (t.code.size : Int) := by omega
          go_upto_region 9 with (first
            | (refine wpList_store_st (cs := accC t.n t.a t.b t.c t.d t.code) 0 HS1.out rfl rfl 26 (.tmp 6) (.tmp 36) rfl rfl rfl szAcc rfl (oneAcc _ _ _ _ _ _) ?_)
            | fail)
          intro w2 S2
          have HS2 := Lib.hid S2
          have d5 : w2.cell? ⟨wr.heap.size, 5, none⟩ = some (.string t.code) := S2.cell 0 rfl rfl
          have f5 : w2.frozen? ⟨wr.heap.size, 5, none⟩ = false := S2.frozen 0 rfl 5
          clear S2 HS1 HI k1 k2 k3 k4 k5 k6
          go_upto_region 10 with (fail)
          obtain ⟨w3, hw3⟩ : ∃ w3, w3 = w2.setCell ⟨wr.heap.size, 5, none⟩ (.string (cut60 t.code)) := ⟨_, rfl⟩
          have HS3 : Hid (St H0 w0 X H w3 (blk wr.heap.size (.cells (accC t.n t.a t.b t.c t.d (cut60 t.code)) 26) :: own 9 1 (.slice A' n c') n (strS ((l.take n).zipIdx.map fun x => x.1.text x.2)) :: ps)) := by
            rw [hw3]
            exact Lib.hid (HS2.out.setCell (j := 5) 0 rfl (.string (cut60 t.code)))
          rw [show w2.setCell ⟨wr.heap.size, 5, none⟩ (.string (t.code.extract 0 (min (t.code.size : Int) 60).toNat)) = w3 from hw3.symm]
          clear hw3 HS2 d5 f5
          have k7 : w3.cell? ⟨b, o + n * 14 + 7, none⟩ = some (.int .u64 t.e) := HC.out w3 HS3.out.ag 7 _ rfl (by decide)
          have k8 : w3.cell? ⟨b, o + n * 14 + 8, none⟩ = some (.int .u64 t.f) := HC.out w3 HS3.out.ag 8 _ rfl (by decide)
          have k9 : w3.cell? ⟨b, o + n * 14 + 9, none⟩ = some (.int .u64 t.g) := HC.out w3 HS3.out.ag 9 _ rfl (by decide)
          have k10 : w3.cell? ⟨b, o + n * 14 + 10, none⟩ = some (.int .u64 t.h) := HC.out w3 HS3.out.ag 10 _ rfl (by decide)
          have HP2 := Lib.hid (rputReply_all 2 idv 0 0 0 0 0 ⟨#[]⟩ t.e t.f t.g t.h HIDV.out.1 ⟨by decide, by decide⟩ ⟨by decide, by decide⟩ ⟨by decide, by decide⟩ ⟨by decide, by decide⟩ ⟨by decide, by decide⟩ HT.out.e HT.out.f HT.out.g HT.out.h w3)
          have HP1 := Lib.hid (fun w => rputReply_all 1 idv t.n t.a t.b t.c t.d (cut60 t.code) 0 0 0 0 HIDV.out.1 HT.out.n HT.out.a HT.out.b HT.out.c HT.out.d ⟨by decide, by decide⟩ ⟨by decide, by decide⟩ ⟨by decide, by decide⟩ ⟨by decide, by decide⟩ w)
          obtain ⟨x2, hx2⟩ : ∃ x2, x2 = putReplyR 2 idv 0 0 0 0 0 ⟨#[]⟩ t.e t.f t.g t.h := ⟨_, rfl⟩
          obtain ⟨x1, hx1⟩ : ∃ x1, x1 = putReplyR 1 idv t.n t.a t.b t.c t.d (cut60 t.code) 0 0 0 0 := ⟨_, rfl⟩
          rw [← hx2] at HP2
          rw [← hx1] at HP1
          have HTX : Hid (t.text n = if 240 < t.kind then t.raw else if t.kind % 2 = 1 then x1.1 else x2.1) := Lib.hid (by
            unfold TellS.text
            rw [hx1, hx2, ← HIDV.out.2])
          clear hx1 hx2
          go_wp2_with fail
          refine HP2.out.mono ?_
          rintro e w4 ⟨rfl, hb4⟩
          have HS4 := Lib.hid (HS3.out.grow hb4)
          clear HP2 HS3 k7 k8 k9 k10 hb4
          have htm : t.kind.tmod 2 = t.kind % 2 := Int.tmod_eq_emod_of_nonneg HT.out.k0
          have k11 : w4.cell? ⟨b, o + n * 14 + 11, none⟩ = some (.int .u8 t.kind) := HC.out w4 HS4.out.ag 11 _ rfl (by decide)
          by_cases hodd : t.kind % 2 = 1
          · have hb1 : (t.kind.tmod 2 == 1) = true := by rw [htm, hodd]; rfl
            clear htm
            go_wp2_with (first
              | (refine wpList_load_st (cs := #[.int .u64 t.n, .int .u64 t.a, .int .u64 t.b, .int .u64 t.c, .int .u64 t.d, .string (cut60 t.code)]) 0 HS4.out rfl rfl 26 (.tmp 6) rfl rfl _ Tryz.underlying26 rfl szAcc ?_)
              | fail)
            refine (HP1.out _).mono ?_
            rintro e w5 ⟨rfl, hb5⟩
            have HS5 := Lib.hid (HS4.out.grow hb5)
            clear HS4 hb5 k11
            have k11 : w5.cell? ⟨b, o + n * 14 + 11, none⟩ = some (.int .u8 t.kind) := HC.out w5 HS5.out.ag 11 _ rfl (by decide)
            by_cases hbig : 240 < t.kind
            · have k13 : w5.cell? ⟨b, o + n * 14 + 13, none⟩ = some (.string t.raw) := HC.out w5 HS5.out.ag 13 _ rfl (by decide)
              have HS7 := Lib.hid (HS5.out.alloc (.cells #[.string t.raw] 9))
              go_wp2_with (first
                | (at_builtin; refine wpList_append_st 2 9 HS7.out rfl rfl _ _ 39 rfl i0 _ 16 Tryz.underlying39 hi0 hz0 hz1 hz2 rfl (by decide) rfl ⟨w5.heap.size, 0, none⟩ 1 1 [.string t.raw] rfl rfl (fun j u hj => by
                    rcases j with _ | j
                    · cases hj; exact HS7.out.cell 0 rfl rfl
                    · simp at hj) (by simp [Value.oneCell']) (by unfold maxLen; omega) (by omega) ?_)
                | fail)
              intro A3 c3 w8 S8
              have HS8 := Lib.hid ((S8.drop 1).drop 1)
              clear S8 HS7
              go_wp2_with fail
              go_roundw
              case rel => exact ⟨n + 1, A3, c3, by go_num, by omega, by omega, rfl, Lib.hid (by
                rw [HSTEP.out, HTX.out, if_pos (show 240 < t.kind by omega)]
                exact HS8.out)⟩
              case measure => simp [intOf]; omega
            · have hle : t.kind ≤ 240 := by omega
              have HS7 := Lib.hid (HS5.out.alloc (.cells #[.string x1.1] 9))
              go_wp2_with (first
                | (at_builtin; refine wpList_append_st 2 9 HS7.out rfl rfl _ _ 39 rfl i0 _ 16 Tryz.underlying39 hi0 hz0 hz1 hz2 rfl (by decide) rfl ⟨w5.heap.size, 0, none⟩ 1 1 [.string x1.1] rfl rfl (fun j u hj => by
                    rcases j with _ | j
                    · cases hj; exact HS7.out.cell 0 rfl rfl
                    · simp at hj) (by simp [Value.oneCell']) (by unfold maxLen; omega) (by omega) ?_)
                | fail)
              intro A3 c3 w8 S8
              have HS8 := Lib.hid ((S8.drop 1).drop 1)
              clear S8 HS7
              go_wp2_with fail
              go_roundw
              case rel => exact ⟨n + 1, A3, c3, by go_num, by omega, by omega, rfl, Lib.hid (by
                rw [HSTEP.out, HTX.out, if_neg (show ¬ 240 < t.kind by omega), if_pos (show t.kind % 2 = 1 by omega)]
                exact HS8.out)⟩
              case measure => simp [intOf]; omega
          · have hb1 : (t.kind.tmod 2 == 1) = false := by rw [htm, beq_eq_false_iff_ne]; exact hodd
            clear htm
            by_cases hbig : 240 < t.kind
            · have k13 : w4.cell? ⟨b, o + n * 14 + 13, none⟩ = some (.string t.raw) := HC.out w4 HS4.out.ag 13 _ rfl (by decide)
              have HS7 := Lib.hid (HS4.out.alloc (.cells #[.string t.raw] 9))
              go_wp2_with (first
                | (at_builtin; refine wpList_append_st 2 9 HS7.out rfl rfl _ _ 39 rfl i0 _ 16 Tryz.underlying39 hi0 hz0 hz1 hz2 rfl (by decide) rfl ⟨w4.heap.size, 0, none⟩ 1 1 [.string t.raw] rfl rfl (fun j u hj => by
                    rcases j with _ | j
                    · cases hj; exact HS7.out.cell 0 rfl rfl
                    · simp at hj) (by simp [Value.oneCell']) (by unfold maxLen; omega) (by omega) ?_)
                | fail)
              intro A3 c3 w8 S8
              have HS8 := Lib.hid ((S8.drop 1).drop 1)
              clear S8 HS7
              go_wp2_with fail
              go_roundw
              case rel => exact ⟨n + 1, A3, c3, by go_num, by omega, by omega, rfl, Lib.hid (by
                rw [HSTEP.out, HTX.out, if_pos (show 240 < t.kind by omega)]
                exact HS8.out)⟩
              case measure => simp [intOf]; omega
            · have hle : t.kind ≤ 240 := by omega
              have HS7 := Lib.hid (HS4.out.alloc (.cells #[.string x2.1] 9))
              go_wp2_with (first
                | (at_builtin; refine wpList_append_st 2 9 HS7.out rfl rfl _ _ 39 rfl i0 _ 16 Tryz.underlying39 hi0 hz0 hz1 hz2 rfl (by decide) rfl ⟨w4.heap.size, 0, none⟩ 1 1 [.string x2.1] rfl rfl (fun j u hj => by
                    rcases j with _ | j
                    · cases hj; exact HS7.out.cell 0 rfl rfl
                    · simp at hj) (by simp [Value.oneCell']) (by unfold maxLen; omega) (by omega) ?_)
                | fail)
              intro A3 c3 w8 S8
              have HS8 := Lib.hid ((S8.drop 1).drop 1)
              clear S8 HS7
              go_wp2_with fail
              go_roundw
              case rel => exact ⟨n + 1, A3, c3, by go_num, by omega, by omega, rfl, Lib.hid (by
                rw [HSTEP.out, HTX.out, if_neg (show ¬ 240 < t.kind by omega), if_neg (show ¬ t.kind % 2 = 1 by omega)]
                exact HS8.out)⟩
              case measure => simp [intOf]; omega
        · go_upto_region 8 with (fail)
          rw [show t.id = idv from hidv.symm]
          have HIDV : Hid (W64 idv ∧ idv = if t.bad = true then t.id else (n : Int) + 1) := Lib.hid ⟨by rw [show idv = t.id from hidv]; exact HT.out.id, by rw [hidv, hbad]⟩
          clear hidv k12 k0 hbad
          have HS1 := Lib.hid (HI.out.alloc' (.cells acc0 26) wr.heap.size rfl)
          simp only [acc0, accC] at HS1
          have hcl : (t.code.size : Int) ≤ 140737488355328 := by have := HT.out.cs; omega
          have hcm : (0 : Int) ≤ min (t.code.size : Int) 60 := by omega
          have hcm2 : min (t.code.size : Int) 60 ≤ (t.code.size : Int) := by omega
          go_upto_region 9 with (first
            | (refine wpList_store_st (cs := accC t.n t.a t.b t.c t.d t.code) 0 HS1.out rfl rfl 26 (.tmp 6) (.tmp 36) rfl rfl rfl szAcc rfl (oneAcc _ _ _ _ _ _) ?_)
            | fail)
          intro w2 S2
          have HS2 := Lib.hid S2
          have d5 : w2.cell? ⟨wr.heap.size, 5, none⟩ = some (.string t.code) := S2.cell 0 rfl rfl
          have f5 : w2.frozen? ⟨wr.heap.size, 5, none⟩ = false := S2.frozen 0 rfl 5
          clear S2 HS1 HI k1 k2 k3 k4 k5 k6
          go_upto_region 10 with (fail)
          obtain ⟨w3, hw3⟩ : ∃ w3, w3 = w2.setCell ⟨wr.heap.size, 5, none⟩ (.string (cut60 t.code)) := ⟨_, rfl⟩
          have HS3 : Hid (St H0 w0 X H w3 (blk wr.heap.size (.cells (accC t.n t.a t.b t.c t.d (cut60 t.code)) 26) :: own 9 1 (.slice A' n c') n (strS ((l.take n).zipIdx.map fun x => x.1.text x.2)) :: ps)) := by
            rw [hw3]
            exact Lib.hid (HS2.out.setCell (j := 5) 0 rfl (.string (cut60 t.code)))
          rw [show w2.setCell ⟨wr.heap.size, 5, none⟩ (.string (t.code.extract 0 (min (t.code.size : Int) 60).toNat)) = w3 from hw3.symm]
          clear hw3 HS2 d5 f5
          have k7 : w3.cell? ⟨b, o + n * 14 + 7, none⟩ = some (.int .u64 t.e) := HC.out w3 HS3.out.ag 7 _ rfl (by decide)
          have k8 : w3.cell? ⟨b, o + n * 14 + 8, none⟩ = some (.int .u64 t.f) := HC.out w3 HS3.out.ag 8 _ rfl (by decide)
          have k9 : w3.cell? ⟨b, o + n * 14 + 9, none⟩ = some (.int .u64 t.g) := HC.out w3 HS3.out.ag 9 _ rfl (by decide)
          have k10 : w3.cell? ⟨b, o + n * 14 + 10, none⟩ = some (.int .u64 t.h) := HC.out w3 HS3.out.ag 10 _ rfl (by decide)
          have HP2 := Lib.hid (rputReply_all 2 idv 0 0 0 0 0 ⟨#[]⟩ t.e t.f t.g t.h HIDV.out.1 ⟨by decide, by decide⟩ ⟨by decide, by decide⟩ ⟨by decide, by decide⟩ ⟨by decide, by decide⟩ ⟨by decide, by decide⟩ HT.out.e HT.out.f HT.out.g HT.out.h w3)
          have HP1 := Lib.hid (fun w => rputReply_all 1 idv t.n t.a t.b t.c t.d (cut60 t.code) 0 0 0 0 HIDV.out.1 HT.out.n HT.out.a HT.out.b HT.out.c HT.out.d ⟨by decide, by decide⟩ ⟨by decide, by decide⟩ ⟨by decide, by decide⟩ ⟨by decide, by decide⟩ w)
          obtain ⟨x2, hx2⟩ : ∃ x2, x2 = putReplyR 2 idv 0 0 0 0 0 ⟨#[]⟩ t.e t.f t.g t.h := ⟨_, rfl⟩
          obtain ⟨x1, hx1⟩ : ∃ x1, x1 = putReplyR 1 idv t.n t.a t.b t.c t.d (cut60 t.code) 0 0 0 0 := ⟨_, rfl⟩
          rw [← hx2] at HP2
          rw [← hx1] at HP1
          have HTX : Hid (t.text n = if 240 < t.kind then t.raw else if t.kind % 2 = 1 then x1.1 else x2.1) := Lib.hid (by
            unfold TellS.text
            rw [hx1, hx2, ← HIDV.out.2])
          clear hx1 hx2
          go_wp2_with fail
          refine HP2.out.mono ?_
          rintro e w4 ⟨rfl, hb4⟩
          have HS4 := Lib.hid (HS3.out.grow hb4)
          clear HP2 HS3 k7 k8 k9 k10 hb4
          have htm : t.kind.tmod 2 = t.kind % 2 := Int.tmod_eq_emod_of_nonneg HT.out.k0
          have k11 : w4.cell? ⟨b, o + n * 14 + 11, none⟩ = some (.int .u8 t.kind) := HC.out w4 HS4.out.ag 11 _ rfl (by decide)
          by_cases hodd : t.kind % 2 = 1
          · have hb1 : (t.kind.tmod 2 == 1) = true := by rw [htm, hodd]; rfl
            clear htm
            go_wp2_with (first
              | (refine wpList_load_st (cs := #[.int .u64 t.n, .int .u64 t.a, .int .u64 t.b, .int .u64 t.c, .int .u64 t.d, .string (cut60 t.code)]) 0 HS4.out rfl rfl 26 (.tmp 6) rfl rfl _ Tryz.underlying26 rfl szAcc ?_)
              | fail)
            refine (HP1.out _).mono ?_
            rintro e w5 ⟨rfl, hb5⟩
            have HS5 := Lib.hid (HS4.out.grow hb5)
            clear HS4 hb5 k11
            have k11 : w5.cell? ⟨b, o + n * 14 + 11, none⟩ = some (.int .u8 t.kind) := HC.out w5 HS5.out.ag 11 _ rfl (by decide)
            by_cases hbig : 240 < t.kind
            · have k13 : w5.cell? ⟨b, o + n * 14 + 13, none⟩ = some (.string t.raw) := HC.out w5 HS5.out.ag 13 _ rfl (by decide)
              have HS7 := Lib.hid (HS5.out.alloc (.cells #[.string t.raw] 9))
              go_wp2_with (first
                | (at_builtin; refine wpList_append_st 2 9 HS7.out rfl rfl _ _ 39 rfl i0 _ 16 Tryz.underlying39 hi0 hz0 hz1 hz2 rfl (by decide) rfl ⟨w5.heap.size, 0, none⟩ 1 1 [.string t.raw] rfl rfl (fun j u hj => by
                    rcases j with _ | j
                    · cases hj; exact HS7.out.cell 0 rfl rfl
                    · simp at hj) (by simp [Value.oneCell']) (by unfold maxLen; omega) (by omega) ?_)
                | fail)
              intro A3 c3 w8 S8
              have HS8 := Lib.hid ((S8.drop 1).drop 1)
              clear S8 HS7
              go_wp2_with fail
              go_roundw
              case rel => exact ⟨n + 1, A3, c3, by go_num, by omega, by omega, rfl, Lib.hid (by
                rw [HSTEP.out, HTX.out, if_pos (show 240 < t.kind by omega)]
                exact HS8.out)⟩
              case measure => simp [intOf]; omega
            · have hle : t.kind ≤ 240 := by omega
              have HS7 := Lib.hid (HS5.out.alloc (.cells #[.string x1.1] 9))
              go_wp2_with (first
                | (at_builtin; refine wpList_append_st 2 9 HS7.out rfl rfl _ _ 39 rfl i0 _ 16 Tryz.underlying39 hi0 hz0 hz1 hz2 rfl (by decide) rfl ⟨w5.heap.size, 0, none⟩ 1 1 [.string x1.1] rfl rfl (fun j u hj => by
                    rcases j with _ | j
                    · cases hj; exact HS7.out.cell 0 rfl rfl
                    · simp at hj) (by simp [Value.oneCell']) (by unfold maxLen; omega) (by omega) ?_)
                | fail)
              intro A3 c3 w8 S8
              have HS8 := Lib.hid ((S8.drop 1).drop 1)
              clear S8 HS7
              go_wp2_with fail
              go_roundw
              case rel => exact ⟨n + 1, A3, c3, by go_num, by omega, by omega, rfl, Lib.hid (by
                rw [HSTEP.out, HTX.out, if_neg (show ¬ 240 < t.kind by omega), if_pos (show t.kind % 2 = 1 by omega)]
                exact HS8.out)⟩
              case measure => simp [intOf]; omega
          · have hb1 : (t.kind.tmod 2 == 1) = false := by rw [htm, beq_eq_false_iff_ne]; exact hodd
            clear htm
            by_cases hbig : 240 < t.kind
            · have k13 : w4.cell? ⟨b, o + n * 14 + 13, none⟩ = some (.string t.raw) := HC.out w4 HS4.out.ag 13 _ rfl (by decide)
              have HS7 := Lib.hid (HS4.out.alloc (.cells #[.string t.raw] 9))
              go_wp2_with (first
                | (at_builtin; refine wpList_append_st 2 9 HS7.out rfl rfl _ _ 39 rfl i0 _ 16 Tryz.underlying39 hi0 hz0 hz1 hz2 rfl (by decide) rfl ⟨w4.heap.size, 0, none⟩ 1 1 [.string t.raw] rfl rfl (fun j u hj => by
                    rcases j with _ | j
                    · cases hj; exact HS7.out.cell 0 rfl rfl
                    · simp at hj) (by simp [Value.oneCell']) (by unfold maxLen; omega) (by omega) ?_)
                | fail)
              intro A3 c3 w8 S8
              have HS8 := Lib.hid ((S8.drop 1).drop 1)
              clear S8 HS7
              go_wp2_with fail
              go_roundw
              case rel => exact ⟨n + 1, A3, c3, by go_num, by omega, by omega, rfl, Lib.hid (by
                rw [HSTEP.out, HTX.out, if_pos (show 240 < t.kind by omega)]
                exact HS8.out)⟩
              case measure => simp [intOf]; omega
            · have hle : t.kind ≤ 240 := by omega
              have HS7 := Lib.hid (HS4.out.alloc (.cells #[.string x2.1] 9))
              go_wp2_with (first
                | (at_builtin; refine wpList_append_st 2 9 HS7.out rfl rfl _ _ 39 rfl i0 _ 16 Tryz.underlying39 hi0 hz0 hz1 hz2 rfl (by decide) rfl ⟨w4.heap.size, 0, none⟩ 1 1 [.string x2.1] rfl rfl (fun j u hj => by
                    rcases j with _ | j
                    · cases hj; exact HS7.out.cell 0 rfl rfl
                    · simp at hj) (by simp [Value.oneCell']) (by unfold maxLen; omega) (by omega) ?_)
                | fail)
              intro A3 c3 w8 S8
              have HS8 := Lib.hid ((S8.drop 1).drop 1)
              clear S8 HS7
              go_wp2_with fail
              go_roundw
              case rel => exact ⟨n + 1, A3, c3, by go_num, by omega, by omega, rfl, Lib.hid (by
                rw [HSTEP.out, HTX.out, if_neg (show ¬ 240 < t.kind by omega), if_neg (show ¬ t.kind % 2 = 1 by omega)]
                exact HS8.out)⟩
              case measure => simp [intOf]; omega
      · have h40I : ¬ (n : Int) < 40 := by omega
        have HE : Hid ((l.take n).zipIdx.map (fun x => x.1.text x.2) = scriptL l) := Lib.hid (by
          unfold scriptL
          rw [show n = 40 by omega])
        have HLN : Hid (n = (scriptL l).length) := Lib.hid (by rw [← HE.out]; simp; omega)
        have hltI : (n : Int) < (l.length : Int) := by omega
        go_wp2_with fail
        go_ret
        have h := HI.out
        rw [HE.out] at h
        have hl := HLN.out
        subst hl
        exact ⟨A', c', rfl, h⟩
    · have hltI : ¬ (n : Int) < (l.length : Int) := by omega
      have HE : Hid ((l.take n).zipIdx.map (fun x => x.1.text x.2) = scriptL l) := Lib.hid (by
        unfold scriptL
        rw [List.take_of_length_le (by omega), List.take_of_length_le (by omega)])
      have HLN : Hid (n = (scriptL l).length) := Lib.hid (by rw [← HE.out]; simp; omega)
      go_wp2_with fail
      go_ret
      have h := HI.out
      rw [HE.out] at h
      have hl := HLN.out
      subst hl
      exact ⟨A', c', rfl, h⟩
end
end Go.Proofs.YtdnpobjokajigaaGreatDoor
