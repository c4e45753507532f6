/-
  What is asked by bytes.
  GetAsk.
  An ask that was put is got: plain.
  What is told.
  The sums' table, a sum.
  A text's sum, as bytes.
-/
import Derived.Test.YtdnpobjokajigaaGreatDoorPart6
import Derived.Test.YtdnpobjokajigaaGreatDoorPart3
import Derived.Test.YtdnpobjokajigaaGreatDoorPart5
import Derived.Test.YtdnpobjokajigaaGreatDoorPart1
import Derived.Deep.LoopGhost
import Derived.Laws.Closers25b
import Derived.Laws.BytesArg
namespace Go.Proofs.YtdnpobjokajigaaGreatDoor
open Go.RowKit Go.Proofs K

def flagO (b : Bool) : Obj := .cells #[.bool b] 4
section
variable {H0 H : Hs} {w0 w : World} {X : Nat → Prop} {ps : List Hp} {p : Nat}
set_option maxRecDepth 100000 in
theorem askc_catch {cs0 : Array Value} (h7 : cs0.size = 7) (S : St H0 w0 X H w (blk p (.cells cs0 45) :: blk (p + 1) (flagO false) :: ps)) (older : List PanicEntry) :
    CallsD Tryz.prog 136 #[.pointer (some ⟨p, 0, none⟩), .pointer (some ⟨p + 1, 0, none⟩)] (.panicking ({ v := refusedV, recovered := false } :: older)) w fun e u' w' =>
      e = .returned (.tuple #[]) ∧ u' = .panicking ({ v := refusedV, recovered := true } :: older) ∧ St H0 w0 X H w' (blk (p + 1) (flagO false) :: blk p (.cells zAsk 45) :: ps) := by
  refine callsD_of_wpS Tryz.func136 rfl fun c₀ cs hu => ?_
  unfold refusedV at hu
  have hta : ∀ w, (Instr.typeAssert (.iface 235 (.agg #[])) 20 235 true).run Tryz.prog w = .ok (.tuple #[.agg #[], .bool true]) w := fun w => by kernel_rfl
  simp only [Tryz.ntmps136, List.size_toArray, List.length_cons, List.length_nil, Nat.reduceAdd, Nat.reduceSub, Array.replicate_succ, Array.replicate_zero, List.push_toArray, List.append_toArray, List.nil_append, List.cons_append]
  apply wpS_seq
  apply wpS_region
  simp [wpOpsS, go_sem, recoverD, hu, Exit.thenS, hta]
  apply wpS_seq
  apply wpS_region
  simp [wpOpsS, go_sem, Exit.thenS]
  obtain ⟨w1, hw1⟩ : ∃ w1, w1 = w.alloc (.cells #[] 235) := ⟨_, rfl⟩
  have S1 : St H0 w0 X H w1 (blk p (.cells cs0 45) :: blk (p + 1) (flagO false) :: ps) := hw1 ▸ (S.alloc (.cells #[] 235)).drop 0
  rw [← hw1]
  have HS1 := Lib.hid S1
  have HS2 := Lib.hid (S1.alloc (.cells zAsk 45))
  clear S1 S hw1
  refine wpS_cond (t := true) rfl ?_
  simp only [if_true]
  refine wpS_of_wp ?_
  go_wp2_with (first
    | (refine wpList_load_st (cs := zAsk) 0 HS2.out rfl rfl 45 (.tmp 4) rfl rfl _ Tryz.underlying45 rfl szAsk ?_)
    | (refine wpList_store_st (cs := zAsk) 1 HS2.out rfl rfl 45 (.tmp 0) (.tmp 11) rfl rfl rfl szAsk h7 (oneAsk _ _ _ _ _ _ _) ?_)
    | fail)
  intro w4 S4
  have d0 : w4.cell? ⟨p + 1, 0, none⟩ = some (.bool false) := by have hbk := S4.blk_at 2 rfl; rw [cell_of_row _ _ _ _ _ _ hbk]; rfl
  have g0 := S4.frozen 2 rfl 0
  have HS4 := Lib.hid ((S4.setCell (j := 0) 2 rfl (.bool false)).drop 2)
  clear S4 HS2 HS1
  go_wp2_with fail
  exact ⟨rfl, _, rfl, _, by simp [results, Tryz.results136], rfl, rfl, HS4.out⟩
set_option maxRecDepth 100000 in
theorem askc_idle (S : St H0 w0 X H w ps) (a b : Addr) :
    CallsD Tryz.prog 136 #[.pointer (some a), .pointer (some b)] .returning w fun e u' w' =>
      e = .returned (.tuple #[]) ∧ u' = .returning ∧ St H0 w0 X H w' ps := by
  refine callsD_of_wpS Tryz.func136 rfl fun c₀ cs hu => ?_
  have hta : ∀ w, (Instr.typeAssert .nilIface 20 235 true).run Tryz.prog w = .ok (.tuple #[.agg #[], .bool false]) w := fun w => by kernel_rfl
  simp only [Tryz.ntmps136, List.size_toArray, List.length_cons, List.length_nil, Nat.reduceAdd, Nat.reduceSub, Array.replicate_succ, Array.replicate_zero, List.push_toArray, List.append_toArray, List.nil_append, List.cons_append]
  apply wpS_seq
  apply wpS_region
  simp [wpOpsS, go_sem, recoverD, hu, Exit.thenS, hta]
  apply wpS_seq
  apply wpS_region
  simp [wpOpsS, go_sem, Exit.thenS]
  refine wpS_cond (t := false) rfl ?_
  simp only [Bool.false_eq_true, if_false]
  refine wpS_of_wp (wp_skip ?_)
  have S1 := (S.alloc (.cells #[] 235)).drop 0
  cases c₀
  simp_all [bodyPostS, results, Tryz.results136]
end

/-- The item of bytes, if it is a list: what read tells. -/
inductive AskD : List UInt8 → Option (Array Value) → Prop
  | bad {l : List UInt8} (h : DecR l none) : AskD l none
  | text {l : List UInt8} {s : ByteArray} (h : DecR l (some (.text s))) : AskD l none
  | none {l : List UInt8} {k : List It} (h : DecR l (some (.list k))) (ha : askR k = none) : AskD l none
  | more {l : List UInt8} {k k' : List It} {a : Array Value} (h : DecR l (some (.list k))) (ha : askR k = some (a, k')) (hk : k' ≠ []) : AskD l none
  | good {l : List UInt8} {k : List It} {a : Array Value} (h : DecR l (some (.list k))) (ha : askR k = some (a, [])) : AskD l (some a)
def AskP (l : List UInt8) (w : World) (e : Ending) (w' : World) : Prop := ∃ o, AskD l o ∧ e = .returned (.tuple #[.agg (o.getD zAsk), .bool o.isSome]) ∧ Below w.heap.size w w'
theorem decodeL (l : List UInt8) {H : Hs} {w : World} (hw : Ag H w) : Calls Tryz.prog 62 #[.string (bs l)] w (DecP l H w) := by
  by_cases h : l.length ≤ 65536
  · exact decode_any l h hw
  · exact decode_long l (by omega) hw
theorem rdL_len {d : Nat} : ∀ (n : Nat) (l : List UInt8) (k : List It), l.length ≤ n → RdL d l (some k) → k.length ≤ l.length := by
  intro n
  induction n with
  | zero =>
    intro l k hl h
    obtain rfl : l = [] := List.eq_nil_of_length_eq_zero (by omega)
    generalize ho : (some k : Option (List It)) = o at h
    cases h with
    | nil => cases ho; simp
    | bad hl' => exact absurd rfl hl'
    | step hl' => exact absurd rfl hl'
  | succ n ih =>
    intro l k hl h
    generalize ho : (some k : Option (List It)) = o at h
    cases h with
    | nil => cases ho; simp
    | bad hl' h => cases ho
    | step hl' h t =>
      rename_i o' 
      cases o' with
      | none => cases ho
      | some k' =>
        cases ho
        have h1 := h.shorter
        have h2 := ih _ _ (by omega) t
        simp
        omega
theorem decR_len {l : List UInt8} {k : List It} (h : DecR l (some (.list k))) : k.length ≤ 65536 := by
  cases h with
  | good hl hr =>
    generalize ho : (some (It.list k, ([] : List UInt8))) = o at hr
    cases hr with
    | deep => cases ho
    | nil => cases ho
    | one => cases ho
    | many => cases ho
    | cut => cases ho
    | bad => cases ho
    | text => cases ho
    | manyL => cases ho
    | cutL => cases ho
    | badL => cases ho
    | list hd hb hm hn hL =>
      obtain ⟨e1, e2⟩ := Prod.mk.inj (Option.some.inj ho)
      cases e1
      have h1 := rdL_len _ _ _ (Nat.le_refl _) hL
      have h2 := manyL_le hm
      simp at h1 hl
      omega
theorem askR_len {l l' : List It} {a : Array Value} (h : askR l = some (a, l')) : l'.length ≤ l.length := by
  unfold askR at h
  obtain ⟨x, h1, h⟩ := Option.bind_eq_some_iff.1 h
  obtain ⟨y, h2, h⟩ := Option.bind_eq_some_iff.1 h
  obtain ⟨z, h3, h⟩ := Option.bind_eq_some_iff.1 h
  have e1 := numR_len (n := x.1) (l' := x.2) h1
  have e2 := numR_len (n := y.1) (l' := y.2) h2
  have e3 := txtR_len (s := z.1) (l' := z.2) h3
  split at h
  · cases h; omega
  · split at h
    · obtain ⟨t, h4, h⟩ := Option.map_eq_some_iff.1 h
      have e4 := txtR_len (s := t.1) (l' := t.2) h4
      cases h
      omega
    · cases h
theorem askR_form {l l' : List It} {a : Array Value} (h : askR l = some (a, l')) : ∃ id addr s1 s2 s3 s4 kd, a = askC id addr s1 s2 s3 s4 kd := by
  unfold askR at h
  obtain ⟨x, h1, h⟩ := Option.bind_eq_some_iff.1 h
  obtain ⟨y, h2, h⟩ := Option.bind_eq_some_iff.1 h
  obtain ⟨z, h3, h⟩ := Option.bind_eq_some_iff.1 h
  split at h
  · cases h; exact ⟨_, _, _, _, _, _, _, rfl⟩
  · split at h
    · obtain ⟨t, h4, h⟩ := Option.map_eq_some_iff.1 h
      cases h
      exact ⟨_, _, _, _, _, _, _, rfl⟩
    · cases h
/-- The results, read at the end. -/
theorem readDone {H : Hs} {w w5 : World} {qs : List Hp} {id : Int} {addr : ByteArray} {s1 s2 s3 s4 kd : Int} {b : Bool} {R : Ending → World → Prop} (S : St empH w none_ H w5 qs) (i j : Nat) (hi : qs[i]? = some (blk w.heap.size (.cells (askC id addr s1 s2 s3 s4 kd) 45))) (hj : qs[j]? = some (blk (w.heap.size + 1) (flagO b)))
    {tmps : Array Value} (h4 : tmps[4]? = some (.pointer (some ⟨w.heap.size, 0, none⟩))) (h5 : tmps[5]? = some (.pointer (some ⟨w.heap.size + 1, 0, none⟩))) (hR : R (.returned (.tuple #[.agg (askC id addr s1 s2 s3 s4 kd), .bool b])) w5) : Leaves Tryz.prog Tryz.f73 tmps R [] .returning w5 := by
  refine ⟨_, ?_, hR⟩
  have hl := run_loadVar_row (P := Tryz.prog) w5 w.heap.size 45 45 _ _ _ (S.blk_at i hi) Tryz.underlying45 rfl szAsk
  have k3 := cell_of_row _ _ 0 _ _ _ (S.blk_at j hj)
  simp at k3
  have h4' : tmps[4]?.getD undef = .pointer (some ⟨w.heap.size, 0, none⟩) := by rw [h4]; rfl
  have h5' : tmps[5]?.getD undef = .pointer (some ⟨w.heap.size + 1, 0, none⟩) := by rw [h5]; rfl
  have hl2 : (loadVar 4 ⟨w.heap.size + 1, 0, none⟩).run Tryz.prog w5 = .ok (.bool b) w5 := by simp [go_sem, k3]
  simp [results, Tryz.results73, h4', h5', asAddr, hl, hl2]
set_option maxRecDepth 100000 in
set_option maxHeartbeats 1000000 in
theorem readAsk_any (l : List UInt8) (w : World) : Calls Tryz.prog 73 #[.string (bs l), .func (.func 74) #[] #[]] w (AskP l w) := by
  have hp : ∀ w, (Instr.panic (.iface 235 (.agg #[]))).run Tryz.prog w = .halt (.panic (.iface 235 (.agg #[]))) w := fun _ => rfl
  have hmf : ∀ (fn : Fn) (first cap : Array Value) (w : World), (Instr.makeFunc fn first cap).run Tryz.prog w = .ok (.func fn first cap) w := fun _ _ _ _ => rfl
  have HS := Lib.hid (((St.start (ag_emp w)).alloc (.cells zAsk 45)).alloc' (flagO false) (w.heap.size + 1) (by simp))
  go_enter_defers Tryz.func73, Tryz.ntmps73
  go_wp2_with fail
  refine (decodeL l HS.out.ag).mono ?_
  rintro e w1 hD
  rcases hD with ⟨i, x, y, z, H1, hR, rfl, hrep, S1⟩ | ⟨n, hR, hn, rfl, S1⟩
  · have HR := Lib.hid hR
    have HREP := Lib.hid hrep
    have HS0 := Lib.hid (HS.out.more S1)
    cases i with
    | text s =>
      obtain ⟨A1, c1, rfl, rfl, rfl⟩ := text_cells hrep
      have HS1 : Hid (St empH w none_ H1 _ [blk w.heap.size (.cells zAsk 45), blk (w.heap.size + 1) (flagO false), blk w1.heap.size (.cells #[.bool false, .string s, .slice A1 0 c1] 123)]) := ((HS0.out.alloc (.cells #[.bool false, .string s, .slice A1 0 c1] 123)).pick 1 rfl).pick 2 rfl
      clear hR hrep S1 HS HS0
      go_wp2_with (first
        | (refine wpList_load_st (cs := zAsk) 0 HS1.out rfl rfl 45 (.tmp 4) rfl rfl _ Tryz.underlying45 rfl szAsk ?_)
        | (refine wpList_store_st (cs := zAsk) 0 HS1.out rfl rfl 45 (.tmp 4) (.tmp 22) rfl rfl rfl szAsk rfl (oneAsk _ _ _ _ _ _ _) ?_)
        | fail)
      intro w4 S4
      have d0 : w4.cell? ⟨w.heap.size + 1, 0, none⟩ = some (.bool false) := by have hbk := S4.blk_at 1 rfl; rw [cell_of_row _ _ _ _ _ _ hbk]; rfl
      have g0 := S4.frozen 1 rfl 0
      have HS4 := Lib.hid (S4.setCell (j := 0) 1 rfl (.bool false))
      clear S4 HS1
      go_wp2_with fail
      refine leaves_cons (f := 136) (args := #[.pointer (some ⟨w.heap.size, 0, none⟩), .pointer (some ⟨w.heap.size + 1, 0, none⟩)]) (by simp) (by simp [go_sem]) ?_
      refine (askc_idle HS4.out _ _).mono ?_
      rintro e u' w5 ⟨rfl, rfl, S3⟩
      simp only [settle]
      exact readDone S3 1 0 rfl rfl rfl rfl ⟨none, .text HR.out, rfl, S3.below⟩
    | list k =>
      obtain ⟨A1, c1, rfl, rfl, rfl, hv⟩ := list_cells hrep
      have HV := Lib.hid hv
      have HKL := Lib.hid (decR_len HR.out)
      have HS1 : Hid (St empH w none_ H1 ((w1.alloc (.cells #[.bool true, .string ⟨#[]⟩, .slice A1 k.length c1] 123)).alloc (fldO (.slice A1 k.length c1))) [blk (w1.heap.size + 1) (fldO (.slice A1 k.length c1)), blk w.heap.size (.cells zAsk 45), blk (w.heap.size + 1) (flagO false), blk w1.heap.size (.cells #[.bool true, .string ⟨#[]⟩, .slice A1 k.length c1] 123)]) := (((HS0.out.alloc (.cells #[.bool true, .string ⟨#[]⟩, .slice A1 k.length c1] 123)).pick 1 rfl).pick 2 rfl).alloc' _ (w1.heap.size + 1) (by simp)
      clear hR hrep S1 HS HS0 hv
      go_wp2_with fail
      refine (ask_any k HKL.out HS1.out 0 rfl HV.out).mono ?_
      intro e w2 hM
      cases ha : askR k with
      | none =>
        rw [ha] at hM
        obtain ⟨rfl, S2⟩ := hM
        have HA := Lib.hid ha
        have HS2 : Hid (St empH w none_ H1 w2 [blk w.heap.size (.cells zAsk 45), blk (w.heap.size + 1) (flagO false), blk w1.heap.size (.cells #[.bool true, .string ⟨#[]⟩, .slice A1 k.length c1] 123)]) := S2
        clear ha S2
        go_wp2_with fail
        refine leaves_cons (f := 136) (args := #[.pointer (some ⟨w.heap.size, 0, none⟩), .pointer (some ⟨w.heap.size + 1, 0, none⟩)]) (by simp) (by simp [go_sem]) ?_
        refine (askc_catch rfl HS2.out []).mono ?_
        rintro e u' w5 ⟨rfl, rfl, S3⟩
        simp only [settle, List.dropWhile]
        exact readDone S3 1 0 rfl rfl rfl rfl ⟨none, .none HR.out HA.out, rfl, S3.below⟩
      | some x =>
        obtain ⟨a, k'⟩ := x
        rw [ha] at hM
        obtain ⟨v', rfl, hv', S2⟩ := hM
        obtain ⟨id, addr, s1, s2, s3, s4, kd, rfl⟩ := askR_form ha
        have HA := Lib.hid ha
        have HS2 : Hid (St empH w none_ H1 w2 [blk (w1.heap.size + 1) (fldO v'), blk w.heap.size (.cells zAsk 45), blk (w.heap.size + 1) (flagO false), blk w1.heap.size (.cells #[.bool true, .string ⟨#[]⟩, .slice A1 k.length c1] 123)]) := S2
        have hk16 := askR_len ha
        have HK16 := Lib.hid hk16
        obtain ⟨A2, c2, cs2, rfl, _⟩ := hv'.sl_inv
        clear ha S2 HS1 hv' hk16
        go_wp2_with (first
          | (refine wpList_store_st (cs := askC id addr s1 s2 s3 s4 kd) 1 HS2.out rfl rfl 45 (.tmp 4) (.tmp 26) rfl rfl rfl szAsk rfl (oneAsk _ _ _ _ _ _ _) ?_)
          | fail)
        intro w3 S3
        have HS3 : Hid (St empH w none_ H1 w3 [blk w.heap.size (.cells (askC id addr s1 s2 s3 s4 kd) 45), blk (w.heap.size + 1) (flagO false), blk (w1.heap.size + 1) (fldO (.slice A2 k'.length c2)), blk w1.heap.size (.cells #[.bool true, .string ⟨#[]⟩, .slice A1 k.length c1] 123)]) := (S3.pick 2 rfl).pick 1 rfl
        have cq : w3.cell? ⟨w1.heap.size + 1, 0, none⟩ = some (.slice A2 k'.length c2) := by have hbk := HS3.out.blk_at 2 rfl; rw [cell_of_row _ _ _ _ _ _ hbk]; rfl
        clear S3 HS2
        by_cases hk : k' = []
        · subst hk
          go_wp2_with (first
            | (refine wpList_load_st (cs := askC id addr s1 s2 s3 s4 kd) 0 HS3.out rfl rfl 45 (.tmp 4) rfl rfl _ Tryz.underlying45 rfl szAsk ?_)
            | (refine wpList_store_st (cs := askC id addr s1 s2 s3 s4 kd) 0 HS3.out rfl rfl 45 (.tmp 4) (.tmp 32) rfl rfl rfl szAsk rfl (oneAsk _ _ _ _ _ _ _) ?_)
            | fail)
          intro w4 S4
          have d0 : w4.cell? ⟨w.heap.size + 1, 0, none⟩ = some (.bool false) := by have hbk := S4.blk_at 1 rfl; rw [cell_of_row _ _ _ _ _ _ hbk]; rfl
          have g0 := S4.frozen 1 rfl 0
          have HS4 := Lib.hid (S4.setCell (j := 0) 1 rfl (.bool true))
          clear S4 HS3
          go_wp2_with fail
          refine leaves_cons (f := 136) (args := #[.pointer (some ⟨w.heap.size, 0, none⟩), .pointer (some ⟨w.heap.size + 1, 0, none⟩)]) (by simp) (by simp [go_sem]) ?_
          refine (askc_idle HS4.out _ _).mono ?_
          rintro e u' w5 ⟨rfl, rfl, S3⟩
          simp only [settle]
          exact readDone S3 1 0 rfl rfl rfl rfl ⟨some _, .good HR.out HA.out, rfl, S3.below⟩
        · have hpos : 0 < k'.length := List.length_pos_iff.2 hk
          have HK := Lib.hid hk
          clear hk
          go_wp2_with fail
          refine leaves_cons (f := 136) (args := #[.pointer (some ⟨w.heap.size, 0, none⟩), .pointer (some ⟨w.heap.size + 1, 0, none⟩)]) (by simp) (by simp [go_sem]) ?_
          refine (askc_catch rfl HS3.out []).mono ?_
          rintro e u' w5 ⟨rfl, rfl, S3⟩
          simp only [settle, List.dropWhile]
          exact readDone S3 1 0 rfl rfl rfl rfl ⟨none, .more HR.out HA.out HK.out, rfl, S3.below⟩
  · have HR := Lib.hid hR
    have HS1 : Hid (St empH w none_ empH _ [blk w.heap.size (.cells zAsk 45), blk (w.heap.size + 1) (flagO false), blk w1.heap.size (.cells #[.bool false, .string ⟨#[]⟩, .slice none 0 0] 123)]) := (((HS.out.more S1).alloc (.cells #[.bool false, .string ⟨#[]⟩, .slice none 0 0] 123)).pick 1 rfl).pick 2 rfl
    have e1 : (n != 0) = true := by rw [bne_iff_ne]; omega
    clear hR S1 HS hn
    go_wp2_with (first
      | (refine wpList_load_st (cs := zAsk) 0 HS1.out rfl rfl 45 (.tmp 4) rfl rfl _ Tryz.underlying45 rfl szAsk ?_)
      | (refine wpList_store_st (cs := zAsk) 0 HS1.out rfl rfl 45 (.tmp 4) (.tmp 22) rfl rfl rfl szAsk rfl (oneAsk _ _ _ _ _ _ _) ?_)
      | fail)
    intro w4 S4
    have d0 : w4.cell? ⟨w.heap.size + 1, 0, none⟩ = some (.bool false) := by have hbk := S4.blk_at 1 rfl; rw [cell_of_row _ _ _ _ _ _ hbk]; rfl
    have g0 := S4.frozen 1 rfl 0
    have HS4 := Lib.hid (S4.setCell (j := 0) 1 rfl (.bool false))
    clear S4 HS1
    go_wp2_with fail
    refine leaves_cons (f := 136) (args := #[.pointer (some ⟨w.heap.size, 0, none⟩), .pointer (some ⟨w.heap.size + 1, 0, none⟩)]) (by simp) (by simp [go_sem]) ?_
    refine (askc_idle HS4.out _ _).mono ?_
    rintro e u' w5 ⟨rfl, rfl, S3⟩
    simp only [settle]
    exact readDone S3 1 0 rfl rfl rfl rfl ⟨none, .bad HR.out, rfl, S3.below⟩
end Go.Proofs.YtdnpobjokajigaaGreatDoor

namespace Go.Proofs.YtdnpobjokajigaaGreatDoor
open Go.RowKit Go.Proofs K

def putAskR (id : Int) (addr : ByteArray) (a b c d kind : Int) : ByteArray × Bool :=
  if addr.size ≠ 20 then (⟨#[]⟩, false)
  else if kind = 2 then (putL [numS id, numS (IntKind.u64.wrap 2), addr, wordS a b c d], true)
  else if kind = 1 ∧ (a = 0 ∧ b = 0 ∧ c = 0 ∧ d = 0) then (putL [numS id, numS (IntKind.u64.wrap 1), addr], true)
  else (⟨#[]⟩, false)
theorem putAsk_all (id : Int) (addr : ByteArray) (a b c d kind : Int) (w : World) :
    Calls Tryz.prog 75 #[.agg (askC id addr a b c d kind)] w (RetV (.tuple #[.string (putAskR id addr a b c d kind).1, .bool (putAskR id addr a b c d kind).2]) w) := by
  unfold putAskR
  by_cases h : addr.size = 20
  · rw [if_neg (fun h' => h' h)]
    by_cases h2 : kind = 2
    · rw [if_pos h2]
      exact putAsk2_any id addr a b c d kind h h2 w
    · rw [if_neg h2]
      by_cases h1 : kind = 1
      · by_cases hz : a = 0 ∧ b = 0 ∧ c = 0 ∧ d = 0
        · rw [if_pos ⟨h1, hz⟩]
          exact putAsk1_any id addr a b c d kind h h1 hz w
        · rw [if_neg (fun h' => hz h'.2)]
          exact putAsk_slot id addr a b c d kind h h1 hz w
      · rw [if_neg (fun h' => h1 h'.1)]
        exact putAsk_kind id addr a b c d kind h h1 h2 w
  · rw [if_pos h]
    exact putAsk_size id addr a b c d kind h w
def GetAskP (l : List UInt8) (w : World) (e : Ending) (w' : World) : Prop :=
  ((∃ id addr a b c d k, AskD l (some (askC id addr a b c d k)) ∧ (putAskR id addr a b c d k).1 = bs l ∧ e = .returned (.tuple #[.agg (askC id addr a b c d k), .bool true])) ∨
   (e = .returned (.tuple #[.agg zAsk, .bool false]) ∧ (AskD l none ∨ ∃ id addr a b c d k, AskD l (some (askC id addr a b c d k)) ∧ (putAskR id addr a b c d k).1 ≠ bs l))) ∧ Below w.heap.size w w'
theorem askD_form {l : List UInt8} {x : Array Value} (h : AskD l (some x)) : ∃ id addr a b c d k, x = askC id addr a b c d k := by
  generalize ho : some x = o at h
  cases h with
  | bad => cases ho
  | text => cases ho
  | none => cases ho
  | more => cases ho
  | good h ha =>
    cases ho
    exact askR_form ha
theorem bytes_neq {s t : ByteArray} : (!(s.toList == t.toList)) = decide (s ≠ t) := by
  rw [Bool.eq_iff_iff]
  simp only [Bool.not_eq_true', beq_eq_false_iff_ne, decide_eq_true_eq, ByteArray.toList_eq]
  exact ⟨fun h e => h (by rw [e]), fun h e => h (ByteArray.ext (Array.toList_inj.1 e))⟩
set_option maxRecDepth 100000 in
set_option maxHeartbeats 1000000 in
theorem getAsk_any (l : List UInt8) (w : World) : Calls Tryz.prog 22 #[.string (bs l)] w (GetAskP l w) := by
  have HS := Lib.hid ((St.start (ag_emp w)).alloc (.cells zAsk 45))
  go_enter Tryz.func22, Tryz.ntmps22
  go_wp2_with fail
  refine (readAsk_any l _).mono ?_
  rintro e w1 ⟨o, hD, rfl, hb1⟩
  have HD := Lib.hid hD
  have HS1 : Hid (St empH w none_ empH _ [blk w1.heap.size (.cells zAsk 45), blk w.heap.size (.cells zAsk 45)]) := (HS.out.grow hb1).alloc (.cells zAsk 45)
  cases o with
  | none =>
    clear hD hb1 HS
    rw [show (none : Option (Array Value)).getD zAsk = zAsk from rfl, show (none : Option (Array Value)).isSome = false from rfl]
    go_wp2_with (first
      | (refine wpList_store_st (cs := zAsk) 0 HS1.out rfl rfl 45 (.tmp 4) (.tmp 11) rfl rfl rfl szAsk rfl (oneAsk _ _ _ _ _ _ _) ?_)
      | fail)
    intro w2 S2
    have HS2 := Lib.hid S2
    clear S2 HS1
    go_wp2_with (first
      | (refine wpList_load_st (cs := zAsk) 0 HS2.out rfl rfl 45 (.tmp 4) rfl rfl _ Tryz.underlying45 rfl szAsk ?_)
      | fail)
    refine (putAsk_all 0 ⟨#[]⟩ 0 0 0 0 0 _).mono ?_
    rintro e w3 ⟨rfl, hb3⟩
    have HS3 := Lib.hid (HS2.out.grow hb3)
    clear hb3 HS2
    go_wp2_with (first
      | (refine wpList_store_st (cs := zAsk) 1 HS3.out rfl rfl 45 (.tmp 2) (.tmp 25) rfl rfl rfl szAsk rfl (oneAsk _ _ _ _ _ _ _) ?_)
      | fail)
    intro w4 S4
    go_wp2_with fail
    exact post_cell2 0 S4 rfl Tryz.results22 rfl _ Tryz.underlying45 rfl szAsk rfl ⟨.inr ⟨rfl, .inl HD.out⟩, S4.below⟩
  | some x =>
    obtain ⟨id, addr, a, b, c, d, k, rfl⟩ := askD_form hD
    clear hD hb1 HS
    rw [show (some (askC id addr a b c d k)).getD zAsk = askC id addr a b c d k from rfl, show (some (askC id addr a b c d k)).isSome = true from rfl]
    go_wp2_with (first
      | (refine wpList_store_st (cs := askC id addr a b c d k) 0 HS1.out rfl rfl 45 (.tmp 4) (.tmp 11) rfl rfl rfl szAsk rfl (oneAsk _ _ _ _ _ _ _) ?_)
      | fail)
    intro w2 S2
    have HS2 := Lib.hid S2
    clear S2 HS1
    go_wp2_with (first
      | (refine wpList_load_st (cs := askC id addr a b c d k) 0 HS2.out rfl rfl 45 (.tmp 4) rfl rfl _ Tryz.underlying45 rfl szAsk ?_)
      | fail)
    refine (putAsk_all id addr a b c d k _).mono ?_
    rintro e w3 ⟨rfl, hb3⟩
    obtain ⟨t, ht⟩ : ∃ t, t = (putAskR id addr a b c d k).1 := ⟨_, rfl⟩
    rw [← ht]
    have HT := Lib.hid ht
    generalize (putAskR id addr a b c d k).2 = ok
    have HS3 := Lib.hid (HS2.out.grow hb3)
    clear hb3 HS2 ht
    by_cases he : t = bs l
    · have HE := Lib.hid he
      have e1 : (t.toList == (bs l).toList) = true := by rw [he]; simp
      clear he
      go_wp2_with (first
        | (refine wpList_load_st (cs := askC id addr a b c d k) 0 HS3.out rfl rfl 45 (.tmp 4) rfl rfl _ Tryz.underlying45 rfl szAsk ?_)
        | (refine wpList_store_st (cs := askC id addr a b c d k) 1 HS3.out rfl rfl 45 (.tmp 2) (.tmp 26) rfl rfl rfl szAsk rfl (oneAsk _ _ _ _ _ _ _) ?_)
        | fail)
      intro w4 S4
      go_wp2_with fail
      exact post_cell2 0 S4 rfl Tryz.results22 rfl _ Tryz.underlying45 rfl szAsk rfl ⟨.inl ⟨_, _, _, _, _, _, _, HD.out, HT.out ▸ HE.out, rfl⟩, S4.below⟩
    · have HE := Lib.hid he
      have e1 : (t.toList == (bs l).toList) = false := by
        rw [beq_eq_false_iff_ne]
        intro e
        rw [ByteArray.toList_eq, ByteArray.toList_eq] at e
        exact he (ByteArray.ext (Array.toList_inj.1 e))
      clear he
      go_wp2_with (first
        | (refine wpList_store_st (cs := zAsk) 1 HS3.out rfl rfl 45 (.tmp 2) (.tmp 25) rfl rfl rfl szAsk rfl (oneAsk _ _ _ _ _ _ _) ?_)
        | fail)
      intro w4 S4
      go_wp2_with fail
      exact post_cell2 0 S4 rfl Tryz.results22 rfl _ Tryz.underlying45 rfl szAsk rfl ⟨.inr ⟨rfl, .inr ⟨_, _, _, _, _, _, _, HD.out, HT.out ▸ HE.out⟩⟩, S4.below⟩
end Go.Proofs.YtdnpobjokajigaaGreatDoor

namespace Go.Proofs.YtdnpobjokajigaaGreatDoor
open Go.RowKit Go.Proofs K

def askF (l : List UInt8) : Option (Array Value) := match decF l with
  | some (.list k) => (match askR k with | some (a, []) => some a | _ => none)
  | _ => none
theorem askD_of {l : List UInt8} {o : Option (Array Value)} (h : AskD l o) : askF l = o := by
  unfold askF
  cases h with
  | bad h => rw [decF_of h]
  | text h => rw [decF_of h]
  | none h ha => rw [decF_of h]; simp only; rw [ha]
  | @more k k' a h ha hk =>
    rw [decF_of h]
    simp only
    rw [ha]
    cases k' with
    | nil => exact absurd rfl hk
    | cons => rfl
  | good h ha => rw [decF_of h]; simp only; rw [ha]
theorem numR_num {n : Int} (h : W64 n) (l : List It) : numR (.text (numS n) :: l) = some (n, l) := by
  unfold W64 at h
  simp only [numR, numL_ok, if_true, numS_back h.1 h.2]
theorem txtR_size {n : Int} {s : ByteArray} (h : (s.size : Int) = n) (l : List It) : txtR n (.text s :: l) = some (s, l) := by
  simp only [txtR]
  rw [if_pos (.inr h)]
theorem txtR_any {n : Int} (h : n < 0) (s : ByteArray) (l : List It) : txtR n (.text s :: l) = some (s, l) := by
  simp only [txtR]
  rw [if_pos (.inl h)]
theorem askR_one {id : Int} (hid : W64 id) {addr : ByteArray} (h20 : addr.size = 20) : askR ([numS id, numS (IntKind.u64.wrap 1), addr].map It.text) = some (askC id addr 0 0 0 0 1, []) := by
  simp only [List.map_cons, List.map_nil, show IntKind.u64.wrap 1 = 1 from rfl]
  unfold askR
  rw [numR_num hid, Option.bind_some, numR_num ⟨by decide, by decide⟩, Option.bind_some, txtR_size (by rw [h20]; rfl), Option.bind_some]
  rfl
theorem askR_two {id a b c d : Int} (hid : W64 id) {addr : ByteArray} (h20 : addr.size = 20) (ha : W64 a) (hb : W64 b) (hc : W64 c) (hd : W64 d) : askR ([numS id, numS (IntKind.u64.wrap 2), addr, wordS a b c d].map It.text) = some (askC id addr a b c d 2, []) := by
  obtain ⟨e1, e2, e3, e4⟩ := word_back ha hb hc hd
  simp only [List.map_cons, List.map_nil, show IntKind.u64.wrap 2 = 2 from rfl]
  unfold askR
  rw [numR_num hid, Option.bind_some, numR_num ⟨by decide, by decide⟩, Option.bind_some, txtR_size (by rw [h20]; rfl), Option.bind_some]
  simp only
  rw [if_neg (by decide), if_pos (by decide), txtR_size (by rw [wordS_size]; rfl), Option.map_some, e1, e2, e3, e4]
  rfl
theorem put_len4 {ts : List ByteArray} (h : ts.length ≤ 10) (hs : ∀ s ∈ ts, s.size ≤ 6000) : (putL ts).data.toList.length ≤ 65536 := by
  have e : (putL ts).data.toList = aheadL 192 (encL (ts.map It.text)).length ++ encL (ts.map It.text) := by simp [putL, It.bytes, It.enc]
  have h1 : ∀ ts : List ByteArray, (∀ s ∈ ts, s.size ≤ 6000) → (encL (ts.map It.text)).length ≤ ts.length * 6009 := by
    intro ts
    induction ts with
    | nil => intro _; simp [encL]
    | cons s ts ih =>
      intro h
      have h2 := ih fun x hx => h x (List.mem_cons_of_mem _ hx)
      have h3 := h s (List.mem_cons_self ..)
      have h4 : (textL s).length ≤ s.size + 9 := by
        have h5 := sizeL s
        unfold textL
        split
        · rename_i c hc
          rw [hc] at h5
          split
          · simp
          · rw [List.length_append, show aheadL 128 1 = [UInt8.ofNat 129] from rfl]; simp
        · rw [List.length_append]
          have := aheadL_len 128 s.data.toList.length
          omega
      rw [List.map_cons, encL, It.enc, List.length_append, List.length_cons, Nat.succ_mul]
      omega
  have h2 := h1 ts hs
  have h3 := Nat.mul_le_mul_right 6009 h
  have h4 := aheadL_len 192 (encL (ts.map It.text)).length
  rw [e, List.length_append]
  omega
/-- An ask that is one. -/
def AskOk (id : Int) (addr : ByteArray) (a b c d kind : Int) : Prop := addr.size = 20 ∧ (kind = 2 ∨ kind = 1 ∧ a = 0 ∧ b = 0 ∧ c = 0 ∧ d = 0)
def askTs (id : Int) (addr : ByteArray) (a b c d kind : Int) : List ByteArray := if kind = 2 then [numS id, numS (IntKind.u64.wrap 2), addr, wordS a b c d] else [numS id, numS (IntKind.u64.wrap 1), addr]
theorem putAskR_ok {id : Int} {addr : ByteArray} {a b c d kind : Int} (h : AskOk id addr a b c d kind) : putAskR id addr a b c d kind = (putL (askTs id addr a b c d kind), true) := by
  unfold putAskR askTs
  rw [if_neg (fun h' => h' h.1)]
  rcases h.2 with h2 | ⟨h1, h3⟩
  · rw [if_pos h2, if_pos h2]
  · have h2 : ¬ kind = 2 := by omega
    rw [if_neg h2, if_pos ⟨h1, h3⟩, if_neg h2]
theorem putAskR_no {id : Int} {addr : ByteArray} {a b c d kind : Int} (h : ¬ AskOk id addr a b c d kind) : putAskR id addr a b c d kind = (⟨#[]⟩, false) := by
  unfold putAskR
  split
  · rfl
  · rename_i h20
    have h20' : addr.size = 20 := Decidable.of_not_not h20
    rw [if_neg (fun h2 => h ⟨h20', .inl h2⟩), if_neg (fun h1 => h ⟨h20', .inr h1⟩)]
theorem askTs_len {id : Int} {addr : ByteArray} {a b c d kind : Int} (h20 : addr.size = 20) : (putL (askTs id addr a b c d kind)).data.toList.length ≤ 65536 := by
  unfold askTs
  have h0 := numS_size id
  have h1 := numS_size (IntKind.u64.wrap 1)
  have h2 := numS_size (IntKind.u64.wrap 2)
  have h3 := wordS_size a b c d
  split
  · refine put_len4 (by simp) fun s hs => ?_
    simp only [List.mem_cons, List.not_mem_nil, or_false] at hs
    rcases hs with rfl | rfl | rfl | rfl <;> omega
  · refine put_len4 (by simp) fun s hs => ?_
    simp only [List.mem_cons, List.not_mem_nil, or_false] at hs
    rcases hs with rfl | rfl | rfl <;> omega
theorem askF_put {id : Int} {addr : ByteArray} {a b c d kind : Int} (hid : W64 id) (ha : W64 a) (hb : W64 b) (hc : W64 c) (hd : W64 d) (h : AskOk id addr a b c d kind) : askF (putL (askTs id addr a b c d kind)).data.toList = some (askC id addr a b c d kind) := by
  unfold askF
  rw [decF_put (askTs_len h.1)]
  simp only
  rcases h.2 with rfl | ⟨rfl, rfl, rfl, rfl, rfl⟩
  · rw [show askTs id addr a b c d 2 = [numS id, numS (IntKind.u64.wrap 2), addr, wordS a b c d] from rfl, askR_two hid h.1 ha hb hc hd]
  · rw [show askTs id addr 0 0 0 0 1 = [numS id, numS (IntKind.u64.wrap 1), addr] from rfl, askR_one hid h.1]
theorem bs_list (s : ByteArray) : bs s.data.toList = s := bytes_list rfl
theorem askC_inj {id id' : Int} {addr addr' : ByteArray} {a b c d k a' b' c' d' k' : Int} (h : askC id addr a b c d k = askC id' addr' a' b' c' d' k') : id = id' ∧ addr = addr' ∧ a = a' ∧ b = b' ∧ c = c' ∧ d = d' ∧ k = k' := by
  simpa [askC] using h
/-- What GetAsk answers, by plain words. -/
theorem getAsk_is {l : List UInt8} {w w' : World} {e : Ending} (h : GetAskP l w e w') : (∃ id addr a b c d k, askF l = some (askC id addr a b c d k) ∧ (putAskR id addr a b c d k).1 = bs l ∧ e = .returned (.tuple #[.agg (askC id addr a b c d k), .bool true])) ∨
    (e = .returned (.tuple #[.agg zAsk, .bool false]) ∧ ∀ id addr a b c d k, askF l = some (askC id addr a b c d k) → (putAskR id addr a b c d k).1 ≠ bs l) := by
  rcases h.1 with ⟨id, addr, a, b, c, d, k, hD, hp, he⟩ | ⟨he, hD | ⟨id, addr, a, b, c, d, k, hD, hp⟩⟩
  · exact .inl ⟨_, _, _, _, _, _, _, askD_of hD, hp, he⟩
  · refine .inr ⟨he, fun id addr a b c d k hf => ?_⟩
    rw [askD_of hD] at hf
    cases hf
  · refine .inr ⟨he, fun id' addr' a' b' c' d' k' hf => ?_⟩
    rw [askD_of hD, Option.some.injEq] at hf
    obtain ⟨rfl, rfl, rfl, rfl, rfl, rfl, rfl⟩ := askC_inj hf
    exact hp
theorem getAsk_back {id : Int} {addr : ByteArray} {a b c d kind : Int} (hid : W64 id) (ha : W64 a) (hb : W64 b) (hc : W64 c) (hd : W64 d) (h : AskOk id addr a b c d kind) {w w' : World} {e : Ending} (hG : GetAskP (putL (askTs id addr a b c d kind)).data.toList w e w') :
    e = .returned (.tuple #[.agg (askC id addr a b c d kind), .bool true]) := by
  have hf := askF_put hid ha hb hc hd h
  rcases getAsk_is hG with ⟨id', addr', a', b', c', d', k', hf', _, he⟩ | ⟨_, hn⟩
  · rw [hf, Option.some.injEq] at hf'
    rw [he, ← hf']
  · exact absurd (by rw [putAskR_ok h, bs_list]) (hn _ _ _ _ _ _ _ hf)
end Go.Proofs.YtdnpobjokajigaaGreatDoor

namespace Go.Proofs.YtdnpobjokajigaaGreatDoor
open Go.RowKit Go.Proofs K

def replyC (id nonce a b c d : Int) (code : ByteArray) (e f g h : Int) : Array Value := #[.int .u64 id, .int .u64 nonce, .int .u64 a, .int .u64 b, .int .u64 c, .int .u64 d, .string code, .int .u64 e, .int .u64 f, .int .u64 g, .int .u64 h]
def zReply : Array Value := replyC 0 0 0 0 0 0 ⟨#[]⟩ 0 0 0 0
def replyR (kind : Int) (l : List It) : Option (Array Value × List It) :=
  (numR l).bind fun x =>
    if kind = 2 then (txtR 32 x.2).map fun s => (replyC x.1 0 0 0 0 0 ⟨#[]⟩ (ofL s.1 s.1.size 3) (ofL s.1 s.1.size 2) (ofL s.1 s.1.size 1) (ofL s.1 s.1.size 0), s.2)
    else (numR x.2).bind fun y => (txtR 32 y.2).bind fun s => (txtR (-1) s.2).bind fun t =>
      if 24576 < t.1.size then none else some (replyC x.1 y.1 (ofL s.1 s.1.size 3) (ofL s.1 s.1.size 2) (ofL s.1 s.1.size 1) (ofL s.1 s.1.size 0) t.1 0 0 0 0, t.2)
theorem szReply : (Tryz.prog.info? 37).map (·.size) = some 11 := by kernel_rfl
theorem oneReply (id nonce a b c d : Int) (code : ByteArray) (e f g h : Int) : (replyC id nonce a b c d code e f g h).all (·.oneCell') = true := by simp [replyC, Value.oneCell']
end Go.Proofs.YtdnpobjokajigaaGreatDoor

namespace Go.Proofs.YtdnpobjokajigaaGreatDoor
open Go.RowKit Go.Proofs K

def cstep (x : Int) : Int := bits BinOp.xor IntKind.u32 (x / 2) (3988292384 * bits BinOp.and IntKind.u32 x 1 % 4294967296)
def csteps : Nat → Int → Int
  | 0, x => x
  | m + 1, x => cstep (csteps m x)
theorem csteps_bd {x : Int} (h0 : 0 ≤ x) (h1 : x < 4294967296) : ∀ m, 0 ≤ csteps m x ∧ csteps m x < 4294967296
  | 0 => ⟨h0, h1⟩
  | m + 1 => by
    have e : csteps (m + 1) x = bits BinOp.xor IntKind.u32 (csteps m x / 2) (3988292384 * bits BinOp.and IntKind.u32 (csteps m x) 1 % 4294967296) := rfl
    rw [e]
    have h2 := bits_lo_u32 BinOp.xor (csteps m x / 2) (3988292384 * bits BinOp.and IntKind.u32 (csteps m x) 1 % 4294967296)
    have h3 := bits_hi_u32 BinOp.xor (csteps m x / 2) (3988292384 * bits BinOp.and IntKind.u32 (csteps m x) 1 % 4294967296)
    omega
def tabC (k : Nat) : Array Value := ((List.range 256).map fun j => Value.int .u32 (if j < k then csteps 8 (j : Int) else 0)).toArray
theorem tabC_at (k : Nat) {j : Nat} (h : j < 256) : (tabC k)[j]? = some (.int .u32 (if j < k then csteps 8 (j : Int) else 0)) := by
  simp [tabC, h]
theorem tabC_set {k : Nat} (h : k < 256) : (tabC k).setIfInBounds k (.int .u32 (csteps 8 (k : Int))) = tabC (k + 1) := by
  apply Array.ext_getElem?
  intro j
  rw [Array.getElem?_setIfInBounds]
  by_cases hj : j < 256
  · rw [tabC_at _ hj, tabC_at _ hj]
    by_cases e : k = j
    · rw [if_pos e, if_pos (by simp [tabC]; omega), if_pos (by omega), e]
    · rw [if_neg e]
      by_cases h2 : j < k
      · rw [if_pos h2, if_pos (by omega)]
      · rw [if_neg h2, if_neg (by omega)]
  · have e1 : ∀ k, (tabC k)[j]? = none := fun k => Array.getElem?_eq_none (by simp [tabC]; omega)
    rw [e1, e1, if_neg (by omega)]
theorem tabC_size (k : Nat) : (tabC k).size = 256 := by simp [tabC]
theorem tabC_one (k : Nat) : (tabC k).all (·.oneCell') = true := by
  rw [Array.all_eq_true]
  intro i hi
  have h : i < 256 := by rw [tabC_size] at hi; exact hi
  have h2 := tabC_at k h
  rw [Array.getElem?_eq_getElem hi] at h2
  rw [Option.some.inj h2]
  rfl
theorem szTab : (Tryz.prog.info? 325).map (·.size) = some 256 := by kernel_rfl

set_option maxRecDepth 100000 in
theorem table_any (w : World) : Calls Tryz.prog 218 #[] w (RetV (.agg (tabC 256)) w) := by
  go_enter Tryz.func218, Tryz.ntmps218
  go_wp2_with fail
  have HS2 : Hid (St empH w none_ empH _ [blk w.heap.size (.cells (tabC 0) 325)]) := Lib.hid ((St.start (ag_emp w)).alloc (.cells (tabC 0) 325))
  go_loopw [3] (fun i wr => ∃ k : Nat, i = .int .i64 k ∧ k ≤ 256 ∧ Hid (St empH w none_ empH wr [blk w.heap.size (.cells (tabC k) 325)])) (fun i _ => 256 - (intOf i).toNat)
  case atStart => exact ⟨0, rfl, by omega, HS2⟩
  case round =>
    clear HS2
    obtain ⟨k, rfl, hk, HS⟩ := hrel
    by_cases hlt : k < 256
    · go_wp2_with fail
      go_loop [2, 8] (fun n i => ∃ m : Nat, i = .int .i64 m ∧ m ≤ 8 ∧ n = .int .u32 (csteps m (k : Int))) (fun _ i => 8 - (intOf i).toNat)
      case atStart => exact ⟨0, rfl, by omega, rfl⟩
      case round =>
        obtain ⟨m, rfl, hm, rfl⟩ := hrel
        obtain ⟨hx0, hx1⟩ := csteps_bd (x := (k : Int)) (by omega) (by omega) m
        by_cases hlt2 : m < 8
        · go_wp2_with fail
          go_round
          case rel => exact ⟨m + 1, by go_num, by omega, rfl⟩
          case measure => simp [intOf]; omega
        · obtain rfl : m = 8 := by omega
          have hc2 : wr.cell? ⟨w.heap.size, k, none⟩ = some _ := HS.out.cell 0 rfl (tabC_at k hlt)
          have hf2 : wr.frozen? ⟨w.heap.size, k, none⟩ = false := HS.out.frozen 0 rfl _
          go_wp2_with fail
          go_roundw
          case rel =>
            have S := HS.out.setCell (j := k) 0 rfl (.int .u32 (csteps 8 (k : Int)))
            rw [tabC_set hlt] at S
            exact ⟨k + 1, by go_num, by omega, S⟩
          case measure => simp [intOf]; omega
    · obtain rfl : k = 256 := by omega
      go_wp2_with (first
        | (refine wpList_load_st (cs := tabC 256) 0 HS.out rfl rfl 325 (.tmp 0) rfl rfl _ Tryz.underlying325 rfl szTab ?_)
        | (refine wpList_store_st (cs := tabC 256) 0 HS.out rfl rfl 325 (.tmp 0) (.tmp 21) rfl rfl rfl szTab rfl (tabC_one _) ?_)
        | fail)
      intro w4 S4
      go_wp2_with fail
      exact post_cell 0 S4 rfl Tryz.results218 rfl _ Tryz.underlying325 rfl szTab rfl ⟨rfl, S4.below⟩

def cbyte (t : Int) (b : Int) : Int := bits BinOp.xor IntKind.u32 (t / 256) (csteps 8 (bits BinOp.xor IntKind.u8 (t % 256) b))
theorem cbyte_bd (t b : Int) : 0 ≤ cbyte t b ∧ cbyte t b < 4294967296 := by
  have h2 := bits_lo_u32 BinOp.xor (t / 256) (csteps 8 (bits BinOp.xor IntKind.u8 (t % 256) b))
  have h3 := bits_hi_u32 BinOp.xor (t / 256) (csteps 8 (bits BinOp.xor IntKind.u8 (t % 256) b))
  unfold cbyte
  omega

def cmore (t : Int) (l : List UInt8) : Int := l.foldl (fun t b => cbyte t (b.toNat : Int)) t
theorem cmore_bd {t : Int} (h0 : 0 ≤ t) (h1 : t < 4294967296) : ∀ l, 0 ≤ cmore t l ∧ cmore t l < 4294967296 := by
  intro l
  induction l generalizing t with
  | nil => exact ⟨h0, h1⟩
  | cons b l ih => exact ih (cbyte_bd _ _).1 (cbyte_bd _ _).2
theorem cmore_snoc (t : Int) (s : ByteArray) {k : Nat} (h : k < s.size) : cmore t (s.data.toList.take (k + 1)) = cbyte (cmore t (s.data.toList.take k)) (s[k].toNat : Int) := by
  unfold cmore
  rw [List.take_succ_eq_append_getElem (by simpa using h), List.foldl_append]
  rfl
def cnot (x : Int) : Int := bits BinOp.xor IntKind.u32 IntKind.u32.max x
theorem cnot_bd (x : Int) : 0 ≤ cnot x ∧ cnot x < 4294967296 := ⟨bits_lo_u32 _ _ _, by have := bits_hi_u32 BinOp.xor IntKind.u32.max x; unfold cnot; omega⟩
def crcI (t : Int) (s : ByteArray) : Int := cnot (cmore (cnot t) s.data.toList)

set_option maxRecDepth 100000 in
theorem more_any (t : Int) (s : ByteArray) (hs : s.size ≤ 140737488355328) (w : World) : Calls Tryz.prog 176 #[.int .u32 t, .string s] w (RetV (.int .u32 (crcI t s)) w) := by
  go_enter Tryz.func176, Tryz.ntmps176
  go_wp2_with fail
  refine (table_any _).mono ?_
  rintro e w1 ⟨rfl, hb1⟩
  have HS1 := Lib.hid ((St.of_below (ag_emp w) hb1).alloc (.cells (tabC 0) 325))
  clear hb1
  go_wp2_with (first
    | (refine wpList_store_st (cs := tabC 256) 0 HS1.out rfl rfl 325 (.tmp 5) (.tmp 7) rfl rfl rfl szTab rfl (tabC_one _) ?_)
    | fail)
  intro w2 S2
  have HS2 := Lib.hid S2
  clear S2 HS1
  go_wp2_with fail
  go_loopw [0, 12] (fun n i wr => ∃ k : Nat, i = .int .i64 k ∧ k ≤ s.size ∧ n = .int .u32 (cmore (cnot t) (s.data.toList.take k)) ∧ Hid (St empH w none_ empH wr [blk w1.heap.size (.cells (tabC 256) 325)])) (fun _ i _ => s.size - (intOf i).toNat)
  case atStart => exact ⟨0, rfl, by omega, rfl, HS2⟩
  case round =>
    clear HS2
    obtain ⟨k, rfl, hk, rfl, HS⟩ := hrel
    by_cases hlt : k < s.size
    · have hsn := Lib.hid (cmore_snoc (cnot t) s hlt)
      obtain ⟨hx0, hx1⟩ := cmore_bd (cnot_bd t).1 (cnot_bd t).2 (s.data.toList.take k)
      obtain ⟨x, hx⟩ : ∃ x, x = cmore (cnot t) (s.data.toList.take k) := ⟨_, rfl⟩
      rw [← hx] at hsn hx0 hx1 ⊢
      have HX := Lib.hid hx
      clear hx
      have hb0 := bits_lo_u8 BinOp.xor (x % 256) (s[k].toNat : Int)
      have hb1 := bits_hi_u8 BinOp.xor (x % 256) (s[k].toNat : Int)
      have hc2 : wr.cell? ⟨w1.heap.size, (bits BinOp.xor IntKind.u8 (x % 256) (s[k].toNat : Int)).toNat, none⟩ = some (.int .u32 (csteps 8 (bits BinOp.xor IntKind.u8 (x % 256) (s[k].toNat : Int)))) := by
        rw [HS.out.cell 0 rfl (tabC_at 256 (by omega)), if_pos (by omega), Int.toNat_of_nonneg hb0]
      go_wp2_with fail
      go_roundw
      case rel => exact ⟨k + 1, by go_num, by omega, by rw [hsn.out]; rfl, HS⟩
      case measure => simp [intOf]; omega
    · obtain rfl : k = s.size := by omega
      obtain ⟨hx0, hx1⟩ := cmore_bd (cnot_bd t).1 (cnot_bd t).2 (s.data.toList.take s.size)
      go_wp2_with fail
      go_ret
      rw [List.take_of_length_le (by simp)]
      exact ⟨rfl, HS.out.below⟩
theorem sum_any (s : ByteArray) (hs : s.size ≤ 140737488355328) (w : World) : Calls Tryz.prog 133 #[.string s] w (RetV (.int .u32 (crcI 0 s)) w) := by
  go_enter Tryz.func133, Tryz.ntmps133
  go_wp2_with fail
  refine (more_any 0 s hs _).mono ?_
  rintro e w1 ⟨rfl, hb1⟩
  go_wp2_with fail
  go_ret
  exact ⟨rfl, hb1⟩
end Go.Proofs.YtdnpobjokajigaaGreatDoor

namespace Go.Proofs.YtdnpobjokajigaaGreatDoor
open Go.RowKit Go.Proofs K

def sumL (n : Int) : List Int := [n / 16777216, n / 65536 % 256, n / 256 % 256, n % 256]
def sumS (s : ByteArray) : ByteArray := strOfNums (sumL (crcI 0 s))
set_option maxRecDepth 100000 in
theorem wsum_any (s : ByteArray) (hs : s.size ≤ 140737488355328) (w : World) : Calls Tryz.prog 69 #[.string s] w (RetV (.string (sumS s)) w) := by
  obtain ⟨h0, h1⟩ := cnot_bd (cmore (cnot 0) s.data.toList)
  go_enter Tryz.func69, Tryz.ntmps69
  go_wp2_with fail
  refine (sum_any s hs _).mono ?_
  rintro e w1 ⟨rfl, hb1⟩
  obtain ⟨n, hn⟩ : ∃ n, n = crcI 0 s := ⟨_, rfl⟩
  rw [← hn]
  have h0 : 0 ≤ n := by rw [hn]; exact h0
  have h1 : n < 4294967296 := by rw [hn]; exact h1
  have HN := Lib.hid hn
  clear hn
  have hconv := run_convert_bytes_arg (w1.alloc (.cells #[.int .u8 (n / 16777216), .int .u8 (n / 65536 % 256), .int .u8 (n / 256 % 256), .int .u8 (n % 256)] 5)) 144 5 Tryz.underlying144 Tryz.underlying5 w1.heap.size 0 4 4 (sumL n) rfl (fun i hi => by
    rw [cell_of_row _ _ _ _ _ _ (heap_alloc_new w1 _)]
    rcases (by omega : i = 0 ∨ i = 1 ∨ i = 2 ∨ i = 3) with e | e | e | e <;> rw [e] <;> rfl) 9 Tryz.underlying9
  go_wp2_with fail
  go_ret
  exact ⟨by rw [HN.out]; rfl, hb1.alloc hb1.size _⟩
end Go.Proofs.YtdnpobjokajigaaGreatDoor
