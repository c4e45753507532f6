/-
  What is told by bytes.
-/
import Derived.Test.YtfphlkkhpccpnaaDoorRepR
import Derived.Test.YtfphlkkhpccpnaaDoorGetA
namespace Go.Proofs.YtfphlkkhpccpnaaDoor
open Go.RowKit Go.Proofs K

section
variable {H0 H : Hs} {w0 w : World} {X : Nat → Prop} {ps : List Hp} {p : Nat}
set_option maxRecDepth 100000 in
theorem repc_catch {cs0 : Array Value} (h7 : cs0.size = 11) (S : St H0 w0 X H w (blk p (.cells cs0 42) :: blk (p + 1) (flagO false) :: ps)) (older : List PanicEntry) :
    CallsD Tryd.prog 74 #[.pointer (some ⟨p, 0, none⟩), .pointer (some ⟨p + 1, 0, none⟩)] (.panicking ({ v := refusedV, recovered := false } :: older)) w fun e u' w' =>
      e = .returned (.tuple #[]) ∧ u' = .panicking ({ v := refusedV, recovered := true } :: older) ∧ St H0 w0 X H w' (blk (p + 1) (flagO false) :: blk p (.cells zReply 42) :: ps) := by
  refine callsD_of_wpS Tryd.func74 rfl fun c₀ cs hu => ?_
  unfold refusedV at hu
  have hta : ∀ w, (Instr.typeAssert (.iface 106 (.agg #[])) 20 106 true).run Tryd.prog w = .ok (.tuple #[.agg #[], .bool true]) w := fun w => by kernel_rfl
  simp only [Tryd.ntmps74, List.size_toArray, List.length_cons, List.length_nil, Nat.reduceAdd, Nat.reduceSub, Array.replicate_succ, Array.replicate_zero, List.push_toArray, List.append_toArray, List.nil_append, List.cons_append]
  apply wpS_seq
  apply wpS_region
  simp [wpOpsS, go_sem, recoverD, hu, Exit.thenS, hta]
  apply wpS_seq
  apply wpS_region
  simp [wpOpsS, go_sem, Exit.thenS]
  obtain ⟨w1, hw1⟩ : ∃ w1, w1 = w.alloc (.cells #[] 106) := ⟨_, rfl⟩
  have S1 : St H0 w0 X H w1 (blk p (.cells cs0 42) :: blk (p + 1) (flagO false) :: ps) := hw1 ▸ (S.alloc (.cells #[] 106)).drop 0
  rw [← hw1]
  have HS1 := Lib.hid S1
  have HS2 := Lib.hid (S1.alloc (.cells zReply 42))
  clear S1 S hw1
  refine wpS_cond (t := true) rfl ?_
  simp only [if_true]
  refine wpS_of_wp ?_
  go_wp2_with (first
    | (refine wpList_load_st (cs := zReply) 0 HS2.out rfl rfl 42 (.tmp 4) rfl rfl _ Tryd.underlying42 rfl szReply ?_)
    | (refine wpList_store_st (cs := zReply) 1 HS2.out rfl rfl 42 (.tmp 0) (.tmp 11) rfl rfl rfl szReply h7 (oneReply _ _ _ _ _ _ _ _ _ _ _) ?_)
    | fail)
  intro w4 S4
  have d0 : w4.cell? ⟨p + 1, 0, none⟩ = some (.bool false) := by have hbk := S4.blk_at 2 rfl; rw [cell_of_row _ _ _ _ _ _ hbk]; rfl
  have g0 := S4.frozen 2 rfl 0
  have HS4 := Lib.hid ((S4.setCell (j := 0) 2 rfl (.bool false)).drop 2)
  clear S4 HS2 HS1
  go_wp2_with fail
  exact ⟨rfl, _, rfl, _, by simp [results, Tryd.results74], rfl, rfl, HS4.out⟩
set_option maxRecDepth 100000 in
theorem repc_idle (S : St H0 w0 X H w ps) (a b : Addr) :
    CallsD Tryd.prog 74 #[.pointer (some a), .pointer (some b)] .returning w fun e u' w' =>
      e = .returned (.tuple #[]) ∧ u' = .returning ∧ St H0 w0 X H w' ps := by
  refine callsD_of_wpS Tryd.func74 rfl fun c₀ cs hu => ?_
  have hta : ∀ w, (Instr.typeAssert .nilIface 20 106 true).run Tryd.prog w = .ok (.tuple #[.agg #[], .bool false]) w := fun w => by kernel_rfl
  simp only [Tryd.ntmps74, List.size_toArray, List.length_cons, List.length_nil, Nat.reduceAdd, Nat.reduceSub, Array.replicate_succ, Array.replicate_zero, List.push_toArray, List.append_toArray, List.nil_append, List.cons_append]
  apply wpS_seq
  apply wpS_region
  simp [wpOpsS, go_sem, recoverD, hu, Exit.thenS, hta]
  apply wpS_seq
  apply wpS_region
  simp [wpOpsS, go_sem, Exit.thenS]
  refine wpS_cond (t := false) rfl ?_
  simp only [Bool.false_eq_true, if_false]
  refine wpS_of_wp (wp_skip ?_)
  have S1 := (S.alloc (.cells #[] 106)).drop 0
  cases c₀
  simp_all [bodyPostS, results, Tryd.results74]
end

/-- The item of bytes, if it is a list: what read tells. -/
inductive ReplyD (kind : Int) : List UInt8 → Option (Array Value) → Prop
  | bad {l : List UInt8} (h : DecR l none) : ReplyD kind l none
  | text {l : List UInt8} {s : ByteArray} (h : DecR l (some (.text s))) : ReplyD kind l none
  | none {l : List UInt8} {k : List It} (h : DecR l (some (.list k))) (ha : replyR kind k = none) : ReplyD kind l none
  | more {l : List UInt8} {k k' : List It} {a : Array Value} (h : DecR l (some (.list k))) (ha : replyR kind k = some (a, k')) (hk : k' ≠ []) : ReplyD kind l none
  | good {l : List UInt8} {k : List It} {a : Array Value} (h : DecR l (some (.list k))) (ha : replyR kind k = some (a, [])) : ReplyD kind l (some a)
def ReplyP (kind : Int) (l : List UInt8) (w : World) (e : Ending) (w' : World) : Prop := ∃ o, ReplyD kind l o ∧ e = .returned (.tuple #[.agg (o.getD zReply), .bool o.isSome]) ∧ Below w.heap.size w w'
theorem replyR_len {kind : Int} {l l' : List It} {a : Array Value} (h : replyR kind l = some (a, l')) : l'.length ≤ l.length := by
  unfold replyR at h
  obtain ⟨x, h1, h⟩ := Option.bind_eq_some_iff.1 h
  have e1 := numR_len (n := x.1) (l' := x.2) h1
  split at h
  · obtain ⟨t, h4, h⟩ := Option.map_eq_some_iff.1 h
    have e4 := txtR_len (s := t.1) (l' := t.2) h4
    cases h
    omega
  · obtain ⟨y, h2, h⟩ := Option.bind_eq_some_iff.1 h
    obtain ⟨z, h3, h⟩ := Option.bind_eq_some_iff.1 h
    obtain ⟨t, h4, h⟩ := Option.bind_eq_some_iff.1 h
    have e2 := numR_len (n := y.1) (l' := y.2) h2
    have e3 := txtR_len (s := z.1) (l' := z.2) h3
    have e4 := txtR_len (s := t.1) (l' := t.2) h4
    split at h
    · cases h
    · cases h; omega
theorem replyR_form {kind : Int} {l l' : List It} {x : Array Value} (h : replyR kind l = some (x, l')) : ∃ id nn a b c d code e f g h, x = replyC id nn a b c d code e f g h := by
  unfold replyR at h
  obtain ⟨x, h1, h⟩ := Option.bind_eq_some_iff.1 h
  split at h
  · obtain ⟨t, h4, h⟩ := Option.map_eq_some_iff.1 h
    cases h
    exact ⟨_, _, _, _, _, _, _, _, _, _, _, rfl⟩
  · obtain ⟨y, h2, h⟩ := Option.bind_eq_some_iff.1 h
    obtain ⟨z, h3, h⟩ := Option.bind_eq_some_iff.1 h
    obtain ⟨t, h4, h⟩ := Option.bind_eq_some_iff.1 h
    split at h
    · cases h
    · cases h
      exact ⟨_, _, _, _, _, _, _, _, _, _, _, rfl⟩
/-- The results, read at the end. -/
theorem readDoneR {Hk H : Hs} {w w5 : World} {qs : List Hp} {id nn a b c d e f g h : Int} {code : ByteArray} {bb : Bool} {R : Ending → World → Prop} (S : St Hk w none_ H w5 qs) (i j : Nat) (hi : qs[i]? = some (blk w.heap.size (.cells (replyC id nn a b c d code e f g h) 42))) (hj : qs[j]? = some (blk (w.heap.size + 1) (flagO bb)))
    {tmps : Array Value} (h4 : tmps[4]? = some (.pointer (some ⟨w.heap.size, 0, none⟩))) (h5 : tmps[5]? = some (.pointer (some ⟨w.heap.size + 1, 0, none⟩))) (hR : R (.returned (.tuple #[.agg (replyC id nn a b c d code e f g h), .bool bb])) w5) : Leaves Tryd.prog Tryd.f49 tmps R [] .returning w5 := by
  refine ⟨_, ?_, hR⟩
  have hl := run_loadVar_row (P := Tryd.prog) w5 w.heap.size 42 42 _ _ _ (S.blk_at i hi) Tryd.underlying42 rfl szReply
  have k3 := cell_of_row _ _ 0 _ _ _ (S.blk_at j hj)
  simp at k3
  have h4' : tmps[4]?.getD undef = .pointer (some ⟨w.heap.size, 0, none⟩) := by rw [h4]; rfl
  have h5' : tmps[5]?.getD undef = .pointer (some ⟨w.heap.size + 1, 0, none⟩) := by rw [h5]; rfl
  have hl2 : (loadVar 4 ⟨w.heap.size + 1, 0, none⟩).run Tryd.prog w5 = .ok (.bool bb) w5 := by simp [go_sem, k3]
  simp [results, Tryd.results49, h4', h5', asAddr, hl, hl2]
set_option maxRecDepth 100000 in
set_option maxHeartbeats 1000000 in
theorem readReply_any (kind : Int) {Hk : Hs} (kb : Nat) (hkb : Hk kb = some (.cells #[.int .i64 kind] 3 (0, 0))) (l : List UInt8) (w : World) (hw : Ag Hk w) : Calls Tryd.prog 49 #[.string (bs l), .func (.func 50) #[] #[.pointer (some ⟨kb, 0, none⟩)]] w (ReplyP kind l w) := by
  have hp : ∀ w, (Instr.panic (.iface 106 (.agg #[]))).run Tryd.prog w = .halt (.panic (.iface 106 (.agg #[]))) w := fun _ => rfl
  have hmf : ∀ (fn : Fn) (first cap : Array Value) (w : World), (Instr.makeFunc fn first cap).run Tryd.prog w = .ok (.func fn first cap) w := fun _ _ _ _ => rfl
  have HKB := Lib.hid hkb
  have HS := Lib.hid (((St.start hw).alloc (.cells zReply 42)).alloc' (flagO false) (w.heap.size + 1) (by simp))
  clear hw hkb
  go_enter_defers Tryd.func49, Tryd.ntmps49
  go_wp2_with fail
  refine (decodeL l HS.out.ag).mono ?_
  rintro e0 w1 hD
  rcases hD with ⟨i, x, y, z, H1, hR, rfl, hrep, S1⟩ | ⟨n, hR, hn, rfl, S1⟩
  · have HR := Lib.hid hR
    have HREP := Lib.hid hrep
    have HS0 := Lib.hid (HS.out.more S1)
    cases i with
    | text s =>
      obtain ⟨A1, c1, rfl, rfl, rfl⟩ := text_cells hrep
      have HS1 : Hid (St Hk w none_ H1 _ [blk w.heap.size (.cells zReply 42), blk (w.heap.size + 1) (flagO false), blk w1.heap.size (.cells #[.bool false, .string s, .slice A1 0 c1] 76)]) := ((HS0.out.alloc (.cells #[.bool false, .string s, .slice A1 0 c1] 76)).pick 1 rfl).pick 2 rfl
      clear hR hrep S1 HS HS0
      go_wp2_with (first
        | (refine wpList_load_st (cs := zReply) 0 HS1.out rfl rfl 42 (.tmp 4) rfl rfl _ Tryd.underlying42 rfl szReply ?_)
        | (refine wpList_store_st (cs := zReply) 0 HS1.out rfl rfl 42 (.tmp 4) (.tmp 22) rfl rfl rfl szReply rfl (oneReply _ _ _ _ _ _ _ _ _ _ _) ?_)
        | fail)
      intro w4 S4
      have d0 : w4.cell? ⟨w.heap.size + 1, 0, none⟩ = some (.bool false) := by have hbk := S4.blk_at 1 rfl; rw [cell_of_row _ _ _ _ _ _ hbk]; rfl
      have g0 := S4.frozen 1 rfl 0
      have HS4 := Lib.hid (S4.setCell (j := 0) 1 rfl (.bool false))
      clear S4 HS1
      go_wp2_with fail
      refine leaves_cons (f := 74) (args := #[.pointer (some ⟨w.heap.size, 0, none⟩), .pointer (some ⟨w.heap.size + 1, 0, none⟩)]) (by simp) (by simp [go_sem]) ?_
      refine (repc_idle HS4.out _ _).mono ?_
      rintro e0 u' w5 ⟨rfl, rfl, S3⟩
      simp only [settle]
      exact readDoneR S3 1 0 rfl rfl rfl rfl ⟨none, .text HR.out, rfl, S3.below⟩
    | list k =>
      obtain ⟨A1, c1, rfl, rfl, rfl, hv⟩ := list_cells hrep
      have HV := Lib.hid hv
      have HKL := Lib.hid (decR_len HR.out)
      have HS1 : Hid (St Hk w none_ H1 ((w1.alloc (.cells #[.bool true, .string ⟨#[]⟩, .slice A1 k.length c1] 76)).alloc (fldO (.slice A1 k.length c1))) [blk (w1.heap.size + 1) (fldO (.slice A1 k.length c1)), blk w.heap.size (.cells zReply 42), blk (w.heap.size + 1) (flagO false), blk w1.heap.size (.cells #[.bool true, .string ⟨#[]⟩, .slice A1 k.length c1] 76)]) := (((HS0.out.alloc (.cells #[.bool true, .string ⟨#[]⟩, .slice A1 k.length c1] 76)).pick 1 rfl).pick 2 rfl).alloc' _ (w1.heap.size + 1) (by simp)
      clear hR hrep S1 HS HS0 hv
      go_wp2_with fail
      refine (reply_any kind kb (HS1.out.le _ _ HKB.out) k HKL.out HS1.out 0 rfl HV.out).mono ?_
      intro e0 w2 hM
      cases ha : replyR kind k with
      | none =>
        rw [ha] at hM
        obtain ⟨rfl, S2⟩ := hM
        have HA := Lib.hid ha
        have HS2 : Hid (St Hk w none_ H1 w2 [blk w.heap.size (.cells zReply 42), blk (w.heap.size + 1) (flagO false), blk w1.heap.size (.cells #[.bool true, .string ⟨#[]⟩, .slice A1 k.length c1] 76)]) := S2
        clear ha S2
        go_wp2_with fail
        refine leaves_cons (f := 74) (args := #[.pointer (some ⟨w.heap.size, 0, none⟩), .pointer (some ⟨w.heap.size + 1, 0, none⟩)]) (by simp) (by simp [go_sem]) ?_
        refine (repc_catch rfl HS2.out []).mono ?_
        rintro e0 u' w5 ⟨rfl, rfl, S3⟩
        simp only [settle, List.dropWhile]
        exact readDoneR S3 1 0 rfl rfl rfl rfl ⟨none, .none HR.out HA.out, rfl, S3.below⟩
      | some x =>
        obtain ⟨x, k'⟩ := x
        rw [ha] at hM
        obtain ⟨v', rfl, hv', S2⟩ := hM
        obtain ⟨id, nn, a, b, c, d, code, e, f, g, h, rfl⟩ := replyR_form ha
        have HA := Lib.hid ha
        have HS2 : Hid (St Hk w none_ H1 w2 [blk (w1.heap.size + 1) (fldO v'), blk w.heap.size (.cells zReply 42), blk (w.heap.size + 1) (flagO false), blk w1.heap.size (.cells #[.bool true, .string ⟨#[]⟩, .slice A1 k.length c1] 76)]) := S2
        have hk16 := replyR_len ha
        have HK16 := Lib.hid hk16
        obtain ⟨A2, c2, cs2, rfl, _⟩ := hv'.sl_inv
        clear ha S2 HS1 hv' hk16
        go_wp2_with (first
          | (refine wpList_store_st (cs := replyC id nn a b c d code e f g h) 1 HS2.out rfl rfl 42 (.tmp 4) (.tmp 26) rfl rfl rfl szReply rfl (oneReply _ _ _ _ _ _ _ _ _ _ _) ?_)
          | fail)
        intro w3 S3
        have HS3 : Hid (St Hk w none_ H1 w3 [blk w.heap.size (.cells (replyC id nn a b c d code e f g h) 42), blk (w.heap.size + 1) (flagO false), blk (w1.heap.size + 1) (fldO (.slice A2 k'.length c2)), blk w1.heap.size (.cells #[.bool true, .string ⟨#[]⟩, .slice A1 k.length c1] 76)]) := (S3.pick 2 rfl).pick 1 rfl
        have cq : w3.cell? ⟨w1.heap.size + 1, 0, none⟩ = some (.slice A2 k'.length c2) := by have hbk := HS3.out.blk_at 2 rfl; rw [cell_of_row _ _ _ _ _ _ hbk]; rfl
        clear S3 HS2
        by_cases hk : k' = []
        · subst hk
          go_wp2_with (first
            | (refine wpList_load_st (cs := replyC id nn a b c d code e f g h) 0 HS3.out rfl rfl 42 (.tmp 4) rfl rfl _ Tryd.underlying42 rfl szReply ?_)
            | (refine wpList_store_st (cs := replyC id nn a b c d code e f g h) 0 HS3.out rfl rfl 42 (.tmp 4) (.tmp 32) rfl rfl rfl szReply rfl (oneReply _ _ _ _ _ _ _ _ _ _ _) ?_)
            | fail)
          intro w4 S4
          have d0 : w4.cell? ⟨w.heap.size + 1, 0, none⟩ = some (.bool false) := by have hbk := S4.blk_at 1 rfl; rw [cell_of_row _ _ _ _ _ _ hbk]; rfl
          have g0 := S4.frozen 1 rfl 0
          have HS4 := Lib.hid (S4.setCell (j := 0) 1 rfl (.bool true))
          clear S4 HS3
          go_wp2_with fail
          refine leaves_cons (f := 74) (args := #[.pointer (some ⟨w.heap.size, 0, none⟩), .pointer (some ⟨w.heap.size + 1, 0, none⟩)]) (by simp) (by simp [go_sem]) ?_
          refine (repc_idle HS4.out _ _).mono ?_
          rintro e0 u' w5 ⟨rfl, rfl, S3⟩
          simp only [settle]
          exact readDoneR S3 1 0 rfl rfl rfl rfl ⟨some _, .good HR.out HA.out, rfl, S3.below⟩
        · have hpos : 0 < k'.length := List.length_pos_iff.2 hk
          have HK := Lib.hid hk
          clear hk
          go_wp2_with fail
          refine leaves_cons (f := 74) (args := #[.pointer (some ⟨w.heap.size, 0, none⟩), .pointer (some ⟨w.heap.size + 1, 0, none⟩)]) (by simp) (by simp [go_sem]) ?_
          refine (repc_catch rfl HS3.out []).mono ?_
          rintro e0 u' w5 ⟨rfl, rfl, S3⟩
          simp only [settle, List.dropWhile]
          exact readDoneR S3 1 0 rfl rfl rfl rfl ⟨none, .more HR.out HA.out HK.out, rfl, S3.below⟩
  · have HR := Lib.hid hR
    have HS1 : Hid (St Hk w none_ Hk _ [blk w.heap.size (.cells zReply 42), blk (w.heap.size + 1) (flagO false), blk w1.heap.size (.cells #[.bool false, .string ⟨#[]⟩, .slice none 0 0] 76)]) := (((HS.out.more S1).alloc (.cells #[.bool false, .string ⟨#[]⟩, .slice none 0 0] 76)).pick 1 rfl).pick 2 rfl
    have e1 : (n != 0) = true := by rw [bne_iff_ne]; omega
    clear hR S1 HS hn
    go_wp2_with (first
      | (refine wpList_load_st (cs := zReply) 0 HS1.out rfl rfl 42 (.tmp 4) rfl rfl _ Tryd.underlying42 rfl szReply ?_)
      | (refine wpList_store_st (cs := zReply) 0 HS1.out rfl rfl 42 (.tmp 4) (.tmp 22) rfl rfl rfl szReply rfl (oneReply _ _ _ _ _ _ _ _ _ _ _) ?_)
      | fail)
    intro w4 S4
    have d0 : w4.cell? ⟨w.heap.size + 1, 0, none⟩ = some (.bool false) := by have hbk := S4.blk_at 1 rfl; rw [cell_of_row _ _ _ _ _ _ hbk]; rfl
    have g0 := S4.frozen 1 rfl 0
    have HS4 := Lib.hid (S4.setCell (j := 0) 1 rfl (.bool false))
    clear S4 HS1
    go_wp2_with fail
    refine leaves_cons (f := 74) (args := #[.pointer (some ⟨w.heap.size, 0, none⟩), .pointer (some ⟨w.heap.size + 1, 0, none⟩)]) (by simp) (by simp [go_sem]) ?_
    refine (repc_idle HS4.out _ _).mono ?_
    rintro e0 u' w5 ⟨rfl, rfl, S3⟩
    simp only [settle]
    exact readDoneR S3 1 0 rfl rfl rfl rfl ⟨none, .bad HR.out, rfl, S3.below⟩
end Go.Proofs.YtfphlkkhpccpnaaDoor
