/-
  Decode.
-/
import Derived.Test.YtfphlkkhpccpnaaDoorRdL
import Derived.Tactics2
import Derived.Defers
import Derived.Recover
import Derived.Laws.Pointers
namespace Go.Proofs.YtfphlkkhpccpnaaDoor
open Go.RowKit Go.Proofs K

theorem read_ok : ∀ N, ReadOk N := by
  intro N
  induction N with
  | zero => intro l d H0 H w0 w X ps p i hl; omega
  | succ N ih =>
    intro l d H0 H w0 w X ps p i hl h16 hd S hi
    by_cases hdd : 64 < d
    · exact rd_deep S i d hdd hd
    · cases l with
      | nil => exact rd_nil S i hi d (by omega)
      | cons b r =>
        by_cases h1 : b.toNat < 128
        · exact rd_one S i hi d (by omega) h1
        · by_cases h2 : b.toNat < 192
          · exact rd_text S i hi d (by omega) ⟨by omega, h2⟩
          · exact rd_list N ih S i hi (by simp at hl; omega) (by simp at h16; omega) d (by omega) (by omega)

def itemO (p : Bool) (s : ByteArray) (v : Value) : Obj := .cells #[.bool p, .string s, v] 76
def errO (n : Int) : Obj := .cells #[.int .i64 n] 127
section
variable {H0 H : Hs} {w0 w : World} {X : Nat → Prop} {ps : List Hp} {p : Nat}
set_option maxRecDepth 100000 in
theorem dec_catch {x y z : Value} (S : St H0 w0 X H w (blk p (.cells #[x, y, z] 76) :: blk (p + 1) (errO 0) :: ps)) (older : List PanicEntry) :
    CallsD Tryd.prog 91 #[.pointer (some ⟨p, 0, none⟩), .pointer (some ⟨p + 1, 0, none⟩)] (.panicking ({ v := wrongV, recovered := false } :: older)) w fun e u' w' =>
      e = .returned (.tuple #[]) ∧ u' = .panicking ({ v := wrongV, recovered := true } :: older) ∧ St H0 w0 X H w' (blk (p + 1) (errO 2) :: blk p (itemO false ⟨#[]⟩ (.slice none 0 0)) :: ps) := by
  refine callsD_of_wpS Tryd.func91 rfl fun c₀ cs hu => ?_
  unfold wrongV at hu
  have hta : ∀ w, (Instr.typeAssert (.iface 162 (.agg #[])) 20 162 true).run Tryd.prog w = .ok (.tuple #[.agg #[], .bool true]) w := fun w => by kernel_rfl
  simp only [Tryd.ntmps91, List.size_toArray, List.length_cons, List.length_nil, Nat.reduceAdd, Nat.reduceSub, Array.replicate_succ, Array.replicate_zero, List.push_toArray, List.append_toArray, List.nil_append, List.cons_append]
  apply wpS_seq
  apply wpS_region
  simp [wpOpsS, go_sem, recoverD, hu, Exit.thenS, hta]
  apply wpS_seq
  apply wpS_region
  simp [wpOpsS, go_sem, Exit.thenS]
  obtain ⟨w1, hw1⟩ : ∃ w1, w1 = w.alloc (.cells #[] 162) := ⟨_, rfl⟩
  have S1 : St H0 w0 X H w1 (blk p (.cells #[x, y, z] 76) :: blk (p + 1) (errO 0) :: ps) := hw1 ▸ (S.alloc (.cells #[] 162)).drop 0
  rw [← hw1]
  have c0 : w1.cell? ⟨p, 0, none⟩ = some x := S1.cell 0 rfl rfl
  have c1 : w1.cell? ⟨p, 1, none⟩ = some y := S1.cell 0 rfl rfl
  have c2 : w1.cell? ⟨p, 2, none⟩ = some z := S1.cell 0 rfl rfl
  have f0 := S1.frozen 0 rfl 0
  have f1 := S1.frozen 0 rfl 1
  have f2 := S1.frozen 0 rfl 2
  have d0 : w1.cell? ⟨p + 1, 0, none⟩ = some (.int .i64 0) := S1.cell 1 rfl rfl
  have g0 := S1.frozen 1 rfl 0
  refine wpS_cond (t := true) rfl ?_
  simp only [if_true]
  apply wpS_region
  simp [wpOpsS, go_sem, c0, c1, c2, f0, f1, f2, d0, g0, bodyPostS, results, Tryd.results91, wrongV]
  exact (((S1.setCell (j := 0) 0 rfl _).setCell (j := 1) 0 rfl _).setCell (j := 2) 0 rfl _).setCell (j := 0) 1 rfl _
set_option maxRecDepth 100000 in
theorem dec_idle (S : St H0 w0 X H w ps) (a b : Addr) :
    CallsD Tryd.prog 91 #[.pointer (some a), .pointer (some b)] .returning w fun e u' w' =>
      e = .returned (.tuple #[]) ∧ u' = .returning ∧ St H0 w0 X H w' ps := by
  refine callsD_of_wpS Tryd.func91 rfl fun c₀ cs hu => ?_
  have hta : ∀ w, (Instr.typeAssert .nilIface 20 162 true).run Tryd.prog w = .ok (.tuple #[.agg #[], .bool false]) w := fun w => by kernel_rfl
  simp only [Tryd.ntmps91, List.size_toArray, List.length_cons, List.length_nil, Nat.reduceAdd, Nat.reduceSub, Array.replicate_succ, Array.replicate_zero, List.push_toArray, List.append_toArray, List.nil_append, List.cons_append]
  apply wpS_seq
  apply wpS_region
  simp [wpOpsS, go_sem, recoverD, hu, Exit.thenS, hta]
  apply wpS_seq
  apply wpS_region
  simp [wpOpsS, go_sem, Exit.thenS]
  refine wpS_cond (t := false) rfl ?_
  simp only [Bool.false_eq_true, if_false]
  refine wpS_of_wp (wp_skip ?_)
  have S1 := (S.alloc (.cells #[] 162)).drop 0
  cases c₀
  simp_all [bodyPostS, results, Tryd.results91]
end

/-- What Decode tells. -/
inductive DecR : List UInt8 → Option It → Prop
  | long {l : List UInt8} (h : 65536 < l.length) : DecR l none
  | bad {l : List UInt8} (h : l.length ≤ 65536) (hr : RdI 0 l none) : DecR l none
  | more {l r : List UInt8} {i : It} (h : l.length ≤ 65536) (hr : RdI 0 l (some (i, r))) (hn : r ≠ []) : DecR l none
  | good {l : List UInt8} {i : It} (h : l.length ≤ 65536) (hr : RdI 0 l (some (i, []))) : DecR l (some i)
def DecP (l : List UInt8) (H : Hs) (w : World) (e : Ending) (w' : World) : Prop :=
  (∃ i x y z H', DecR l (some i) ∧ e = .returned (.tuple #[.agg #[x, y, z], .int .i64 0]) ∧ RepL H' [x, y, z] i.d ∧ St H w none_ H' w' []) ∨
  (∃ n, DecR l none ∧ (n = 2 ∨ n = 3) ∧ e = .returned (.tuple #[.agg #[.bool false, .string ⟨#[]⟩, .slice none 0 0], .int .i64 n]) ∧ St H w none_ H w' [])
set_option maxRecDepth 100000 in
theorem decode_long (l : List UInt8) (hl : 65536 < l.length) {H : Hs} {w : World} (hw : Ag H w) : Calls Tryd.prog 69 #[.string (bs l)] w (DecP l H w) := by
  have HL := Lib.hid hl
  have hz : ¬ ((bs l).size : Int) ≤ 65536 := by rw [bs_size]; omega
  have HS := Lib.hid (((St.start hw).alloc (.cells #[.bool false, .string ⟨#[]⟩, .slice none 0 0] 76)).alloc (errO 3)).nil
  clear hl hw
  go_enter_defers Tryd.func69, Tryd.ntmps69
  go_wp2
  exact ⟨.tuple #[.agg #[.bool false, .string ⟨#[]⟩, .slice none 0 0], .int .i64 3], by simp [results, Tryd.results69, go_sem], .inr ⟨3, .long HL.out, .inr rfl, rfl, HS.out⟩⟩
theorem szErr : (Tryd.prog.info? 127).map (·.size) = some 1 := by kernel_rfl
set_option maxRecDepth 100000 in
set_option maxHeartbeats 1000000 in
theorem decode_any (l : List UInt8) (hl : l.length ≤ 65536) {H : Hs} {w : World} (hw : Ag H w) : Calls Tryd.prog 69 #[.string (bs l)] w (DecP l H w) := by
  have HL := Lib.hid hl
  have hz : ((bs l).size : Int) ≤ 65536 := by rw [bs_size]; omega
  have hmf : ∀ (fn : Fn) (first cap : Array Value) (w : World), (Instr.makeFunc fn first cap).run Tryd.prog w = .ok (.func fn first cap) w := fun _ _ _ _ => rfl
  have HS : Hid (St H w none_ H (((w.alloc (.cells #[.bool false, .string ⟨#[]⟩, .slice none 0 0] 76)).alloc (errO 0)).alloc (rdO (bs l))) [blk (w.heap.size + 2) (rdO (bs l)), blk w.heap.size (.cells #[.bool false, .string ⟨#[]⟩, .slice none 0 0] 76), blk (w.heap.size + 1) (errO 0)]) :=
    ((((St.start hw).alloc (.cells #[.bool false, .string ⟨#[]⟩, .slice none 0 0] 76)).alloc' (errO 0) (w.heap.size + 1) (by simp)).pick 1 rfl).alloc' (rdO (bs l)) (w.heap.size + 2) (by simp)
  clear hl hw
  go_enter_defers Tryd.func69, Tryd.ntmps69
  go_wp2_with fail
  refine (read_ok (l.length + 1) l 0 H H w _ none_ _ (w.heap.size + 2) 0 (by omega) HL.out (by decide) HS.out rfl).mono ?_
  rintro e w1 ⟨o, hRd, hR⟩
  have HRD := Lib.hid hRd
  clear hRd
  rcases o with _ | ⟨i, r⟩
  · obtain ⟨rfl, S1⟩ := hR
    have S2 : St H w none_ H w1 [blk w.heap.size (.cells #[.bool false, .string ⟨#[]⟩, .slice none 0 0] 76), blk (w.heap.size + 1) (errO 0)] := S1
    have HS2 := Lib.hid S2
    clear S1 S2 HS
    go_wp2_with fail
    refine leaves_cons (f := 91) (args := #[.pointer (some ⟨w.heap.size, 0, none⟩), .pointer (some ⟨w.heap.size + 1, 0, none⟩)]) (by simp) (by simp [go_sem]) ?_
    refine (dec_catch HS2.out []).mono ?_
    rintro e u' w2 ⟨rfl, rfl, S3⟩
    simp only [settle, List.dropWhile]
    have k0 := cell_of_row _ _ 0 _ _ _ (S3.blk_at 1 rfl)
    have k1 := cell_of_row _ _ 1 _ _ _ (S3.blk_at 1 rfl)
    have k2 := cell_of_row _ _ 2 _ _ _ (S3.blk_at 1 rfl)
    have k3 := cell_of_row _ _ 0 _ _ _ (S3.blk_at 0 rfl)
    exact ⟨.tuple #[.agg #[.bool false, .string ⟨#[]⟩, .slice none 0 0], .int .i64 2], by simp [results, Tryd.results69, go_sem, k0, k1, k2, k3], .inr ⟨2, .bad HL.out HRD.out, .inl rfl, rfl, S3.nil⟩⟩
  · obtain ⟨x, y, z, H1, rfl, hle, hrep, S1⟩ := hR
    obtain ⟨q1, s1, A1, n1, c1, rfl, rfl, rfl⟩ := it_cells hrep
    have HLE := Lib.hid (And.intro hle hrep)
    have HS1 : Hid (St H w none_ H1 w1 [blk (w.heap.size + 2) (rdO (bs r)), blk w.heap.size (.cells #[.bool false, .string ⟨#[]⟩, .slice none 0 0] 76), blk (w.heap.size + 1) (errO 0)]) := S1
    clear S1 HS hle hrep
    go_wp2_with (first
      | (refine wpList_store_st (cs := #[.bool q1, .string s1, .slice A1 n1 c1]) 1 HS1.out rfl rfl 76 (.tmp 2) (.tmp 14) rfl rfl rfl szItem rfl (oneItem _ _ _ _ _) ?_)
      | fail)
    intro w2 S2
    have HS2 : Hid (St H w none_ H1 w2 [blk w.heap.size (.cells #[.bool q1, .string s1, .slice A1 n1 c1] 76), blk (w.heap.size + 1) (errO 0), blk (w.heap.size + 2) (rdO (bs r))]) := (S2.pick 2 rfl).pick 1 rfl
    have cr : w2.cell? ⟨w.heap.size + 1 + 1, 0, none⟩ = some (.string (bs r)) := HS2.out.cell 2 rfl rfl
    clear S2 HS1
    by_cases hr : r = []
    · subst hr
      have hs1 : (bs []).toList.isEmpty = true := by rw [bs_toList]; rfl
      go_wp2_with fail
      refine (need_yes _).mono ?_
      rintro e w3 ⟨rfl, rfl⟩
      clear cr
      go_wp2_with (first
        | (refine wpList_load_st (cs := #[.bool q1, .string s1, .slice A1 n1 c1]) 0 HS2.out rfl rfl 76 (.tmp 2) rfl rfl _ Tryd.underlying76 rfl szItem ?_)
        | (refine wpList_store_st (cs := #[.bool q1, .string s1, .slice A1 n1 c1]) 0 HS2.out rfl rfl 76 (.tmp 2) (.tmp 21) rfl rfl rfl szItem rfl (oneItem _ _ _ _ _) ?_)
        | fail)
      intro w4 S4
      have d0 : w4.cell? ⟨w.heap.size + 1, 0, none⟩ = some (.int .i64 0) := by have hbk := S4.blk_at 1 rfl; rw [cell_of_row _ _ _ _ _ _ hbk]; rfl
      have g0 := S4.frozen 1 rfl 0
      have HS4 := Lib.hid (S4.setCell (j := 0) 1 rfl (.int .i64 0))
      clear S4 HS2
      go_wp2_with fail
      refine leaves_cons (f := 91) (args := #[.pointer (some ⟨w.heap.size, 0, none⟩), .pointer (some ⟨w.heap.size + 1, 0, none⟩)]) (by simp) (by simp [go_sem]) ?_
      refine (dec_idle HS4.out _ _).mono ?_
      rintro e u' w5 ⟨rfl, rfl, S3⟩
      simp only [settle]
      have k0 := cell_of_row _ _ 0 _ _ _ (S3.blk_at 1 rfl)
      have k1 := cell_of_row _ _ 1 _ _ _ (S3.blk_at 1 rfl)
      have k2 := cell_of_row _ _ 2 _ _ _ (S3.blk_at 1 rfl)
      have k3 := cell_of_row _ _ 0 _ _ _ (S3.blk_at 0 rfl)
      exact ⟨.tuple #[.agg #[.bool q1, .string s1, .slice A1 n1 c1], .int .i64 0], by simp [results, Tryd.results69, go_sem, k0, k1, k2, k3], .inl ⟨i, _, _, _, H1, .good HL.out HRD.out, rfl, HLE.out.2, S3.nil⟩⟩
    · have hs1 : (bs r).toList.isEmpty = false := by rw [bs_toList]; cases r with | nil => exact absurd rfl hr | cons a t => rfl
      have HR := Lib.hid hr
      clear hr
      go_wp2_with fail
      refine (need_no _).mono ?_
      rintro e w3 ⟨rfl, rfl⟩
      go_wp2_with fail
      refine leaves_cons (f := 91) (args := #[.pointer (some ⟨w.heap.size, 0, none⟩), .pointer (some ⟨w.heap.size + 1, 0, none⟩)]) (by simp) (by simp [go_sem]) ?_
      refine (dec_catch HS2.out []).mono ?_
      rintro e u' w5 ⟨rfl, rfl, S3⟩
      simp only [settle, List.dropWhile]
      have k0 := cell_of_row _ _ 0 _ _ _ (S3.blk_at 1 rfl)
      have k1 := cell_of_row _ _ 1 _ _ _ (S3.blk_at 1 rfl)
      have k2 := cell_of_row _ _ 2 _ _ _ (S3.blk_at 1 rfl)
      have k3 := cell_of_row _ _ 0 _ _ _ (S3.blk_at 0 rfl)
      exact ⟨.tuple #[.agg #[.bool false, .string ⟨#[]⟩, .slice none 0 0], .int .i64 2], by simp [results, Tryd.results69, go_sem, k0, k1, k2, k3], .inr ⟨2, .more HL.out HRD.out HR.out, .inl rfl, rfl, (S3.less HLE.out.1 (Le.refl _)).nil⟩⟩
end Go.Proofs.YtfphlkkhpccpnaaDoor
