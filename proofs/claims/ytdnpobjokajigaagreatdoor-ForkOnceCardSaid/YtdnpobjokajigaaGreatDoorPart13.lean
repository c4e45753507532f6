/-
  Sync.
  Append.
  Records: All, Add.
-/
import Derived.Test.YtdnpobjokajigaaGreatDoorPart12
import Derived.Deep.RegionHeld3
import Derived.Deep.DrawnRows
import Derived.WalkSpells
namespace Go.Proofs.YtdnpobjokajigaaGreatDoor
open Go.RowKit Go.Proofs K
set_option linter.unusedVariables false
attribute [local go_sem ↓] Go.wp_at_zero Go.wp_at_succ

def boxF (fn : FuncId) : Obj := .cells #[.func (.func fn) #[] #[]] 349
def boxS (n : ByteArray) : Obj := .cells #[.string n] 9
def boxD (d : Nat) : Obj := .cells #[.pointer (some ⟨d, 0, none⟩)] 28
section
variable {H0 H : Hs} {w0 w : World} {X : Nat → Prop} {ps : List Hp}
set_option maxRecDepth 100000 in
theorem fsync_any {b m n0 k : Nat} {A : Option Addr} (S : St H0 w0 X H w ps) (i : Nat) (hi : ps[i]? = some (blk b (fileO (.slice A m k) n0))) :
    Calls Tryz.prog 249 #[.pointer (some ⟨b, 0, none⟩)] w (RetS (.tuple #[]) H0 H w0 X (blk b (fileO (.slice A m k) m) :: ps.eraseIdx i)) := by
  have c0 : w.cell? ⟨b, 0, none⟩ = some (.slice A m k) := S.cell i hi rfl
  have c1 : w.cell? ⟨b, 1, none⟩ = some (.int .i64 n0) := S.cell i hi rfl
  have f1 : w.frozen? ⟨b, 1, none⟩ = false := S.frozen i hi 1
  have HS := Lib.hid (S.setCell (j := 1) i hi (.int .i64 m))
  clear S
  go_enter Tryz.func249, Tryz.ntmps249
  go_wp2_with fail
  go_end0
  exact ⟨rfl, HS.out⟩
theorem callSync : ∀ args w, (callFunc 249 args).run Tryz.prog w = .ok (.enter 249 args) w := fun _ _ => by kernel_rfl
theorem callWith1 : ∀ args w, (callFunc 257 args).run Tryz.prog w = .ok (.enter 257 args) w := fun _ _ => by kernel_rfl
theorem callNothing : ∀ args w, (callFunc 258 args).run Tryz.prog w = .ok (.enter 258 args) w := fun _ _ => by kernel_rfl
def SyncQ (H0 H : Hs) (w0 : World) (X : Nat → Prop) (d : Nat) (D : Dk) (n : ByteArray) (ps : List Hp) (k : Int) (w' : World) : Prop :=
  k = (if (readF D.files n).isSome then 0 else 6) ∧ St H0 w0 X H w' (diskP d { D with files := if (readF D.files n).isSome then syncF D.files n else D.files } :: ps)
set_option maxRecDepth 100000 in
set_option maxHeartbeats 1000000 in
theorem with1_any {d b0 b1 b2 : Nat} {D : Dk} {n : ByteArray} (S : St H0 w0 X H w (diskP d D :: blk b2 (boxF 249) :: blk b1 (boxS n) :: blk b0 (boxD d) :: ps)) :
    Calls Tryz.prog 257 #[.pointer (some ⟨b0, 0, none⟩), .pointer (some ⟨b1, 0, none⟩), .pointer (some ⟨b2, 0, none⟩)] w (StepS (SyncQ H0 H w0 X d D n ps)) := by
  obtain ⟨c, fs, hf, S1⟩ := openDisk S 0 rfl
  obtain ⟨W, hW⟩ : ∃ W, W = w := ⟨_, rfl⟩
  have HW := Lib.hid hW
  rw [← hW] at S1
  have f0 : ∀ w', Below W.heap.size W w' → w'.cell? ⟨b0, 0, none⟩ = some (.pointer (some ⟨d, 0, none⟩)) := fun w' h => cell_later h (S1.cell 5 rfl rfl)
  have f1 : ∀ w', Below W.heap.size W w' → w'.cell? ⟨b1, 0, none⟩ = some (.string n) := fun w' h => cell_later h (S1.cell 4 rfl rfl)
  have f2 : ∀ w', Below W.heap.size W w' → w'.cell? ⟨d, 0, none⟩ = some (.map (some c)) := fun w' h => cell_later h (S1.cell 2 rfl rfl)
  rcases find_file n fs with ⟨j, b, f, h1, h2, h3, h4, h5, h6⟩ | ⟨h1, h2, h3, h4⟩
  · have fl : ∀ w', Below W.heap.size W w' → (Instr.lookup 140 (.map (some c)) (.string n) true).run Tryz.prog w' = .ok (.tuple #[.pointer (some ⟨b, 0, none⟩), .bool true]) w' := fun w' h => by
      obtain ⟨F2, ⟨_, o, ho, hm⟩, _⟩ := (S1.grow h).step (i := 0) rfl
      have := lookup_run keyS Tryz.underlying140 ho hm (zeroFile w') n true
      rw [h2] at this
      exact this
    obtain ⟨A, k, S2⟩ := openFile S1 1 rfl h1
    have HS2 := Lib.hid S2
    clear S S1 S2 hW
    go_enter Tryz.func257, Tryz.ntmps257
    go_wp2_with fail
    rw [← HW.out]
    go_region_held3 (fun w' => Below W.heap.size W w') (repeat (first | assumption | exact Below.refl _ _ | apply Below.drew | (refine Below.alloc ?_ (by first | exact Nat.le_refl _ | exact Below.size (by assumption) | simp) _))) (fail)
    have HS3 := Lib.hid HS2.out.drew
    obtain ⟨w1, hw1⟩ : ∃ w1, w1 = W.drew := ⟨_, rfl⟩
    rw [← hw1] at HS3 ⊢
    have HLS := Lib.hid h6
    have HM := Lib.hid h4
    have HJ := Lib.hid h1
    have HF := Lib.hid hf
    have HR := Lib.hid h5
    clear h1 h2 h3 h4 h5 h6 f0 f1 f2 fl hf HS2 hw1 HW
    have k2 : w1.cell? ⟨b2, 0, none⟩ = some (.func (.func 249) #[] #[]) := HS3.out.cell 5 rfl rfl
    have hcf := callSync
    go_wp2_with fail
    refine (fsync_any HS3.out 0 rfl).mono ?_
    rintro e w2 ⟨rfl, S4⟩
    have HS4 := Lib.hid S4
    clear S4 HS3 k2
    go_wp2_with fail
    go_ret
    have e1 : D.files = fs.map (·.2) := HF.out.symm
    refine ⟨0, rfl, ?_, ?_⟩
    · rw [e1, HR.out]; rfl
    · rw [e1, HR.out]
      refine shutDisk (c := c) (fs := fs.set j (b, { f with synced := f.s.length })) ?_ ?_
      · exact HLS.out.symm
      · rw [HM.out { f with synced := f.s.length } rfl]
        exact ((((shutFile (f' := { f with synced := f.s.length }) HJ.out HS4.out).pick 1 rfl).drop 3).drop 3).drop 3
  · have fl : ∀ w', Below W.heap.size W w' → (Instr.lookup 140 (.map (some c)) (.string n) true).run Tryz.prog w' = .ok (.tuple #[.pointer none, .bool false]) w' := fun w' h => by
      obtain ⟨F2, ⟨_, o, ho, hm⟩, _⟩ := (S1.grow h).step (i := 0) rfl
      have := lookup_run keyS Tryz.underlying140 ho hm (zeroFile w') n true
      rw [h1] at this
      exact this
    have HS2 := Lib.hid S1
    clear S S1 hW
    go_enter Tryz.func257, Tryz.ntmps257
    go_wp2_with fail
    rw [← HW.out]
    go_region_held3 (fun w' => Below W.heap.size W w') (repeat (first | assumption | exact Below.refl _ _ | apply Below.drew | (refine Below.alloc ?_ (by first | exact Nat.le_refl _ | exact Below.size (by assumption) | simp) _))) (fail)
    have HS3 := Lib.hid HS2.out.drew
    have HF := Lib.hid hf
    have HR := Lib.hid h2
    clear h1 h2 h3 h4 f0 f1 f2 fl hf HS2
    go_wp2_with fail
    go_ret
    have e1 : D.files = fs.map (·.2) := HF.out.symm
    refine ⟨6, rfl, ?_, ?_⟩
    · rw [e1, HR.out]; rfl
    · rw [e1, HR.out]
      refine shutDisk (c := c) (fs := fs) rfl ?_
      rw [HF.out]
      exact ((HS3.out.drop 3).drop 3).drop 3
set_option maxRecDepth 100000 in
set_option maxHeartbeats 1000000 in
theorem sync_any {d : Nat} {D : Dk} (S : St H0 w0 X H w ps) (i : Nat) (hi : ps[i]? = some (diskP d D)) (ha : -1 ≤ D.after) (ha2 : D.after < 9223372036854775808) (n : ByteArray) :
    Calls Tryz.prog 224 #[.pointer (some ⟨d, 0, none⟩), .string n] w (RetS (.int .i64 (syncD D n).1) H0 H w0 X (diskP d (syncD D n).2 :: ps.eraseIdx i)) := by
  have HW : Hid (∀ w', St H0 w0 X H w' (diskP d D :: ps.eraseIdx i) → Calls Tryz.prog 248 #[.pointer (some ⟨d, 0, none⟩), .string n, .func (.func 249) #[] #[]] w' (RetS (.int .i64 (syncD D n).1) H0 H w0 X (diskP d (syncD D n).2 :: ps.eraseIdx i))) := by
    refine Lib.hid fun w' S0 => ?_
    obtain ⟨b, hb⟩ : ∃ b, b = w'.heap.size := ⟨_, rfl⟩
    have S1 := ((S0.alloc' (boxD d) b hb).alloc' (boxS n) (b + 1) (by simp [hb])).alloc' (boxF 249) (b + 2) (by simp [hb])
    have HS1 := Lib.hid (S1.pick 3 rfl)
    clear S1 S0
    have hcall := dstep_any (w := ((w'.alloc (boxD d)).alloc (boxS n)).alloc (boxF 249)) 257 258 callWith1 callNothing #[.pointer (some ⟨b, 0, none⟩), .pointer (some ⟨b + 1, 0, none⟩), .pointer (some ⟨b + 2, 0, none⟩)] #[] HS1.out 0 rfl ha ha2 (fun k w'' => k = (syncD D n).1 ∧ St H0 w0 X H w'' (diskP d (syncD D n).2 :: ps.eraseIdx i))
      (fun h1 h2 w'' S2 => (with1_any S2).mono fun e w3 ⟨k, he, hk, S3⟩ => ⟨k, he, by
        unfold syncD
        rw [if_neg (by rw [h1]; decide), if_neg h2]
        have e0 : (Dk.tick D).files = D.files := rfl
        rw [e0] at hk S3
        cases hr : readF D.files n with
        | none => rw [hr] at hk S3; exact ⟨by simpa using hk, S3⟩
        | some l => rw [hr] at hk S3; exact ⟨by simpa using hk, S3⟩⟩)
      (fun h1 h2 w'' S2 => by
        have HS2 := Lib.hid S2
        clear S2
        go_enter Tryz.func258, Tryz.ntmps258
        go_wp2_with fail
        go_end0
        refine ⟨rfl, ?_⟩
        unfold syncD
        rw [if_neg (by rw [h1]; decide), if_pos h2]
        exact ⟨rfl, (((HS2.out.drop 1).drop 1).drop 1)⟩)
      (fun h1 w'' S2 => by
        unfold syncD
        rw [if_pos h1]
        exact ⟨rfl, (((S2.drop 1).drop 1).drop 1)⟩)
    have HC := Lib.hid hcall
    clear hcall HS1
    subst hb
    go_enter Tryz.func248, Tryz.ntmps248
    go_wp2_with fail
    refine HC.out.mono ?_
    rintro e w2 ⟨k, rfl, rfl, S2⟩
    have HS2 := Lib.hid S2
    clear S2 HC
    go_wp2_with fail
    go_ret
    exact ⟨rfl, HS2.out⟩
  have HS := Lib.hid (S.pick i hi)
  clear S
  go_enter Tryz.func224, Tryz.ntmps224
  go_wp2_with fail
  refine (HW.out _ HS.out).mono ?_
  rintro e w2 ⟨rfl, S2⟩
  have HS2 := Lib.hid S2
  clear S2 HS HW
  go_wp2_with fail
  go_ret
  exact ⟨rfl, HS2.out⟩
end
end Go.Proofs.YtdnpobjokajigaaGreatDoor

namespace Go.Proofs.YtdnpobjokajigaaGreatDoor
open Go.RowKit Go.Proofs K
set_option linter.unusedVariables false
attribute [local go_sem ↓] Go.wp_at_zero Go.wp_at_succ

def boxB (p : Bool) : Obj := .cells #[.bool p] 4
theorem callApp1 : ∀ args w, (callFunc 245 args).run Tryz.prog w = .ok (.enter 245 args) w := fun _ _ => by kernel_rfl
theorem callApp2 : ∀ args w, (callFunc 247 args).run Tryz.prog w = .ok (.enter 247 args) w := fun _ _ => by kernel_rfl
section
variable {H0 H : Hs} {w0 w : World} {X : Nat → Prop} {ps : List Hp}
set_option maxRecDepth 100000 in
set_option maxHeartbeats 1000000 in
theorem app1_any {d b0 b1 b2 b7 : Nat} {D : Dk} {n s : ByteArray} {p : Bool} (S : St H0 w0 X H w (diskP d D :: blk b7 (boxB p) :: blk b2 (boxS s) :: blk b1 (boxS n) :: blk b0 (boxD d) :: ps)) (hn : used D.files + s.size ≤ 140737488355328) :
    Calls Tryz.prog 245 #[.pointer (some ⟨b7, 0, none⟩), .pointer (some ⟨b0, 0, none⟩), .pointer (some ⟨b1, 0, none⟩), .pointer (some ⟨b2, 0, none⟩)] w
      (StepS fun k w' => k = (if p then 0 else 5) ∧ St H0 w0 X H w' (diskP d { D with files := if p then layF D.files n s.data.toList else D.files } :: ps)) := by
  have c7 : w.cell? ⟨b7, 0, none⟩ = some (.bool p) := S.cell 1 rfl rfl
  have c2 : w.cell? ⟨b2, 0, none⟩ = some (.string s) := S.cell 2 rfl rfl
  have c1 : w.cell? ⟨b1, 0, none⟩ = some (.string n) := S.cell 3 rfl rfl
  have c0 : w.cell? ⟨b0, 0, none⟩ = some (.pointer (some ⟨d, 0, none⟩)) := S.cell 4 rfl rfl
  have HS := Lib.hid S
  clear S
  cases p with
  | false =>
    go_enter Tryz.func245, Tryz.ntmps245
    go_wp2_with fail
    go_ret
    exact ⟨5, rfl, rfl, (((HS.out.drop 1).drop 1).drop 1).drop 1⟩
  | true =>
    have HN := Lib.hid hn
    clear hn
    go_enter Tryz.func245, Tryz.ntmps245
    go_wp2_with fail
    refine (lay_any HS.out 0 rfl n s HN.out).mono ?_
    rintro e w2 ⟨rfl, S2⟩
    have HS2 := Lib.hid S2
    clear S2 HS c7 c2 c1 c0
    go_wp2_with fail
    go_ret
    exact ⟨0, rfl, rfl, (((HS2.out.drop 1).drop 1).drop 1).drop 1⟩
def App2Q (H0 H : Hs) (w0 : World) (X : Nat → Prop) (d : Nat) (D : Dk) (n s : ByteArray) (p : Bool) (ps : List Hp) (e : Ending) (w' : World) : Prop :=
  e = .returned (.tuple #[]) ∧ St H0 w0 X H w' (diskP d { D with files := if p ∧ 0 < tornN D.torn s.data.toList.length then layF D.files n (s.data.toList.take (tornN D.torn s.data.toList.length)) else D.files } :: ps)
theorem extract_take (s : ByteArray) (k : Nat) : (s.extract 0 k).data.toList = s.data.toList.take k := by
  simp [ByteArray.data_extract, Array.toList_extract]
set_option maxRecDepth 100000 in
set_option maxHeartbeats 1000000 in
theorem app2_any {d b0 b1 b2 b7 : Nat} {D : Dk} {n s : ByteArray} {p : Bool} (S : St H0 w0 X H w (diskP d D :: blk b7 (boxB p) :: blk b2 (boxS s) :: blk b1 (boxS n) :: blk b0 (boxD d) :: ps)) (hn : used D.files + s.size ≤ 140737488355328) :
    Calls Tryz.prog 247 #[.pointer (some ⟨b0, 0, none⟩), .pointer (some ⟨b2, 0, none⟩), .pointer (some ⟨b7, 0, none⟩), .pointer (some ⟨b1, 0, none⟩)] w
      (App2Q H0 H w0 X d D n s p ps) := by
  obtain ⟨c, fs, hf, S1⟩ := openDisk S 0 rfl
  have c7 : w.cell? ⟨b7, 0, none⟩ = some (.bool p) := S.cell 1 rfl rfl
  have c2 : w.cell? ⟨b2, 0, none⟩ = some (.string s) := S.cell 2 rfl rfl
  have c1 : w.cell? ⟨b1, 0, none⟩ = some (.string n) := S.cell 3 rfl rfl
  have c0 : w.cell? ⟨b0, 0, none⟩ = some (.pointer (some ⟨d, 0, none⟩)) := S.cell 4 rfl rfl
  have c3 : w.cell? ⟨d, 3, none⟩ = some (.int .i64 D.torn) := S1.cell 2 rfl rfl
  have HS := Lib.hid S
  clear S S1 hf
  go_enter Tryz.func247, Tryz.ntmps247
  go_wp2_with fail
  go_region
  obtain ⟨k, hk, hk2, hk3⟩ : ∃ k : Nat, (k : Int) = max (min D.torn (s.size : Int)) 0 ∧ tornN D.torn s.data.toList.length = k ∧ k ≤ s.size := by
    have e : s.data.toList.length = s.size := by rw [Array.length_toList]; rfl
    rw [e]
    refine ⟨(max (min D.torn (s.size : Int)) 0).toNat, by omega, by unfold tornN; omega, by omega⟩
  rw [← hk]
  obtain ⟨w1, hw1⟩ : ∃ w1, w1 = w.drew := ⟨_, rfl⟩
  have HS1 : Hid (St H0 w0 X H w1 (diskP d D :: blk b7 (boxB p) :: blk b2 (boxS s) :: blk b1 (boxS n) :: blk b0 (boxD d) :: ps)) := Lib.hid (hw1 ▸ HS.out.drew)
  rw [← hw1]
  have HK := Lib.hid hk2
  have HN := Lib.hid hn
  clear hw1 HS c7 c2 c1 c0 c3 hk hk2 hn
  have c7 : w1.cell? ⟨b7, 0, none⟩ = some (.bool p) := HS1.out.cell 1 rfl rfl
  have c2 : w1.cell? ⟨b2, 0, none⟩ = some (.string s) := HS1.out.cell 2 rfl rfl
  have c1 : w1.cell? ⟨b1, 0, none⟩ = some (.string n) := HS1.out.cell 3 rfl rfl
  have c0 : w1.cell? ⟨b0, 0, none⟩ = some (.pointer (some ⟨d, 0, none⟩)) := HS1.out.cell 4 rfl rfl
  have hno : Hid (¬ (p = true ∧ 0 < k) → App2Q H0 H w0 X d D n s p ps (.returned (.tuple #[])) w1) := Lib.hid fun h => ⟨rfl, by
    rw [HK.out, if_neg h]
    exact (((HS1.out.drop 1).drop 1).drop 1).drop 1⟩
  cases p with
  | false =>
    go_wp2_with fail
    go_end0
    exact hno.out (fun h => by cases h.1)
  | true =>
    by_cases h0 : 0 < k
    · have HK0 := Lib.hid h0
      have hsz : used D.files + (s.extract 0 k).size ≤ 140737488355328 := by
        have h1 := congrArg List.length (extract_take s k)
        rw [Array.length_toList, List.length_take, Array.length_toList] at h1
        have h2 : (s.extract 0 k).size = min k s.size := h1
        have := HN.out
        omega
      have HSZ := Lib.hid hsz
      clear hsz
      go_wp2_with fail
      go_region_with (go_at_call 246; refine (lay_any (HS1.out.drew) 0 rfl n (s.extract 0 k) HSZ.out).mono ?_; rintro e w2 ⟨rfl, S2⟩)
      all_goals
        have HS2 := Lib.hid S2
        clear S2
        go_end0
        exact ⟨rfl, by rw [HK.out, if_pos ⟨rfl, HK0.out⟩, ← extract_take]; exact (((HS2.out.drop 1).drop 1).drop 1).drop 1⟩
    · have hk0 : k = 0 := by omega
      subst hk0
      go_wp2_with fail
      go_end0
      exact hno.out (fun h => absurd h.2 (by omega))
theorem DiskAt.later {d : Nat} {D : Dk} {W w : World} (h : DiskAt W d D) (hb : Below W.heap.size W w) : DiskAt w d D := by
  obtain ⟨c, fs, o, hf, ⟨cs, t, fr, hd, hcs⟩, ho, hm, hfs⟩ := h
  have k : ∀ {b : Nat} {o : Obj}, W.heap[b]? = some o → w.heap[b]? = some o := fun {b o} h => (hb.block b (Array.getElem?_eq_some_iff.1 h).1).trans h
  refine ⟨c, fs, o, hf, ⟨cs, t, fr, k hd, hcs⟩, k ho, hm, fun x hx => ?_⟩
  obtain ⟨A, q, cs, t, fr, h1, h2, h3⟩ := hfs x hx
  refine ⟨A, q, cs, t, fr, k h1, h2, h3.1, ?_⟩
  rcases h3.2 with hn | ⟨g, cap, cur, e1, e2, hg, rest⟩
  · exact .inl hn
  · exact .inr ⟨g, cap, cur, e1, e2, k hg, rest⟩
set_option maxRecDepth 100000 in
set_option maxHeartbeats 2000000 in
theorem append6_any {d : Nat} {D : Dk} (S : St H0 w0 X H w ps) (i : Nat) (hi : ps[i]? = some (diskP d D)) (ha : -1 ≤ D.after) (ha2 : D.after < 9223372036854775808) (n s : ByteArray) (hn : used D.files + s.size ≤ 140737488355328) :
    Calls Tryz.prog 222 #[.pointer (some ⟨d, 0, none⟩), .string n, .string s] w (RetS (.int .i64 (appendD D n s.data.toList).1) H0 H w0 X (diskP d (appendD D n s.data.toList).2 :: ps.eraseIdx i)) := by
  have hsz : s.data.toList.length = s.size := by rw [Array.length_toList]; rfl
  have HC : Hid (∀ (w' : World) (b0 b1 b2 b7 : Nat), St H0 w0 X H w' (diskP d D :: blk b7 (boxB (D.fits s.data.toList)) :: blk b2 (boxS s) :: blk b1 (boxS n) :: blk b0 (boxD d) :: ps.eraseIdx i) →
      Calls Tryz.prog 244 #[.pointer (some ⟨d, 0, none⟩), .func (.func 245) #[] #[.pointer (some ⟨b7, 0, none⟩), .pointer (some ⟨b0, 0, none⟩), .pointer (some ⟨b1, 0, none⟩), .pointer (some ⟨b2, 0, none⟩)], .func (.func 247) #[] #[.pointer (some ⟨b0, 0, none⟩), .pointer (some ⟨b2, 0, none⟩), .pointer (some ⟨b7, 0, none⟩), .pointer (some ⟨b1, 0, none⟩)]] w'
        (StepS fun k w'' => k = (appendD D n s.data.toList).1 ∧ St H0 w0 X H w'' (diskP d (appendD D n s.data.toList).2 :: ps.eraseIdx i))) := by
    refine Lib.hid fun w' b0 b1 b2 b7 S0 => ?_
    refine dstep_any 245 247 callApp1 callApp2 _ _ S0 0 rfl ha ha2 _ (fun h1 h2 w'' S2 => ?_) (fun h1 h2 w'' S2 => ?_) (fun h1 w'' S2 => ?_)
    · refine (app1_any S2 hn).mono ?_
      rintro e w3 ⟨k, he, hk, S3⟩
      refine ⟨k, he, ?_⟩
      unfold appendD
      rw [if_neg (by rw [h1]; decide), if_neg h2]
      cases hp : D.fits s.data.toList with
      | true => rw [hp] at hk S3; exact ⟨by simpa using hk, S3⟩
      | false => rw [hp] at hk S3; exact ⟨by simpa using hk, S3⟩
    · refine (app2_any S2 hn).mono ?_
      rintro e w3 ⟨he, S3⟩
      refine ⟨he, ?_⟩
      unfold appendD
      rw [if_neg (by rw [h1]; decide), if_pos h2]
      exact ⟨rfl, S3⟩
    · unfold appendD
      rw [if_pos h1]
      exact ⟨rfl, (((S2.drop 1).drop 1).drop 1).drop 1⟩
  obtain ⟨W, hW⟩ : ∃ W, W = ((w.alloc (boxD d)).alloc (boxS n)).alloc (boxS s) := ⟨_, rfl⟩
  have HS : Hid (St H0 w0 X H W (diskP d D :: blk (w.heap.size + 2) (boxS s) :: blk (w.heap.size + 1) (boxS n) :: blk w.heap.size (boxD d) :: ps.eraseIdx i)) := by
    rw [hW]
    exact Lib.hid (((((S.pick i hi).alloc' (boxD d) w.heap.size rfl).alloc' (boxS n) (w.heap.size + 1) (by simp)).alloc' (boxS s) (w.heap.size + 2) (by simp)).pick 3 rfl)
  have HD : Hid (∀ w', Below W.heap.size W w' → DiskAt w' d D) := Lib.hid fun w' h => (diskAt_of HS.out 0 rfl).later h
  obtain ⟨c, fs, hf, S1⟩ := openDisk HS.out 0 rfl
  have f0 : ∀ w', Below W.heap.size W w' → w'.cell? ⟨w.heap.size, 0, none⟩ = some (.pointer (some ⟨d, 0, none⟩)) := fun w' h => cell_later h (HS.out.cell 3 rfl rfl)
  have f1 : ∀ w', Below W.heap.size W w' → w'.cell? ⟨w.heap.size + 1 + 1, 0, none⟩ = some (.string s) := fun w' h => cell_later h (HS.out.cell 1 rfl rfl)
  have f2 : ∀ w', Below W.heap.size W w' → w'.cell? ⟨d, 1, none⟩ = some (.int .i64 D.room) := fun w' h => cell_later h (S1.cell 2 rfl rfl)
  have HU := Lib.hid (show used D.files ≤ 140737488355328 by omega)
  have hu2 : (used D.files : Int) + (s.size : Int) ≤ 140737488355328 := by omega
  have HW := Lib.hid hW
  have HF : Hid (D.fits s.data.toList = decide ((used D.files : Int) + (s.size : Int) ≤ D.room)) := Lib.hid (by unfold Dk.fits; rw [hsz])
  clear S S1 hW hf hn hsz
  go_enter Tryz.func222, Tryz.ntmps222
  go_wp2_with fail
  have eW := HW.out
  simp only [boxD, boxS] at eW
  rw [← eW]
  clear eW
  go_region_held3 (fun w' => Below W.heap.size W w') (repeat (first | assumption | exact Below.refl _ _ | apply Below.drew | (refine Below.setCell ?_ (by first | exact Nat.le_refl _ | simp) _) | (refine Below.alloc ?_ (by first | exact Nat.le_refl _ | exact Below.size (by assumption) | simp) _))) (first
    | (go_at_call 24; refine (used_any (HD.out _ ?_) HU.out).mono ?_; (repeat (first | assumption | exact Below.refl _ _ | apply Below.drew | (refine Below.alloc ?_ (by first | exact Nat.le_refl _ | exact Below.size (by assumption) | simp) _))); rintro e w1 ⟨rfl, hb1⟩; have hb2 : Below W.heap.size W w1 := Below.trans (by (repeat (first | assumption | exact Below.refl _ _ | apply Below.drew | (refine Below.alloc ?_ (by first | exact Nat.le_refl _ | exact Below.size (by assumption) | simp) _)))) (Below.mono hb1 (by first | exact Nat.le_refl _ | simp)); have hc1 : _ → _ → w1.cell? ⟨W.heap.size, 0, none⟩ = some (.bool false) := fun h1 h2 => (hb1.cell h1).trans h2; have hf1 : _ → _ → w1.frozen? ⟨W.heap.size, 0, none⟩ = false := fun h1 h2 => (hb1.frozen h1).trans h2))
  all_goals
    have hdec : decide (IntKind.i64.wrap ((used D.files : Int) + (s.size : Int)) ≤ D.room) = D.fits s.data.toList := by
      have e : IntKind.i64.wrap ((used D.files : Int) + (s.size : Int)) = (used D.files : Int) + (s.size : Int) := by
        rw [IntKind.wrap_i64]
        omega
      rw [HF.out, e]
    rw [hdec]
  · obtain ⟨w2, hw2⟩ : ∃ w2, w2 = w1.alloc (boxB (D.fits s.data.toList)) := ⟨_, rfl⟩
    have S3 : St H0 w0 X H w2 (diskP d D :: blk w1.heap.size (boxB (D.fits s.data.toList)) :: blk (w.heap.size + 2) (boxS s) :: blk (w.heap.size + 1) (boxS n) :: blk w.heap.size (boxD d) :: ps.eraseIdx i) := by
      rw [hw2]
      exact ((HS.out.drew.grow hb1).alloc (boxB (D.fits s.data.toList))).pick 1 rfl
    rw [show w1.alloc (.cells #[.bool (D.fits s.data.toList)] 4) = w2 from hw2.symm]
    have HS3 := Lib.hid S3
    clear S3 hw2 HS HD f0 f1 f2 hb1 hb2 hc1 hf1
    have c0 : w2.cell? ⟨w.heap.size, 0, none⟩ = some (.pointer (some ⟨d, 0, none⟩)) := HS3.out.cell 4 rfl rfl
    have hmf : ∀ (fn : Fn) (first cap : Array Value) (w : World), (Instr.makeFunc fn first cap).run Tryz.prog w = .ok (.func fn first cap) w := fun _ _ _ _ => rfl
    go_wp2_with fail
    refine (HC.out _ _ _ _ _ HS3.out).mono ?_
    rintro e w3 ⟨k, rfl, rfl, S4⟩
    have HS4 := Lib.hid S4
    clear S4 HS3 HC c0
    go_wp2_with fail
    go_ret
    exact ⟨rfl, HS4.out⟩
  · obtain ⟨w2, hw2⟩ : ∃ w2, w2 = w1.setCell ⟨W.heap.size, 0, none⟩ (.bool (D.fits s.data.toList)) := ⟨_, rfl⟩
    have S3 : St H0 w0 X H w2 (diskP d D :: blk W.heap.size (boxB (D.fits s.data.toList)) :: blk (w.heap.size + 2) (boxS s) :: blk (w.heap.size + 1) (boxS n) :: blk w.heap.size (boxD d) :: ps.eraseIdx i) := by
      rw [hw2]
      exact (((HS.out.alloc (boxB false)).drew.grow hb1).setCell (j := 0) 0 rfl (.bool (D.fits s.data.toList))).pick 1 rfl
    rw [← hw2]
    have HS3 := Lib.hid S3
    clear S3 hw2 HS HD f0 f1 f2 hb1 hb2 hc1 hf1
    have c0 : w2.cell? ⟨w.heap.size, 0, none⟩ = some (.pointer (some ⟨d, 0, none⟩)) := HS3.out.cell 4 rfl rfl
    have hmf : ∀ (fn : Fn) (first cap : Array Value) (w : World), (Instr.makeFunc fn first cap).run Tryz.prog w = .ok (.func fn first cap) w := fun _ _ _ _ => rfl
    go_wp2_with fail
    refine (HC.out _ _ _ _ _ HS3.out).mono ?_
    rintro e w3 ⟨k, rfl, rfl, S4⟩
    have HS4 := Lib.hid S4
    clear S4 HS3 HC c0
    go_wp2_with fail
    go_ret
    exact ⟨rfl, HS4.out⟩
end
end Go.Proofs.YtdnpobjokajigaaGreatDoor

namespace Go.Proofs.YtdnpobjokajigaaGreatDoor
open Go.RowKit Go.Proofs K
set_option linter.unusedVariables false

theorem readF_le (n : ByteArray) : ∀ l : List FileS, ((readF l n).getD []).length ≤ used l
  | [] => by simp [readF, used]
  | f :: l => by
    have ih := readF_le n l
    unfold readF
    by_cases h : f.name = n
    · simp [h, used]
    · simp only [h, if_false, used, List.map_cons, List.sum_cons] at ih ⊢; omega
/-- A disk as it may be. -/
structure Dk.ok (D : Dk) : Prop where
  lo : -1 ≤ D.after
  hi : D.after < 9223372036854775808
  room : D.room ≤ 1048576
  fit : used D.files ≤ 1048576
theorem Dk.ok.tick {D : Dk} (h : D.ok) : D.tick.ok := ⟨by unfold Dk.tick; simp only; have := h.lo; split <;> omega, by unfold Dk.tick; simp only; have := h.hi; split <;> omega, h.room, h.fit⟩
theorem used_syncF (n : ByteArray) : ∀ l : List FileS, used (syncF l n) = used l
  | [] => rfl
  | f :: l => by
    have ih := used_syncF n l
    unfold syncF
    by_cases h : f.name = n
    · simp [h, used]
    · simp only [h, if_false, used, List.map_cons, List.sum_cons] at ih ⊢; omega
theorem Dk.fits_le {D : Dk} (h : D.ok) {s : List UInt8} (hf : D.fits s = true) : used D.files + s.length ≤ 1048576 := by
  unfold Dk.fits at hf
  have := of_decide_eq_true hf
  have := h.room
  omega
theorem append_ok {D : Dk} (h : D.ok) (n : ByteArray) (s : List UInt8) : (appendD D n s).2.ok := by
  unfold appendD
  split
  · exact h
  · split
    · refine ⟨h.lo, h.hi, h.room, ?_⟩
      show used (if _ then _ else _) ≤ _
      split
      · rename_i h1
        have := Dk.fits_le h h1.1
        rw [used_layF]
        simp only [List.length_take]
        omega
      · exact h.fit
    · split
      · rename_i h1
        have := Dk.fits_le h h1
        exact ⟨h.tick.lo, h.tick.hi, h.room, by show used (layF _ _ _) ≤ _; rw [used_layF]; exact this⟩
      · exact h.tick
theorem sync_ok {D : Dk} (h : D.ok) (n : ByteArray) : (syncD D n).2.ok := by
  unfold syncD
  split
  · exact h
  · split
    · exact ⟨h.lo, h.hi, h.room, h.fit⟩
    · split
      · exact ⟨h.tick.lo, h.tick.hi, h.room, by show used (syncF _ _) ≤ _; rw [used_syncF]; exact h.fit⟩
      · exact h.tick
/-- Add: what is told, and the disk behind it. -/
def addD (D : Dk) (n s : ByteArray) : Int × Dk :=
  if 65536 < s.size then (3, D)
  else if (appendD D n (frameB s).data.toList).1 ≠ 0 then appendD D n (frameB s).data.toList
  else syncD (appendD D n (frameB s).data.toList).2 n
theorem add_ok {D : Dk} (h : D.ok) (n s : ByteArray) : (addD D n s).2.ok := by
  unfold addD
  split
  · exact h
  · split
    · exact append_ok h _ _
    · exact sync_ok (append_ok h _ _) _
theorem callAdd1 : ∀ args w, (callFunc 221 args).run Tryz.prog w = .ok (.enter 221 args) w := fun _ _ => by kernel_rfl
theorem callAdd2 : ∀ args w, (callFunc 223 args).run Tryz.prog w = .ok (.enter 223 args) w := fun _ _ => by kernel_rfl
section
variable {H0 H : Hs} {w0 w : World} {X : Nat → Prop} {ps : List Hp}
set_option maxRecDepth 100000 in
theorem all_any {d : Nat} {D : Dk} (S : St H0 w0 X H w ps) (i : Nat) (hi : ps[i]? = some (diskP d D)) (hD : D.ok) (n : ByteArray) :
    Calls Tryz.prog 61 #[.pointer (some ⟨d, 0, none⟩), .string n] w (fun e w' => ∃ A c, e = .returned (.slice A (framesL ((readF D.files n).getD [])).length c) ∧ St H0 w0 X H w' (own 9 1 (.slice A (framesL ((readF D.files n).getD [])).length c) (framesL ((readF D.files n).getD [])).length (strL (framesL ((readF D.files n).getD []))) :: ps)) := by
  obtain ⟨L, hL⟩ : ∃ L, L = (readF D.files n).getD [] := ⟨_, rfl⟩
  have HR := Lib.hid (read6_any (diskAt_of S i hi) n)
  have hlen : L.length ≤ 1099511627776 := by have h1 := readF_le n D.files; have h2 := hD.fit; rw [hL]; omega
  rw [← hL] at HR ⊢
  have HS := Lib.hid S
  have HLN := Lib.hid hlen
  clear S hL hlen
  go_enter Tryz.func61, Tryz.ntmps61
  go_wp2_with fail
  refine HR.out.mono ?_
  rintro e w1 ⟨rfl, hb1⟩
  have HS1 := Lib.hid (HS.out.grow hb1)
  clear hb1 HS
  go_wp2_with fail
  refine (frames_any HS1.out L HLN.out).mono ?_
  rintro e w2 ⟨A, c, rfl, S2⟩
  have HS2 := Lib.hid S2
  clear S2 HS1
  go_wp2_with fail
  go_ret
  exact ⟨A, c, rfl, HS2.out⟩
def fnsO (b0 b1 b7 : Nat) : Obj := .cells #[.func (.func 221) #[] #[.pointer (some ⟨b0, 0, none⟩), .pointer (some ⟨b1, 0, none⟩), .pointer (some ⟨b7, 0, none⟩)], .func (.func 223) #[] #[.pointer (some ⟨b0, 0, none⟩), .pointer (some ⟨b1, 0, none⟩)]] 328
set_option maxRecDepth 100000 in
theorem add1_any {d b0 b1 b7 g : Nat} {D : Dk} {n f : ByteArray} (S : St H0 w0 X H w (diskP d D :: blk g (fnsO b0 b1 b7) :: blk b7 (boxS f) :: blk b1 (boxS n) :: blk b0 (boxD d) :: ps)) (hD : D.ok) (hn : f.size ≤ 1048576) :
    Calls Tryz.prog 221 #[.pointer (some ⟨b0, 0, none⟩), .pointer (some ⟨b1, 0, none⟩), .pointer (some ⟨b7, 0, none⟩)] w (RetS (.int .i64 (appendD D n f.data.toList).1) H0 H w0 X (diskP d (appendD D n f.data.toList).2 :: blk g (fnsO b0 b1 b7) :: blk b7 (boxS f) :: blk b1 (boxS n) :: blk b0 (boxD d) :: ps)) := by
  have c7 : w.cell? ⟨b7, 0, none⟩ = some (.string f) := S.cell 2 rfl rfl
  have c1 : w.cell? ⟨b1, 0, none⟩ = some (.string n) := S.cell 3 rfl rfl
  have c0 : w.cell? ⟨b0, 0, none⟩ = some (.pointer (some ⟨d, 0, none⟩)) := S.cell 4 rfl rfl
  have HC := Lib.hid (append6_any S 0 rfl hD.lo hD.hi n f (by have := hD.fit; omega))
  clear S hn
  go_enter Tryz.func221, Tryz.ntmps221
  go_wp2_with fail
  refine HC.out.mono ?_
  rintro e w2 ⟨rfl, S2⟩
  have HS2 := Lib.hid S2
  clear S2 HC c7 c1 c0
  go_wp2_with fail
  go_ret
  exact ⟨rfl, HS2.out⟩
set_option maxRecDepth 100000 in
theorem add2_any {d b0 b1 b7 g : Nat} {D : Dk} {n f : ByteArray} (S : St H0 w0 X H w (diskP d D :: blk g (fnsO b0 b1 b7) :: blk b7 (boxS f) :: blk b1 (boxS n) :: blk b0 (boxD d) :: ps)) (hD : D.ok) :
    Calls Tryz.prog 223 #[.pointer (some ⟨b0, 0, none⟩), .pointer (some ⟨b1, 0, none⟩)] w (RetS (.int .i64 (syncD D n).1) H0 H w0 X (diskP d (syncD D n).2 :: blk g (fnsO b0 b1 b7) :: blk b7 (boxS f) :: blk b1 (boxS n) :: blk b0 (boxD d) :: ps)) := by
  have c1 : w.cell? ⟨b1, 0, none⟩ = some (.string n) := S.cell 3 rfl rfl
  have c0 : w.cell? ⟨b0, 0, none⟩ = some (.pointer (some ⟨d, 0, none⟩)) := S.cell 4 rfl rfl
  have HC := Lib.hid (sync_any S 0 rfl hD.lo hD.hi n)
  clear S
  go_enter Tryz.func223, Tryz.ntmps223
  go_wp2_with fail
  refine HC.out.mono ?_
  rintro e w2 ⟨rfl, S2⟩
  have HS2 := Lib.hid S2
  clear S2 HC c1 c0
  go_wp2_with fail
  go_ret
  exact ⟨rfl, HS2.out⟩
def untilR (D : Dk) (n f : ByteArray) : Int × Dk := if (appendD D n f.data.toList).1 ≠ 0 then appendD D n f.data.toList else syncD (appendD D n f.data.toList).2 n
set_option maxRecDepth 100000 in
set_option maxHeartbeats 2000000 in
theorem until_any {d b0 b1 b7 g : Nat} {D : Dk} {n f : ByteArray} (S : St H0 w0 X H w (diskP d D :: blk g (fnsO b0 b1 b7) :: blk b7 (boxS f) :: blk b1 (boxS n) :: blk b0 (boxD d) :: ps)) (hD : D.ok) (hn : f.size ≤ 1048576) :
    Calls Tryz.prog 220 #[.slice (some ⟨g, 0, none⟩) 2 2] w (RetS (.int .i64 (untilR D n f).1) H0 H w0 X (diskP d (untilR D n f).2 :: blk g (fnsO b0 b1 b7) :: blk b7 (boxS f) :: blk b1 (boxS n) :: blk b0 (boxD d) :: ps)) := by
  have HS := Lib.hid S
  have HD := Lib.hid hD
  have HN := Lib.hid hn
  obtain ⟨p, hp⟩ : ∃ p, p = appendD D n f.data.toList := ⟨_, rfl⟩
  obtain ⟨q, hq⟩ : ∃ q, q = syncD p.2 n := ⟨_, rfl⟩
  have HP : Hid (untilR D n f = if p.1 ≠ 0 then p else q) := Lib.hid (by unfold untilR; rw [← hp, ← hq])
  have HP0 := Lib.hid hp
  have HQ0 := Lib.hid hq
  clear S hD hn hp hq
  have hc1 := callAdd1
  have hc2 := callAdd2
  go_enter Tryz.func220, Tryz.ntmps220
  go_wp2_with fail
  go_loopw [8] (fun i wr => ∃ E : Dk, Hid (St H0 w0 X H wr (diskP d E :: blk g (fnsO b0 b1 b7) :: blk b7 (boxS f) :: blk b1 (boxS n) :: blk b0 (boxD d) :: ps)) ∧ ((i = .int .i64 0 ∧ E = D) ∨ (i = .int .i64 1 ∧ p.1 = 0 ∧ E = p.2) ∨ (i = .int .i64 2 ∧ p.1 = 0 ∧ q.1 = 0 ∧ E = q.2))) (fun i _ => 2 - (intOf i).toNat)
  case atStart => exact ⟨D, HS, .inl ⟨rfl, rfl⟩⟩
  case round =>
    clear HS
    obtain ⟨E, HE, h⟩ := hrel
    have k0 : wr.cell? ⟨g, 0, none⟩ = some (.func (.func 221) #[] #[.pointer (some ⟨b0, 0, none⟩), .pointer (some ⟨b1, 0, none⟩), .pointer (some ⟨b7, 0, none⟩)]) := HE.out.cell 1 rfl rfl
    have k1 : wr.cell? ⟨g, 1, none⟩ = some (.func (.func 223) #[] #[.pointer (some ⟨b0, 0, none⟩), .pointer (some ⟨b1, 0, none⟩)]) := HE.out.cell 1 rfl rfl
    rcases h with ⟨rfl, rfl⟩ | ⟨rfl, hp0, rfl⟩ | ⟨rfl, hp0, hq0, rfl⟩
    · have HC := add1_any HE.out HD.out HN.out
      rw [← HP0.out] at HC
      have HC := Lib.hid HC
      go_wp2_with fail
      refine HC.out.mono ?_
      rintro e w2 ⟨rfl, S2⟩
      have HS2 := Lib.hid S2
      clear S2 HC k0 k1
      by_cases h0 : p.1 = 0
      · have hz : (p.1 != 0) = false := by rw [h0]; rfl
        go_wp2_with fail
        go_roundw
        case rel => exact ⟨p.2, HS2, .inr (.inl ⟨rfl, h0, rfl⟩)⟩
        case measure => decide
      · have hz : (p.1 != 0) = true := by simpa using h0
        go_wp2_with fail
        go_ret
        rw [HP.out, if_pos h0]
        exact ⟨rfl, HS2.out⟩
    · have HC := add2_any HE.out (by rw [HP0.out]; exact append_ok HD.out _ _)
      rw [← HQ0.out] at HC
      have HC := Lib.hid HC
      go_wp2_with fail
      refine HC.out.mono ?_
      rintro e w2 ⟨rfl, S2⟩
      have HS2 := Lib.hid S2
      clear S2 HC k0 k1
      by_cases h0 : q.1 = 0
      · have hz : (q.1 != 0) = false := by rw [h0]; rfl
        go_wp2_with fail
        go_roundw
        case rel => exact ⟨q.2, HS2, .inr (.inr ⟨rfl, hp0, h0, rfl⟩)⟩
        case measure => decide
      · have hz : (q.1 != 0) = true := by simpa using h0
        go_wp2_with fail
        go_ret
        rw [HP.out, if_neg (fun h => h hp0)]
        exact ⟨rfl, HS2.out⟩
    · go_wp2_with fail
      go_ret
      rw [HP.out, if_neg (fun h => h hp0)]
      exact ⟨by rw [hq0]; rfl, HE.out⟩
end
end Go.Proofs.YtdnpobjokajigaaGreatDoor
