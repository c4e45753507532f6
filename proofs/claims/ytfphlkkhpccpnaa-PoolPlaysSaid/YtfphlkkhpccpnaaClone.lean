/-
  slices.Clone at the two types: the answer is a new row with the same cells.
-/
import Derived.Test.YtfphlkkhpccpnaaProg
import Derived.Test.YtfphlkkhpccpnaaK
import Derived.KernelRfl
import Derived.Outline
import Derived.Deep.LoopGhost
import Derived.WalkSpells
import Derived.Laws.StructEq
import Derived.Deep.RegionHeld3
import Derived.Deep.Light
namespace Go.Proofs.Ytfphlkkhpccpnaa
open Go.RowKit Go.Proofs K

/-- A new row that leads to ds is handed back. -/
def NewRow (t size n : Nat) (ds : List D) (Ha H : Hs) (w : World) (e : Ending) (w' : World) : Prop := ∃ A c cs, e = .returned (.slice A n c) ∧ RepL Ha cs ds ∧ St H w none_ H w' [own t size (.slice A n c) n cs]

theorem info28 : (Try.prog.info? 28).map (fun i => (i.zero, i.size, i.bytes)) = some (some (.agg #[.int .u64 0, .int .u64 0, .int .u64 0, .int .u64 0]), 4, 32) := by kernel_rfl
theorem info30 : (Try.prog.info? 30).map (fun i => (i.zero, i.size, i.bytes)) = some (some (.agg #[.string ⟨#[]⟩, .slice none 0 0]), 2, 40) := by kernel_rfl

set_option maxHeartbeats 400000 in
theorem clone29_any (n : Nat) (v : Value) (ds : List D) (Ha H : Hs) (w : World) (ha : Ag Ha w) (hw : Ag H w) (hv : RepV Ha v (.sl 4 n ds)) (hb : n * 32 ≤ 140737488355328) :
    Calls Try.prog 29 #[v] w (NewRow 28 4 n ds Ha H w) := by
  have qn := fun (w : World) (a : Option Addr) (n c n' c' : Nat) => Lib.run_eql_slice_nil (P := Try.prog) w _ _ a n c n' c' Try.underlying22
  obtain ⟨i0, hi, hz0, hz1, hz2⟩ := info_parts info28
  obtain ⟨A, c, cs, rfl, hnc, hA, hl, hr, hd⟩ := hv.sl_inv
  have hcl : cs.length = n * 4 := hd.len.trans hl
  rcases A with _ | ad
  · obtain rfl := hA rfl
    obtain rfl : n = 0 := by omega
    obtain rfl : cs = [] := List.eq_nil_of_length_eq_zero (by simpa using hcl)
    clear hA hv hl hcl hb hnc hr
    have HD := Lib.hid hd
    clear hd
    go_enter Try.func29, Try.ntmps29
    go_wp2_with fail
    go_ret
    exact ⟨none, 0, [], rfl, HD.out, ((St.start hw).more (St.of_below hw (Below.refl _ _))).own_nil⟩
  · have S := (St.start hw).madeRow (e := 28) (size := 4) (n := 0) #[] rfl (by decide)
    have HN := Lib.hid (hr.news (S.agOther ha fun _ h => h.elim))
    have H1 := Lib.hid hd.one
    have HD := Lib.hid hd
    clear hd hr hA hv hl hw ha
    go_enter Try.func29, Try.ntmps29
    go_wp2_with (at_builtin; refine wpList_append_st 0 28 S rfl rfl _ _ 22 rfl i0 _ 32 Try.underlying22 hi hz0 hz1 hz2 rfl (by decide) rfl ad n c cs rfl hcl HN.out H1.out (by unfold maxLen; omega) (by omega) ?_; intro A1 c1 w1 S1; clear S)
    have SH : Hid (St H w none_ H w1 [own 28 4 (.slice A1 n c1) n cs]) := by first | exact S1 | (unfold Hid; simpa using S1)
    clear S1
    go_wp2_with fail
    go_ret
    exact ⟨A1, c1, cs, rfl, HD.out, SH.out⟩

set_option maxHeartbeats 400000 in
theorem clone28_any (n : Nat) (v : Value) (ds : List D) (Ha H : Hs) (w : World) (ha : Ag Ha w) (hw : Ag H w) (hv : RepV Ha v (.sl 2 n ds)) (hb : n * 40 ≤ 140737488355328) :
    Calls Try.prog 28 #[v] w (NewRow 30 2 n ds Ha H w) := by
  have qn := fun (w : World) (a : Option Addr) (n c n' c' : Nat) => Lib.run_eql_slice_nil (P := Try.prog) w _ _ a n c n' c' Try.underlying31
  obtain ⟨i0, hi, hz0, hz1, hz2⟩ := info_parts info30
  obtain ⟨A, c, cs, rfl, hnc, hA, hl, hr, hd⟩ := hv.sl_inv
  have hcl : cs.length = n * 2 := hd.len.trans hl
  rcases A with _ | ad
  · obtain rfl := hA rfl
    obtain rfl : n = 0 := by omega
    obtain rfl : cs = [] := List.eq_nil_of_length_eq_zero (by simpa using hcl)
    clear hA hv hl hcl hb hnc hr
    have HD := Lib.hid hd
    clear hd
    go_enter Try.func28, Try.ntmps28
    go_wp2_with fail
    go_ret
    exact ⟨none, 0, [], rfl, HD.out, ((St.start hw).more (St.of_below hw (Below.refl _ _))).own_nil⟩
  · have S := (St.start hw).madeRow (e := 30) (size := 2) (n := 0) #[] rfl (by decide)
    have HN := Lib.hid (hr.news (S.agOther ha fun _ h => h.elim))
    have H1 := Lib.hid hd.one
    have HD := Lib.hid hd
    clear hd hr hA hv hl hw ha
    go_enter Try.func28, Try.ntmps28
    go_wp2_with (at_builtin; refine wpList_append_st 0 30 S rfl rfl _ _ 31 rfl i0 _ 40 Try.underlying31 hi hz0 hz1 hz2 rfl (by decide) rfl ad n c cs rfl hcl HN.out H1.out (by unfold maxLen; omega) (by omega) ?_; intro A1 c1 w1 S1; clear S)
    have SH : Hid (St H w none_ H w1 [own 30 2 (.slice A1 n c1) n cs]) := by first | exact S1 | (unfold Hid; simpa using S1)
    clear S1
    go_wp2_with fail
    go_ret
    exact ⟨A1, c1, cs, rfl, HD.out, SH.out⟩

end Go.Proofs.Ytfphlkkhpccpnaa
