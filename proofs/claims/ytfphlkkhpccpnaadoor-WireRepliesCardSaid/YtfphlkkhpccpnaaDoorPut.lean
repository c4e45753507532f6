/-
  Numbers, words and lists as items.
-/
import Derived.Test.YtfphlkkhpccpnaaDoorEncL
import Derived.Laws.StructEq
namespace Go.Proofs.YtfphlkkhpccpnaaDoor
open Go.RowKit Go.Proofs K

theorem infoItem : (Tryd.prog.info? 76).map (fun i => (i.zero, i.size, i.bytes)) = some (some (.agg #[.bool false, .string ⟨#[]⟩, .slice none 0 0]), 3, 48) := by kernel_rfl
theorem szItem : (Tryd.prog.info? 76).map (·.size) = some 3 := by kernel_rfl
theorem oneItem (p : Bool) (s : ByteArray) (A : Option Addr) (n c : Nat) : (#[.bool p, .string s, .slice A n c] : Array Value).all (·.oneCell') = true := by simp [Value.oneCell']
theorem numberI_any (n : Int) (w : World) : Calls Tryd.prog 33 #[.int .u64 n] w (RetV (.agg #[.bool false, .string (numS n), .slice none 0 0]) w) := by
  go_enter Tryd.func33, Tryd.ntmps33
  have HS := Lib.hid ((St.start (ag_emp w)).alloc (.cells #[.bool false, .string ⟨#[]⟩, .slice none 0 0] 76))
  go_wp2_with fail
  refine (number_any n _).mono ?_
  rintro e w1 ⟨rfl, hb1⟩
  have HS1 := Lib.hid (HS.out.grow hb1)
  clear hb1 HS
  go_wp2_with fail
  refine (text_any _ _).mono ?_
  rintro e w2 ⟨rfl, hb2⟩
  have HS2 := Lib.hid (HS1.out.grow hb2)
  clear hb2 HS1
  go_wp2_with (first
    | (refine wpList_store_st (cs := #[.bool false, .string (numS n), .slice none 0 0]) 0 HS2.out rfl rfl 76 (.tmp 2) (.tmp 5) rfl rfl rfl szItem rfl (oneItem _ _ _ _ _) ?_)
    | fail)
  intro w4 S4
  go_wp2_with fail
  exact post_cell 0 S4 rfl Tryd.results33 rfl _ Tryd.underlying76 rfl szItem rfl ⟨rfl, S4.below⟩
theorem whole_any (a b c d : Int) (w : World) : Calls Tryd.prog 35 #[.agg #[.int .u64 a, .int .u64 b, .int .u64 c, .int .u64 d]] w (RetV (.agg #[.bool false, .string (wordS a b c d), .slice none 0 0]) w) := by
  go_enter Tryd.func35, Tryd.ntmps35
  have HS := Lib.hid (((St.start (ag_emp w)).alloc (.cells #[.int .u64 a, .int .u64 b, .int .u64 c, .int .u64 d] 24)).alloc' (.cells #[.bool false, .string ⟨#[]⟩, .slice none 0 0] 76) (w.heap.size + 1) (by simp))
  go_wp2_with fail
  refine (bytes_any a b c d _).mono ?_
  rintro e w1 ⟨rfl, hb1⟩
  have HS1 := Lib.hid (HS.out.grow hb1)
  clear hb1 HS
  go_wp2_with fail
  refine (text_any _ _).mono ?_
  rintro e w2 ⟨rfl, hb2⟩
  have HS2 := Lib.hid (HS1.out.grow hb2)
  clear hb2 HS1
  go_wp2_with (first
    | (refine wpList_store_st (cs := #[.bool false, .string (wordS a b c d), .slice none 0 0]) 0 HS2.out rfl rfl 76 (.tmp 2) (.tmp 5) rfl rfl rfl szItem rfl (oneItem _ _ _ _ _) ?_)
    | fail)
  intro w4 S4
  go_wp2_with fail
  exact post_cell 0 S4 rfl Tryd.results35 rfl _ Tryd.underlying76 rfl szItem rfl ⟨rfl, S4.below⟩
/-- A list item is handed back. -/
def ListI (l : List It) (H : Hs) (w : World) (e : Ending) (w' : World) : Prop :=
  ∃ A c H', e = .returned (.agg #[.bool true, .string ⟨#[]⟩, .slice A l.length c]) ∧ RepL H' [.bool true, .string ⟨#[]⟩, .slice A l.length c] (It.list l).d ∧ St H w none_ H' w' []
theorem list_any (l : List It) {H : Hs} {w : World} (hw : Ag H w) (v : Value) (hv : RepV H v (.sl 3 l.length (itsD l))) (hn : l.length ≤ 1099511627776) :
    Calls Tryd.prog 37 #[v] w (ListI l H w) := by
  obtain ⟨i0, hi, hz0, hz1, hz2⟩ := info_parts infoItem
  obtain ⟨A, c, cs, rfl, hnc, hA, hlen, hr, hd⟩ := hv.sl_inv
  have HS := Lib.hid (((St.start hw).alloc (.cells #[.bool false, .string ⟨#[]⟩, .slice none 0 0] 76)).own_nil (e := 76) (size := 3))
  have HR := Lib.hid hr
  have HD := Lib.hid hd
  have HA := Lib.hid hA
  have HL : Hid (cs.length = l.length * 3) := by unfold Hid; rw [hd.len, hlen]
  clear hv hr hd hA hlen hw
  go_enter Tryd.func37, Tryd.ntmps37
  go_wp2_with (first
    | (at_builtin; refine wpList_append_opt 0 76 HS.out rfl rfl _ _ 74 rfl i0 _ 48 Tryd.underlying74 hi hz0 hz1 hz2 rfl (by decide) rfl A l.length c cs rfl HA.out HR.out HS.out.ag HL.out HD.out.one (by unfold maxLen; omega) (by omega) ?_)
    | fail)
  intro A1 c1 w1 S1
  have HS1 : Hid (St H w none_ H w1 [own 76 3 (.slice A1 l.length c1) l.length cs, blk w.heap.size (.cells #[.bool false, .string ⟨#[]⟩, .slice none 0 0] 76)]) := by
    first | exact S1 | (rw [Nat.zero_add] at S1; exact S1)
  clear S1 HS
  obtain ⟨H', hle, hrep, S2⟩ := HS1.out.keepOwn 0 rfl HD.out
  have HS2 : Hid (St H w none_ H' w1 [blk w.heap.size (.cells #[.bool false, .string ⟨#[]⟩, .slice none 0 0] 76)]) := S2
  have HREP := Lib.hid hrep
  clear S2 hrep HS1
  go_wp2_with (first
    | (refine wpList_store_st (cs := #[.bool true, .string ⟨#[]⟩, .slice A1 l.length c1]) 0 HS2.out rfl rfl 76 (.tmp 2) (.tmp 5) rfl rfl rfl szItem rfl (oneItem _ _ _ _ _) ?_)
    | fail)
  intro w4 S4
  go_wp2_with fail
  exact post_cell 0 S4 rfl Tryd.results37 rfl _ Tryd.underlying76 rfl szItem rfl ⟨A1, c1, H', rfl, by unfold It.d; exact .cons (.pl rfl) (.cons (.pl rfl) (.cons HREP.out .nil)), S4.nil⟩
end Go.Proofs.YtfphlkkhpccpnaaDoor
