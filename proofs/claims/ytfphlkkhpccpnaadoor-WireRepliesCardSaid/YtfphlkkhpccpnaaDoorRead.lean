/-
  A reader: need, take.
-/
import Derived.Test.YtfphlkkhpccpnaaDoorPut
namespace Go.Proofs.YtfphlkkhpccpnaaDoor
open Go.RowKit Go.Proofs K

theorem need_yes (w : World) : Calls Tryd.prog 93 #[.bool true] w fun e w' => e = .returned (.tuple #[]) ∧ w = w' := by
  go_enter Tryd.func93, Tryd.ntmps93
  go_wp2
  go_end0
  exact ⟨rfl, rfl⟩
/-- What the reader throws. -/
def wrongV : Value := .iface 162 (.agg #[])
def wrongC : List PanicEntry := [{ v := wrongV, recovered := false }]
theorem need_no (w : World) : Calls Tryd.prog 93 #[.bool false] w fun e w' => e = .panicked wrongC ∧ w = w' := by
  have hp : ∀ w, (Instr.panic (.iface 162 (.agg #[]))).run Tryd.prog w = .halt (.panic (.iface 162 (.agg #[]))) w := fun _ => rfl
  go_enter Tryd.func93, Tryd.ntmps93
  go_wp2
  exact ⟨rfl, rfl, rfl⟩

theorem bodyPost_pan {P : Program} {fn : Func} {R : Ending → World → Prop} {a : Act} {w : World} {chain : List PanicEntry} (hd : a.defers = []) (hR : R (.panicked chain) w) : bodyPost P fn R (.panic chain) a w := ⟨hd, hR⟩
/-- A reader's text. -/
def rdO (s : ByteArray) : Obj := .cells #[.string s] 166
/-- It throws; the reader is forgotten. -/
def PanS (H0 H : Hs) (w0 : World) (X : Nat → Prop) (qs : List Hp) (e : Ending) (w' : World) : Prop := e = .panicked wrongC ∧ St H0 w0 X H w' qs
section
variable {H0 H : Hs} {w0 w : World} {X : Nat → Prop} {ps : List Hp} {p : Nat} {s : ByteArray}
theorem take_yes (S : St H0 w0 X H w ps) (i : Nat) (hi : ps[i]? = some (blk p (rdO s))) (n : Nat) (hn : n ≤ s.size) :
    Calls Tryd.prog 108 #[.pointer (some ⟨p, 0, none⟩), .int .i64 n] w (RetS (.string (s.extract 0 n)) H0 H w0 X (blk p (rdO (s.extract n s.size)) :: ps.eraseIdx i)) := by
  have c0 : w.cell? ⟨p, 0, none⟩ = some (.string s) := S.cell i hi rfl
  have f0 : w.frozen? ⟨p, 0, none⟩ = false := S.frozen i hi 0
  have hc : decide ((n : Int) ≤ (s.size : Int)) = true := by simp; omega
  have HS := Lib.hid (S.setCell (j := 0) i hi (.string (s.extract n s.size)))
  clear S
  go_enter Tryd.func108, Tryd.ntmps108
  go_wp2_with fail
  refine (need_yes _).mono ?_
  rintro e w1 ⟨rfl, rfl⟩
  go_wp2_with fail
  go_ret
  exact ⟨rfl, HS.out⟩
theorem take_no (S : St H0 w0 X H w ps) (i : Nat) (hi : ps[i]? = some (blk p (rdO s))) (n : Nat) (hn : s.size < n) :
    Calls Tryd.prog 108 #[.pointer (some ⟨p, 0, none⟩), .int .i64 n] w (PanS H0 H w0 X (ps.eraseIdx i)) := by
  have c0 : w.cell? ⟨p, 0, none⟩ = some (.string s) := S.cell i hi rfl
  have hc : decide (n ≤ s.size) = false := by simp; omega
  have HS := Lib.hid (S.drop i)
  clear S
  go_enter Tryd.func108, Tryd.ntmps108
  go_wp2_with fail
  refine (need_no _).mono ?_
  rintro e w1 ⟨rfl, rfl⟩
  go_wp2_with fail
  exact bodyPost_pan rfl ⟨rfl, HS.out⟩
end

theorem small_list (s : ByteArray) (A : Option Addr) (n c : Nat) (w : World) : Calls Tryd.prog 75 #[.agg #[.bool true, .string s, .slice A n c]] w (RetV (.tuple #[.int .u64 0, .bool false]) w) := by
  go_enter Tryd.func75, Tryd.ntmps75
  go_wp2_with fail
  go_ret2
  exact ⟨rfl, (Below.refl _ _).alloc (Nat.le_refl _) _⟩
theorem small_long (s : ByteArray) (h : 8 < s.size) (A : Option Addr) (n c : Nat) (w : World) : Calls Tryd.prog 75 #[.agg #[.bool false, .string s, .slice A n c]] w (RetV (.tuple #[.int .u64 0, .bool false]) w) := by
  go_enter Tryd.func75, Tryd.ntmps75
  go_wp2_with fail
  go_ret2
  exact ⟨rfl, (Below.refl _ _).alloc (Nat.le_refl _) _⟩
end Go.Proofs.YtfphlkkhpccpnaaDoor
