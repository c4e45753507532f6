/-
  Words, accesses and transactions: how they lie in cells.
-/
import Derived.Test.YtfphlkkhpccpnaaK
namespace Go.Proofs.Ytfphlkkhpccpnaa
open Go.RowKit Go.Proofs K

/-- A word's four numbers; an access; a transaction. -/
structure Wd where
  (a b c d : Int)
structure Ac where
  addr : ByteArray
  slots : List Wd
structure TxS where
  kind : Int
  frm : ByteArray
  to : ByteArray
  nonce : Int
  gas : Int
  p : Wd
  q : Wd
  v : Wd
  data : ByteArray
  acc : List Ac
def wdC (x : Wd) : List Value := [.int .u64 x.a, .int .u64 x.b, .int .u64 x.c, .int .u64 x.d]
def wordsC (l : List Wd) : List Value := l.flatMap wdC
def wordsD (l : List Wd) : D := .sl 4 l.length ((wordsC l).map D.v)
def acD (x : Ac) : List D := [.v (.string x.addr), wordsD x.slots]
def accsD (l : List Ac) : D := .sl 2 l.length (l.flatMap acD)
def TxS.cells (t : TxS) (s : Value) : Array Value := #[.int .i64 t.kind, .string t.frm, .string t.to, .int .u64 t.nonce, .int .u64 t.gas, .int .u64 t.p.a, .int .u64 t.p.b, .int .u64 t.p.c, .int .u64 t.p.d, .int .u64 t.q.a, .int .u64 t.q.b, .int .u64 t.q.c, .int .u64 t.q.d, .int .u64 t.v.a, .int .u64 t.v.b, .int .u64 t.v.c, .int .u64 t.v.d, .string t.data, s]
def TxS.obj (t : TxS) (s : Value) : Obj := .cells (t.cells s) 33
def tx0 : TxS := ⟨0, ⟨#[]⟩, ⟨#[]⟩, 0, 0, ⟨0, 0, 0, 0⟩, ⟨0, 0, 0, 0⟩, ⟨0, 0, 0, 0⟩, ⟨#[]⟩, []⟩
structure TxS.small (t : TxS) : Prop where
  acc : t.acc.length * 40 ≤ 140737488355328
  slots : ∀ a ∈ t.acc, a.slots.length * 32 ≤ 140737488355328

theorem wdC_length (x : Wd) : (wdC x).length = 4 := rfl
theorem acD_length (x : Ac) : (acD x).length = 2 := rfl
theorem wordsC_length (l : List Wd) : (wordsC l).length = l.length * 4 := flat_length wdC_length l
/-- An access's slots, where they lie. -/
theorem accs_slots {H : Hs} {xs : List Value} {l : List Ac} (h : RepL H xs (l.flatMap acD)) {k : Nat} {x : Ac} (hk : l[k]? = some x) : ∃ s, xs[k * 2 + 1]? = some s ∧ RepV H s (wordsD x.slots) := h.get (by rw [flat_get acD_length hk (by omega)]; rfl)
theorem accs_addr {H : Hs} {xs : List Value} {l : List Ac} (h : RepL H xs (l.flatMap acD)) {k : Nat} {x : Ac} (hk : l[k]? = some x) : xs[k * 2]? = some (.string x.addr) := by
  obtain ⟨s, hs, hr⟩ := h.get (i := k * 2 + 0) (d := .v (.string x.addr)) (by rw [flat_get acD_length hk (by omega)]; rfl)
  obtain ⟨rfl, _⟩ := hr.plain_inv
  exact hs
/-- Of the first k accesses the slots lie in H, of the others in Ha. -/
def Mixed (Ha H : Hs) (k : Nat) (ys : List Value) (l : List Ac) : Prop := ∃ y1 y2, ys = y1 ++ y2 ∧ RepL H y1 ((l.take k).flatMap acD) ∧ RepL Ha y2 ((l.drop k).flatMap acD)
theorem Mixed.start {Ha H : Hs} {ys : List Value} {l : List Ac} (h : RepL Ha ys (l.flatMap acD)) : Mixed Ha H 0 ys l := ⟨[], ys, rfl, .nil, h⟩
theorem Mixed.done {Ha H : Hs} {ys : List Value} {l : List Ac} (h : Mixed Ha H l.length ys l) : RepL H ys (l.flatMap acD) := by
  obtain ⟨y1, y2, rfl, h1, h2⟩ := h
  rw [List.take_length] at h1
  rw [List.drop_length] at h2
  obtain rfl := h2.nil_inv
  simpa using h1
theorem Mixed.open {Ha H : Hs} {k : Nat} {ys : List Value} {l : List Ac} {x : Ac} (h : Mixed Ha H k ys l) (hk : l[k]? = some x) : ∃ s, ys[k * 2 + 1]? = some s ∧ RepV Ha s (wordsD x.slots) ∧
    ∀ (H' : Hs) (s' : Value), Le H H' → RepV H' s' (wordsD x.slots) → Mixed Ha H' (k + 1) (ys.set (k * 2 + 1) s') l := by
  obtain ⟨y1, y2, rfl, h1, h2⟩ := h
  have hl := (List.getElem?_eq_some_iff.1 hk)
  obtain ⟨hlt, rfl⟩ := hl
  rw [List.drop_eq_getElem_cons hlt] at h2
  have hy : y1.length = k * 2 := by
    rw [h1.len, flat_length acD_length, List.length_take, Nat.min_eq_left (Nat.le_of_lt hlt)]
  obtain ⟨z, rfl, h3⟩ := RepL.pl_inv h2
  obtain ⟨s, r, rfl, h4, h5⟩ := h3.cons_inv
  refine ⟨s, ?_, h4, fun H' s' hle hs' => ⟨y1 ++ [.string l[k].addr, s'], r, ?_, ?_, h5⟩⟩
  · rw [List.getElem?_append_right (by omega), hy, show k * 2 + 1 - k * 2 = 1 by omega]
    rfl
  · rw [List.set_append_right _ _ (by omega), hy, show k * 2 + 1 - k * 2 = 1 by omega]
    simp
  · rw [List.take_succ_eq_append_getElem hlt, List.flatMap_append]
    exact (h1.le hle).append (.cons (.pl rfl) (.cons hs' .nil))
theorem tx_cells {w : World} {n : Nat} {t : TxS} {s : Value} (h : w.heap[n]? = some (t.obj s)) : w.cell? ⟨n, 0, none⟩ = some (.int .i64 t.kind) ∧ w.cell? ⟨n, 1, none⟩ = some (.string t.frm) ∧ w.cell? ⟨n, 2, none⟩ = some (.string t.to) ∧ w.cell? ⟨n, 3, none⟩ = some (.int .u64 t.nonce) ∧ w.cell? ⟨n, 4, none⟩ = some (.int .u64 t.gas) ∧ w.cell? ⟨n, 5, none⟩ = some (.int .u64 t.p.a) ∧ w.cell? ⟨n, 6, none⟩ = some (.int .u64 t.p.b) ∧ w.cell? ⟨n, 7, none⟩ = some (.int .u64 t.p.c) ∧ w.cell? ⟨n, 8, none⟩ = some (.int .u64 t.p.d) ∧ w.cell? ⟨n, 9, none⟩ = some (.int .u64 t.q.a) ∧ w.cell? ⟨n, 10, none⟩ = some (.int .u64 t.q.b) ∧ w.cell? ⟨n, 11, none⟩ = some (.int .u64 t.q.c) ∧ w.cell? ⟨n, 12, none⟩ = some (.int .u64 t.q.d) ∧ w.cell? ⟨n, 13, none⟩ = some (.int .u64 t.v.a) ∧ w.cell? ⟨n, 14, none⟩ = some (.int .u64 t.v.b) ∧ w.cell? ⟨n, 15, none⟩ = some (.int .u64 t.v.c) ∧ w.cell? ⟨n, 16, none⟩ = some (.int .u64 t.v.d) ∧ w.cell? ⟨n, 17, none⟩ = some (.string t.data) ∧ w.cell? ⟨n, 18, none⟩ = some s := by
  have e : ∀ j, w.cell? ⟨n, j, none⟩ = (t.cells s)[j]? := fun j => cell_of_row w n j _ _ _ h
  exact ⟨e 0, e 1, e 2, e 3, e 4, e 5, e 6, e 7, e 8, e 9, e 10, e 11, e 12, e 13, e 14, e 15, e 16, e 17, e 18⟩

theorem TxS.size_cells (t : TxS) (s : Value) : (t.cells s).size = 19 := rfl

/-- May a transaction be? -/
def acOk (x : Ac) : Bool := x.addr.size == 20 && decide (x.slots.length ≤ 64)
def rightB (t : TxS) : Bool :=
  t.acc.all acOk && (decide (0 ≤ t.kind) && decide (t.kind ≤ 2)) && t.frm.size == 20 && (t.to.size == 0 || t.to.size == 20) && decide (t.data.size ≤ 32768) &&
    ((t.kind != 0 || t.acc.length == 0) && decide (t.acc.length ≤ 64) && (t.kind == 2 || (t.q.a == 0 && t.q.b == 0 && t.q.c == 0 && t.q.d == 0)))
end Go.Proofs.Ytfphlkkhpccpnaa
