/-
  The pool: what it holds; how it is opened and shut.
-/
import Derived.Test.YtfphlkkhpccpnaaMap
import Derived.Test.YtfphlkkhpccpnaaTx
import Derived.Test.YtfphlkkhpccpnaaProg
import Derived.KernelRfl
import Derived.Laws.StructEq
import Derived.Outline
namespace Go.Proofs.Ytfphlkkhpccpnaa
open Go.RowKit Go.Proofs K

abbrev Ky := ByteArray × Int
def encK (k : Ky) : Value := .agg #[.string k.1, .int .u64 k.2]

theorem bytes_beq (a b : ByteArray) : (a.toList == b.toList) = decide (a = b) := by
  rw [Bool.eq_iff_iff, beq_iff_eq, decide_eq_true_eq, ByteArray.toList_eq, ByteArray.toList_eq]
  exact ⟨fun h => ByteArray.ext (Array.toList_inj.1 h), fun h => by rw [h]⟩

theorem chk_string {P : Program} {w : World} {t : TypeId} (hu : P.underlying t = some .string) (b : Bool) (n : Nat) (v : Value) : (Instr.checkKey b (n + 1) t v).run P w = .ok () w := by
  unfold Instr.checkKey
  rw [Sem.run_bind, run_underlying hu]
  rfl
theorem chk_int {P : Program} {w : World} {t : TypeId} {q : IntKind} (hu : P.underlying t = some (.int q)) (b : Bool) (n : Nat) (v : Value) : (Instr.checkKey b (n + 1) t v).run P w = .ok () w := by
  unfold Instr.checkKey
  rw [Sem.run_bind, run_underlying hu]
  rfl

theorem keyOk : KeyOk Try.prog 61 encK where
  eq := fun x y w => by
    have h1 : (if x.1.toList = y.1.toList then if x.2 = y.2 then Result.ok true w else Result.ok false w else Result.ok false w) = Result.ok (decide (x = y)) w := by
      have e1 : x.1.toList = y.1.toList ↔ x.1 = y.1 := by have := bytes_beq x.1 y.1; rw [Bool.eq_iff_iff] at this; simpa using this
      by_cases a : x.1 = y.1 <;> by_cases b : x.2 = y.2 <;> simp [e1, a, b, Prod.ext_iff]
    rw [← h1]
    simp [encK, Op.equal, Op.maxDepth, go_sem]
  chk := fun x b w => by
    simp only [encK]
    unfold Instr.checkKey
    rw [Sem.run_bind, run_underlying Try.underlying61]
    simp [Result.andThen, go_sem, chk_string Try.underlying9, chk_int Try.underlying26]
  now := ⟨_, Try.underlying61, .inl fun _ _ => rfl⟩
  stay := fun x => by
    simp [encK, Instr.sameBits, beq_toListBytes]

/-- A pool in memory: its struct, and the map. -/
def poolO (c : Nat) : Obj := .cells #[.map (some c)] 59
def poolP (p : Nat) (m : List (Ky × Value)) : Hp :=
  ⟨fun F w => ∃ c, c ≠ p ∧ F p ∧ F c ∧ w.heap[p]? = some (poolO c) ∧ ∃ o, w.heap[c]? = some o ∧ IsMap encK o m,
    fun h ⟨c, hne, hp, hc, h1, o, h2, hm⟩ => ⟨c, hne, hp, hc, (h p hp).trans h1, o, (h c hc).trans h2, hm⟩⟩
section
variable {H0 H : Hs} {w0 w : World} {X : Nat → Prop} {ps : List Hp}
theorem openPool {p : Nat} {m : List (Ky × Value)} (h : St H0 w0 X H w ps) (i : Nat) (hi : ps[i]? = some (poolP p m)) : ∃ c, St H0 w0 X H w (blk p (poolO c) :: mapP encK c m :: ps.eraseIdx i) := by
  obtain ⟨F, ⟨c, hne, hp, hc, h1, o, h2, hm⟩, _, _⟩ := h.step hi
  refine ⟨c, h.split i hi fun F ⟨c', hne', hp', hc', h1', o', h2', hm'⟩ => ?_⟩
  obtain rfl : c = c' := by
    rw [h1] at h1'
    simpa [poolO] using h1'
  exact ⟨fun b => b = p, fun b => b = c, ⟨rfl, h1⟩, ⟨rfl, o', h2', hm'⟩, fun b hb => hb ▸ hp', fun b hb => hb ▸ hc', fun b hb hb' => hne (hb'.symm.trans hb)⟩
theorem shutPool {p c : Nat} {m : List (Ky × Value)} (h : St H0 w0 X H w (blk p (poolO c) :: mapP encK c m :: ps)) : St H0 w0 X H w (poolP p m :: ps) :=
  h.join fun _ _ ⟨a, b⟩ ⟨d, o, e, f⟩ hd => ⟨c, fun e => hd p a (e ▸ d), .inl a, .inr d, b, o, e, f⟩
end

/-- The transactions that wait, as they lie in the map. -/
inductive Txs (H : Hs) : List (Ky × Value) → List TxS → Prop
  | nil : Txs H [] []
  | cons {t : TxS} {s : Value} {m : List (Ky × Value)} {l : List TxS} (h : RepV H s (accsD t.acc)) (r : Txs H m l) : Txs H (((t.frm, t.nonce), .agg (t.cells s)) :: m) (t :: l)
theorem Txs.le {H H' : Hs} (hl : Le H H') : ∀ {m : List (Ky × Value)} {l : List TxS}, Txs H m l → Txs H' m l
  | _, _, .nil => .nil
  | _, _, .cons h r => .cons (h.le hl) (r.le hl)
theorem Txs.len {H : Hs} : ∀ {m : List (Ky × Value)} {l : List TxS}, Txs H m l → m.length = l.length
  | _, _, .nil => rfl
  | _, _, .cons h r => by simp [r.len]
theorem Txs.append {H : Hs} : ∀ {m m' : List (Ky × Value)} {l l' : List TxS}, Txs H m l → Txs H m' l' → Txs H (m ++ m') (l ++ l')
  | _, _, _, _, .nil, h => h
  | _, _, _, _, .cons h r, h' => .cons h (r.append h')
def isKey (k : Ky) (t : TxS) : Bool := decide ((t.frm, t.nonce) = k)
theorem Txs.look {H : Hs} (k : Ky) : ∀ {m : List (Ky × Value)} {l : List TxS}, Txs H m l → (mlook m k = none ∧ l.find? (isKey k) = none) ∨ ∃ t s, mlook m k = some (.agg (t.cells s)) ∧ l.find? (isKey k) = some t ∧ RepV H s (accsD t.acc)
  | _, _, .nil => .inl ⟨rfl, rfl⟩
  | _, _, .cons (t := t) (s := s) h r => by
    by_cases e : (t.frm, t.nonce) = k
    · exact .inr ⟨t, s, by simp [mlook, e], by simp [isKey, e], h⟩
    · rcases r.look k with ⟨h1, h2⟩ | ⟨t', s', h1, h2, h3⟩
      · exact .inl ⟨by simpa [mlook, e] using h1, by simpa [isKey, e] using h2⟩
      · exact .inr ⟨t', s', by simpa [mlook, e] using h1, by simpa [isKey, e] using h2, h3⟩

/-- New. -/
def NewP (H : Hs) (w : World) (e : Ending) (w' : World) : Prop := ∃ p, e = .returned (.pointer (some ⟨p, 0, none⟩)) ∧ St H w none_ H w' [poolP p []]
theorem new_any (H : Hs) (w : World) (hw : Ag H w) : Calls Try.prog 8 #[] w (NewP H w) := by
  have hmm := @run_makeMap Try.prog
  have S : Hid (St H w none_ H ((w.alloc (.map #[] 0)).alloc (poolO w.heap.size)) [poolP (w.heap.size + 1) []]) := by
    have S1 := (((St.start hw).alloc (.map #[] 0)).see 0 rfl (q := mapP encK w.heap.size []) fun F ⟨a, b⟩ => ⟨a, _, b, isMap_new 0⟩).alloc (poolO w.heap.size)
    rw [World.size_alloc] at S1
    exact shutPool S1
  clear hw
  go_enter Try.func8, Try.ntmps8
  go_wp2
  go_ret
  exact ⟨_, rfl, S.out⟩

def RetInt (n : Int) (H : Hs) (w : World) (X : Nat → Prop) (qs : List Hp) (e : Ending) (w' : World) : Prop := e = .returned (.int .i64 n) ∧ St H w X H w' qs
theorem len_any (p : Nat) (m : List (Ky × Value)) (F : Nat → Prop) (H : Hs) (w : World) (hw : Ag H w) (hp : (poolP p m).holds F w) (hF : ∀ b, F b → b < w.heap.size ∧ H b = none) :
    Calls Try.prog 12 #[.pointer (some ⟨p, 0, none⟩)] w (RetInt m.length H w F [poolP p m]) := by
  have S := Lib.hid (St.begin hw hp hF)
  obtain ⟨c, S1⟩ := openPool S.out 0 rfl
  have h1 : w.cell? ⟨p, 0, none⟩ = some (.map (some c)) := S1.cell 0 rfl rfl
  obtain ⟨F2, ⟨_, o, ho, hm⟩, _⟩ := S1.step (i := 1) rfl
  have hl := fun ty => len_run Try.underlying57 ho hm ty
  clear hw hp hF S1 ho
  go_enter Try.func12, Try.ntmps12
  go_wp2
  go_ret
  exact ⟨rfl, S.out⟩

/-- What Get tells. -/
def txGot (l : List TxS) (k : Ky) : TxS := (l.find? (isKey k)).getD tx0

def delT (l : List TxS) (k : Ky) : List TxS := match l.findIdx? (isKey k) with | some i => l.eraseIdx i | none => l
theorem Txs.idx {H : Hs} (k : Ky) : ∀ {m : List (Ky × Value)} {l : List TxS}, Txs H m l → m.findIdx? (fun x => decide (x.1 = k)) = l.findIdx? (isKey k)
  | _, _, .nil => rfl
  | _, _, .cons (t := t) _ r => by
    rw [List.findIdx?_cons, List.findIdx?_cons, r.idx k]
    rfl
theorem Txs.erase {H : Hs} : ∀ {m : List (Ky × Value)} {l : List TxS}, Txs H m l → ∀ i, Txs H (m.eraseIdx i) (l.eraseIdx i)
  | _, _, .nil, _ => .nil
  | _, _, .cons _ r, 0 => r
  | _, _, .cons h r, i + 1 => .cons h (r.erase i)
theorem Txs.del {H : Hs} {m : List (Ky × Value)} {l : List TxS} (h : Txs H m l) (k : Ky) : Txs H (K.del m k) (delT l k) := by
  unfold K.del delT
  rw [h.idx k]
  cases l.findIdx? (isKey k) with
  | none => exact h
  | some i => exact h.erase i
theorem Txs.put {H : Hs} {m : List (Ky × Value)} {l : List TxS} (h : Txs H m l) {t : TxS} {s : Value} (hs : RepV H s (accsD t.acc)) (hn : l.find? (isKey (t.frm, t.nonce)) = none) : Txs H (K.put m (t.frm, t.nonce) (.agg (t.cells s))) (l ++ [t]) := by
  have : l.findIdx? (isKey (t.frm, t.nonce)) = none := by
    rw [List.findIdx?_eq_none_iff]
    intro x hx
    have := List.find?_eq_none.1 hn x hx
    simpa using this
  unfold K.put
  rw [h.idx, this]
  exact h.append (.cons hs .nil)
end Go.Proofs.Ytfphlkkhpccpnaa
