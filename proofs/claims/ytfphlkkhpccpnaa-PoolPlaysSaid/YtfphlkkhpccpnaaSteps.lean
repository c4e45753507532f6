/-
  The pool's functions, as steps of one who holds a pool.
-/
import Derived.Test.YtfphlkkhpccpnaaList
import Derived.Test.YtfphlkkhpccpnaaEx
namespace Go.Proofs.Ytfphlkkhpccpnaa
open Go.RowKit Go.Proofs K
section
variable {H0 H : Hs} {w0 w : World} {X : Nat → Prop} {ps : List Hp} {p : Nat} {m : List (Ky × Value)} {l : List TxS}
theorem poolOnce (S : St H0 w0 X H w ps) (i : Nat) (hi : ps[i]? = some (poolP p m)) : (m.map (·.1)).Nodup := by
  obtain ⟨F, ⟨c, _, _, _, _, o, _, hm⟩, _, _⟩ := S.step hi
  exact hm.once
def GetS (H0 H : Hs) (w0 : World) (X : Nat → Prop) (qs : List Hp) (l : List TxS) (k : Ky) (e : Ending) (w' : World) : Prop :=
  ∃ A c H', e = .returned (.tuple #[.agg ((txGot l k).cells (.slice A (txGot l k).acc.length c)), .bool (l.find? (isKey k)).isSome]) ∧ Le H H' ∧ RepV H' (.slice A (txGot l k).acc.length c) (accsD (txGot l k).acc) ∧ St H0 w0 X H' w' qs
theorem get_st (S : St H0 w0 X H w ps) (i : Nat) (hi : ps[i]? = some (poolP p m)) (hl : Txs H m l) (hs : ∀ t ∈ l, t.small) (f : ByteArray) (n : Int) :
    Calls Try.prog 10 #[.pointer (some ⟨p, 0, none⟩), .string f, .int .u64 n] w (GetS H0 H w0 X (poolP p m :: ps.eraseIdx i) l (f, n)) := by
  obtain ⟨F1, hp1, hF1, k1⟩ := S.step hi
  refine (get_any p m l f n F1 H w S.ag hp1 hF1 hl hs).mono ?_
  rintro e w' ⟨s, H', _, rfl, hr, S', _⟩
  obtain ⟨A, c, _, rfl, _⟩ := hr.sl_inv
  exact ⟨A, c, H', rfl, S'.le, hr, k1 _ _ _ S'⟩
def AddS (H0 H : Hs) (w0 : World) (X : Nat → Prop) (p : Nat) (qs : List Hp) (l : List TxS) (t : TxS) (e : Ending) (w' : World) : Prop :=
  ∃ m' H', e = .returned (.int .i64 (addE l t)) ∧ Le H H' ∧ Txs H' m' (addL l t) ∧ St H0 w0 X H' w' (poolP p m' :: qs)
theorem add_st (S : St H0 w0 X H w ps) (i : Nat) (hi : ps[i]? = some (poolP p m)) (hl : Txs H m l) (t : TxS) (s : Value) (hs : RepV H s (accsD t.acc)) (ht : t.small) :
    Calls Try.prog 9 #[.pointer (some ⟨p, 0, none⟩), .agg (t.cells s)] w (AddS H0 H w0 X p (ps.eraseIdx i) l t) := by
  obtain ⟨F1, hp1, hF1, k1⟩ := S.step hi
  refine (add_any p m l t s F1 H H w S.ag (fun b hb => (hF1 b hb).2) S.ag hp1 hF1 hl hs ht).mono ?_
  rintro e w' ⟨m', H', rfl, hl', S'⟩
  exact ⟨m', H', rfl, S'.le, hl', k1 _ _ _ S'⟩
def RemS (H0 H : Hs) (w0 : World) (X : Nat → Prop) (qs : List Hp) (b : Bool) (e : Ending) (w' : World) : Prop := e = .returned (.bool b) ∧ St H0 w0 X H w' qs
theorem remove_st (S : St H0 w0 X H w ps) (i : Nat) (hi : ps[i]? = some (poolP p m)) (hl : Txs H m l) (f : ByteArray) (n : Int) :
    Calls Try.prog 15 #[.pointer (some ⟨p, 0, none⟩), .string f, .int .u64 n] w (RemS H0 H w0 X (poolP p (del m (f, n)) :: ps.eraseIdx i) (l.find? (isKey (f, n))).isSome) := by
  obtain ⟨F1, hp1, hF1, k1⟩ := S.step hi
  refine (remove_any p m l f n F1 H w S.ag hp1 hF1 hl).mono ?_
  rintro e w' ⟨rfl, S'⟩
  refine ⟨?_, k1 _ _ _ S'⟩
  rcases hl.look (f, n) with ⟨h1, h2⟩ | ⟨t, s, h1, h2, h3⟩ <;> rw [h1, h2] <;> rfl
def LenS (H0 H : Hs) (w0 : World) (X : Nat → Prop) (qs : List Hp) (n : Nat) (e : Ending) (w' : World) : Prop := e = .returned (.int .i64 n) ∧ St H0 w0 X H w' qs
theorem len_st (S : St H0 w0 X H w ps) (i : Nat) (hi : ps[i]? = some (poolP p m)) (hl : Txs H m l) :
    Calls Try.prog 12 #[.pointer (some ⟨p, 0, none⟩)] w (LenS H0 H w0 X (poolP p m :: ps.eraseIdx i) l.length) := by
  obtain ⟨F1, hp1, hF1, k1⟩ := S.step hi
  refine (len_any p m F1 H w S.ag hp1 hF1).mono ?_
  rintro e w' ⟨rfl, S'⟩
  exact ⟨by rw [hl.len], k1 _ _ _ S'⟩
def ClearS (H0 H : Hs) (w0 : World) (X : Nat → Prop) (qs : List Hp) (e : Ending) (w' : World) : Prop := e = .returned (.tuple #[]) ∧ St H0 w0 X H w' qs
theorem clear_st (S : St H0 w0 X H w ps) (i : Nat) (hi : ps[i]? = some (poolP p m)) :
    Calls Try.prog 16 #[.pointer (some ⟨p, 0, none⟩)] w (ClearS H0 H w0 X (poolP p [] :: ps.eraseIdx i)) := by
  obtain ⟨F1, hp1, hF1, k1⟩ := S.step hi
  refine (clear_any p m F1 H w S.ag hp1 hF1).mono ?_
  rintro e w' ⟨rfl, S'⟩
  exact ⟨rfl, k1 _ _ _ S'⟩
def ListS (H0 H : Hs) (w0 : World) (X : Nat → Prop) (qs : List Hp) (l : List TxS) (e : Ending) (w' : World) : Prop :=
  ∃ A c xs l' H', e = .returned (.slice A l.length c) ∧ l'.Perm l ∧ l'.Pairwise (fun a b => ¬ ltT b a) ∧ TxRow H' xs l' ∧ Le H H' ∧ St H0 w0 X H' w' (own 33 19 (.slice A l.length c) l.length xs :: qs)
theorem list_st (S : St H0 w0 X H w ps) (i : Nat) (hi : ps[i]? = some (poolP p m)) (hl : Txs H m l) (hs : ∀ t ∈ l, t.small) (hn : l.length ≤ 64) :
    Calls Try.prog 11 #[.pointer (some ⟨p, 0, none⟩)] w (ListS H0 H w0 X (poolP p m :: ps.eraseIdx i) l) := by
  obtain ⟨F1, hp1, hF1, k1⟩ := S.step hi
  refine (list_any p m l F1 H w S.ag hp1 hF1 hl hs hn).mono ?_
  rintro e w' ⟨A, c, xs, l', H', rfl, h1, h2, h3, S'⟩
  exact ⟨A, c, xs, l', H', rfl, h1, h2, h3, S'.le, k1 _ _ _ S'⟩
end
end Go.Proofs.Ytfphlkkhpccpnaa
