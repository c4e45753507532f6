/-
  What a reader reads: items, or it throws.
-/
import Derived.Test.YtfphlkkhpccpnaaDoorSmall
import Derived.Deep.RegionLaw
namespace Go.Proofs.YtfphlkkhpccpnaaDoor.K
open Go.RowKit
section
variable {H0 H : Hs} {w0 w : World} {X : Nat → Prop} {ps : List Hp}
/-- 'append' onto an own row, at a step of a region that draws its order. -/
theorem step_append_st {P : Program} {ops : Array Oper} {o : Oper} {a : Act} {K : Act → World → Prop} {Q : Exit → Act → World → Prop} {E : Prop} {size n : Nat} {v : Value} {xs : List Value} (i : Nat) (e : TypeId) (S : St H0 w0 X H w ps) (hi : ps[i]? = some (own e size v n xs))
    (hgd : o.guard = none) (s x : Operand) (t : TypeId) (ho : o.op = .call { callee := .builtin .append, args := #[s, x], argTypes := #[t, t] }) (inf : TypeInfo) (z : Value) (bytes : Nat)
    (ht : P.underlying t = some (.slice e)) (hinf : P.info? e = some inf) (hz : inf.zero = some z) (hsize : inf.size = size) (hby : inf.bytes = bytes) (hzs : z.cells.size = size) (hsz : 0 < size)
    (hs : a.eval s = v) (ad : Addr) (m c : Nat) (news : List Value) (hx : a.eval x = .slice (some ad) m c) (hl : news.length = m * size) (hnews : ∀ j u, news[j]? = some u → w.cell? (ad.add j) = some u) (h1 : ∀ u ∈ news, u.oneCell' = true)
    (h63 : n + m ≤ maxLen) (hbytes : (n + m) * bytes ≤ 140737488355328)
    (h : ∀ A c w', St H0 w0 X H w' (own e size (.slice A (n + m) c) (n + m) (xs ++ news) :: ps.eraseIdx i) → K (a.put o.dst (.slice A (n + m) c)) w') : if Region.wanted o (yielded ops a.tmps) = true then Oper.wp P o a w K Q else E := by
  rw [if_pos (by simp [Region.wanted, hgd])]
  obtain ⟨v', w', hr, ho', hg, _, hb⟩ := run_append_own_at (P := P) w 0 t o.type e inf z size bytes ht hinf hz hsize hby hzs hsz v n xs (S.own_at i hi) ad m c news hl hnews h1 h63 hbytes (Nat.zero_le _)
  have S' := S.appended i hi ho' hg hb
  unfold Oper.wp execOp
  simp only [ho, resolve, invoke, builtin, Sem.run_bind, Sem.run_pure, Result.andThen_ok, List.map_toArray, List.map_cons, List.map_nil, hs, hx, hr]
  rcases ho'.2 with ⟨rfl, h0⟩ | ⟨g, cap, cur, rfl, _⟩
  · rw [h0] at S' h; exact h _ _ _ S'
  · exact h _ _ _ S'
end
end Go.Proofs.YtfphlkkhpccpnaaDoor.K
namespace Go.Proofs.YtfphlkkhpccpnaaDoor
open Go.RowKit Go.Proofs K

mutual
/-- Of bytes an item is read, and what is left; or none. -/
inductive RdI : Nat → List UInt8 → Option (It × List UInt8) → Prop
  | deep {d : Nat} {l : List UInt8} (h : 64 < d) : RdI d l none
  | nil {d : Nat} : RdI d [] none
  | one {d : Nat} {b : UInt8} {r : List UInt8} (hd : d ≤ 64) (hb : b.toNat < 128) : RdI d (b :: r) (some (.text ⟨#[b]⟩, r))
  | many {d : Nat} {b : UInt8} {r : List UInt8} (hb : 128 ≤ b.toNat) (hb2 : b.toNat < 192) (hm : manyL (b.toNat - 128) r = none) : RdI d (b :: r) none
  | cut {d : Nat} {b : UInt8} {r r2 : List UInt8} {n : Nat} (hb : 128 ≤ b.toNat) (hb2 : b.toNat < 192) (hm : manyL (b.toNat - 128) r = some (n, r2)) (hn : r2.length < n) : RdI d (b :: r) none
  | bad {d : Nat} {b c : UInt8} {r r2 : List UInt8} {n : Nat} (hb : b.toNat = 129) (hm : manyL (b.toNat - 128) r = some (n, r2)) (hn : n ≤ r2.length) (ht : r2.take n = [c]) (hc : c.toNat < 128) : RdI d (b :: r) none
  | text {d : Nat} {b : UInt8} {r r2 : List UInt8} {n : Nat} (hd : d ≤ 64) (hb : 128 ≤ b.toNat) (hb2 : b.toNat < 192) (hm : manyL (b.toNat - 128) r = some (n, r2)) (hn : n ≤ r2.length)
      (ht : ∀ c, r2.take n = [c] → c.toNat < 128 → b.toNat ≠ 129) : RdI d (b :: r) (some (.text ⟨(r2.take n).toArray⟩, r2.drop n))
  | manyL {d : Nat} {b : UInt8} {r : List UInt8} (hb : 192 ≤ b.toNat) (hm : manyL (b.toNat - 192) r = none) : RdI d (b :: r) none
  | cutL {d : Nat} {b : UInt8} {r r2 : List UInt8} {n : Nat} (hb : 192 ≤ b.toNat) (hm : manyL (b.toNat - 192) r = some (n, r2)) (hn : r2.length < n) : RdI d (b :: r) none
  | badL {d : Nat} {b : UInt8} {r r2 : List UInt8} {n : Nat} (hb : 192 ≤ b.toNat) (hm : manyL (b.toNat - 192) r = some (n, r2)) (hn : n ≤ r2.length) (h : RdL (d + 1) (r2.take n) none) : RdI d (b :: r) none
  | list {d : Nat} {b : UInt8} {r r2 : List UInt8} {n : Nat} {l : List It} (hd : d ≤ 64) (hb : 192 ≤ b.toNat) (hm : manyL (b.toNat - 192) r = some (n, r2)) (hn : n ≤ r2.length) (h : RdL (d + 1) (r2.take n) (some l)) : RdI d (b :: r) (some (.list l, r2.drop n))
inductive RdL : Nat → List UInt8 → Option (List It) → Prop
  | nil {d : Nat} : RdL d [] (some [])
  | bad {d : Nat} {l : List UInt8} (hl : l ≠ []) (h : RdI d l none) : RdL d l none
  | step {d : Nat} {l r : List UInt8} {i : It} {o : Option (List It)} (hl : l ≠ []) (h : RdI d l (some (i, r))) (t : RdL d r o) : RdL d l (o.map (i :: ·))
end
theorem manyL_le {f : Nat} {l r : List UInt8} {n : Nat} (h : manyL f l = some (n, r)) : r.length ≤ l.length := by
  unfold manyL at h
  split at h
  · cases h; exact Nat.le_refl _
  · split at h
    · simp only at h
      split at h
      · cases h
        simp
      · cases h
    · cases h
theorem RdI.shorter {d : Nat} {l r : List UInt8} {i : It} (h : RdI d l (some (i, r))) : r.length < l.length := by
  cases h with
  | one => simp
  | text hd hb hb2 hm hn ht => have := manyL_le hm; simp; omega
  | list hd hb hm hn h => have := manyL_le hm; simp; omega

def bs (l : List UInt8) : ByteArray := ⟨l.toArray⟩
theorem bs_size (l : List UInt8) : (bs l).size = l.length := by simp [bs, ByteArray.size]
theorem bs_take (l : List UInt8) (n : Nat) : (bs l).extract 0 n = bs (l.take n) := bytes_ext (by simp [bs])
theorem bs_drop (l : List UInt8) (n : Nat) : (bs l).extract n (bs l).size = bs (l.drop n) := bytes_ext (by
  rw [bs_size]
  simp [bs]
  exact List.take_of_length_le (by simp))
section
variable {H0 H : Hs} {w0 w : World} {X : Nat → Prop} {ps : List Hp} {p : Nat}
theorem take_bs {l : List UInt8} (S : St H0 w0 X H w ps) (i : Nat) (hi : ps[i]? = some (blk p (rdO (bs l)))) (n : Nat) (hn : n ≤ l.length) :
    Calls Tryd.prog 108 #[.pointer (some ⟨p, 0, none⟩), .int .i64 n] w (RetS (.string (bs (l.take n))) H0 H w0 X (blk p (rdO (bs (l.drop n))) :: ps.eraseIdx i)) := by
  have := take_yes S i hi n (by rw [bs_size]; exact hn)
  rwa [bs_take, bs_drop] at this
theorem take_bs_no {l : List UInt8} (S : St H0 w0 X H w ps) (i : Nat) (hi : ps[i]? = some (blk p (rdO (bs l)))) (n : Nat) (hn : l.length < n) :
    Calls Tryd.prog 108 #[.pointer (some ⟨p, 0, none⟩), .int .i64 n] w (PanS H0 H w0 X (ps.eraseIdx i)) := take_no S i hi n (by rw [bs_size]; exact hn)
def ManyP (o : Option (Nat × List UInt8)) (H0 H : Hs) (w0 : World) (X : Nat → Prop) (p : Nat) (qs : List Hp) (e : Ending) (w' : World) : Prop :=
  match o with
  | some (n, r) => e = .returned (.int .i64 n) ∧ St H0 w0 X H w' (blk p (rdO (bs r)) :: qs)
  | none => PanS H0 H w0 X qs e w'
theorem many_any {l : List UInt8} (S : St H0 w0 X H w ps) (i : Nat) (hi : ps[i]? = some (blk p (rdO (bs l)))) (f : Nat) (hf2 : f ≤ 64) :
    Calls Tryd.prog 109 #[.pointer (some ⟨p, 0, none⟩), .int .i64 f] w (ManyP (manyL f l) H0 H w0 X p (ps.eraseIdx i)) := by
  unfold manyL
  by_cases hf : f ≤ 55
  · rw [if_pos hf]
    refine (many_short S f hf).mono ?_
    rintro e w' ⟨he, h⟩
    exact ⟨he, h.pick i hi⟩
  · rw [if_neg hf]
    by_cases hs : f - 55 ≤ l.length
    · rw [if_pos hs]
      simp only
      by_cases h : smallOk ⟨(l.take (f - 55)).toArray⟩ = true ∧ 55 < smallR ⟨(l.take (f - 55)).toArray⟩ ∧ smallR ⟨(l.take (f - 55)).toArray⟩ ≤ 65536
      · rw [if_pos h]
        have h2 := many_big S i hi f hf hf2 (by rw [bs_size]; exact hs) (by rw [bs_take]; exact h.1) (by rw [bs_take]; exact h.2.1) (by rw [bs_take]; exact h.2.2)
        rw [bs_take, bs_drop] at h2
        refine h2.mono ?_
        rintro e w' ⟨he, hS⟩
        refine ⟨?_, hS⟩
        rw [he, Int.toNat_of_nonneg (by have := h.2.1; omega)]
        rfl
      · rw [if_neg h]
        exact many_bad S i hi f hf hf2 (by rw [bs_size]; exact hs) (by rw [bs_take]; exact h)
    · rw [if_neg hs]
      exact many_cut S i hi f hf hf2 (by rw [bs_size]; omega)
end
end Go.Proofs.YtfphlkkhpccpnaaDoor
