/-
  Slices that are made: arms for the walk.
-/
import Derived.Test.YtfphlkkhpccpnabDoorK
import Derived.Laws.MakeOwn
import Derived.Laws.OwnMore
namespace Go.Proofs.YtfphlkkhpccpnabDoor.K
open Go.RowKit
section
variable {P : Program} {H0 H : Hs} {w0 w : World} {X : Nat → Prop} {ps : List Hp} {ops : Array Oper} {rest : List Oper} {o : Oper} {a : Act} {Q : Exit → Act → World → Prop}
/-- A row with room. -/
theorem St.madeRoom {e size c : Nat} (h : St H0 w0 X H w ps) (cs : Array Value) (hs : cs.size = c * size) (hn : c ≤ maxLen) : St H0 w0 X H (w.alloc (.cells cs e)) (own e size (.slice (some ⟨w.heap.size, 0, none⟩) 0 c) 0 [] :: ps) :=
  (h.alloc (.cells cs e)).see 0 rfl fun F hF => ⟨World.ownsRow_made w cs c (Nat.zero_le _) hn hs, fun k hk => by cases hk; exact hF.1⟩
theorem wpList_makeRoom_st {size c : Nat} (S : St H0 w0 X H w ps) (hgd : o.guard = none) (e t : TypeId) (y : Operand) (ho : o.op = .makeSlice t (.const (.int .i64 0)) y) (i : TypeInfo) (z : Value) (bytes : Nat) (hy : a.eval y = .int .i64 c)
    (ht : P.underlying t = some (.slice e)) (hi : P.info? e = some i) (hz : i.zero = some z) (hsize : i.size = size) (hby : i.bytes = bytes) (hbytes : c * bytes ≤ 140737488355328) (hc : c ≤ 4611686018427387904)
    (h : ∀ w', St H0 w0 X H w' (own e size (.slice (some ⟨w.heap.size, 0, none⟩) 0 c) 0 [] :: ps) → wpList P ops Q rest (a.put o.dst (.slice (some ⟨w.heap.size, 0, none⟩) 0 c)) w') : wpList P ops Q (o :: rest) a w := by
  subst hsize hby
  refine wpList_plain hgd fun K' hK => ?_
  have hb' : (i.bytes : Int) * (c : Int) ≤ 281474976710656 := by
    have h : ((c * i.bytes : Nat) : Int) ≤ 281474976710656 := by omega
    rw [Nat.mul_comm] at h
    rwa [Int.natCast_mul] at h
  have hr := run_make (P := P) w t e i z ht hi hz .i64 .i64 0 c (Int.le_refl _) (by omega) hb' (by omega)
  simp only [Int.toNat_zero, Int.toNat_natCast] at hr
  unfold Oper.wp execOp
  have h0 : a.eval (.const (.int .i64 0)) = .int .i64 0 := rfl
  simp only [ho, h0, hy, Sem.run_bind, Sem.run_pure, Result.andThen_ok, hr]
  exact hK _ _ (h _ (S.madeRoom _ (size_madeCells _ _) (by unfold maxLen; omega)))
theorem wpList_makeFull_st {size c : Nat} (S : St H0 w0 X H w ps) (hgd : o.guard = none) (e t : TypeId) (x y : Operand) (ho : o.op = .makeSlice t x y) (i : TypeInfo) (z : Value) (bytes : Nat) (hx : a.eval x = .int .i64 c) (hy : a.eval y = .int .i64 c)
    (ht : P.underlying t = some (.slice e)) (hi : P.info? e = some i) (hz : i.zero = some z) (hsize : i.size = size) (hby : i.bytes = bytes) (hbytes : c * bytes ≤ 140737488355328) (hc : c ≤ 4611686018427387904)
    (h : ∀ w', St H0 w0 X H w' (own e size (.slice (some ⟨w.heap.size, 0, none⟩) c c) c (madeCells z.cells (c * size)).toList :: ps) → wpList P ops Q rest (a.put o.dst (.slice (some ⟨w.heap.size, 0, none⟩) c c)) w') : wpList P ops Q (o :: rest) a w := by
  subst hsize hby
  refine wpList_plain hgd fun K' hK => ?_
  have hb' : (i.bytes : Int) * (c : Int) ≤ 281474976710656 := by
    have h : ((c * i.bytes : Nat) : Int) ≤ 281474976710656 := by omega
    rw [Nat.mul_comm] at h
    rwa [Int.natCast_mul] at h
  have hr := run_make (P := P) w t e i z ht hi hz .i64 .i64 c c (by omega) (Int.le_refl _) hb' (by omega)
  simp only [Int.toNat_natCast] at hr
  unfold Oper.wp execOp
  simp only [ho, hx, hy, Sem.run_bind, Sem.run_pure, Result.andThen_ok, hr]
  exact hK _ _ (h _ (S.madeRow _ (size_madeCells _ _) (by unfold maxLen; omega)))
theorem fold_put : ∀ (l : List Value) (k : Nat) (z : Array Value), ((l.zipIdx k).foldl (fun (a : Array Value) (x : Value × Nat) => a.setIfInBounds (0 + x.2) x.1) z).size = z.size ∧
    ∀ i, ((l.zipIdx k).foldl (fun (a : Array Value) (x : Value × Nat) => a.setIfInBounds (0 + x.2) x.1) z)[i]? = if k ≤ i ∧ i < k + l.length ∧ i < z.size then l[i - k]? else z[i]?
  | [], k, z => ⟨rfl, fun i => by rw [if_neg (by simp; omega)]; rfl⟩
  | v :: l, k, z => by
    obtain ⟨h1, h2⟩ := fold_put l (k + 1) (z.setIfInBounds (0 + k) v)
    rw [List.zipIdx_cons, List.foldl_cons]
    refine ⟨by rw [h1, Array.size_setIfInBounds], fun i => ?_⟩
    rw [h2, Array.size_setIfInBounds, List.length_cons]
    by_cases hi : k + 1 ≤ i ∧ i < k + 1 + l.length ∧ i < z.size
    · rw [if_pos hi, if_pos (by omega), show i - k = (i - (k + 1)) + 1 by omega, List.getElem?_cons_succ]
    · rw [if_neg hi, Nat.zero_add, Array.getElem?_setIfInBounds]
      by_cases hk : k = i
      · subst hk
        by_cases hz : k < z.size
        · rw [if_pos rfl, if_pos hz, if_pos (by omega), Nat.sub_self, List.getElem?_cons_zero]
        · rw [if_pos rfl, if_neg hz, if_neg (by omega), Array.getElem?_eq_none (by omega)]
      · rw [if_neg hk, if_neg (by omega)]
theorem fold_put_all (cs z : Array Value) (h : z.size = cs.size) : cs.zipIdx.foldl (fun (a : Array Value) (x : Value × Nat) => a.setIfInBounds (0 + x.2) x.1) z = cs := by
  have e : cs.zipIdx = (cs.toList.zipIdx 0).toArray := by
    apply Array.toList_inj.1
    simp
  rw [e, List.foldl_toArray]
  obtain ⟨h1, h2⟩ := fold_put cs.toList 0 z
  apply Array.ext_getElem?
  intro i
  rw [h2]
  by_cases hi : i < cs.size
  · rw [if_pos (by simp; omega)]
    simp
  · rw [if_neg (by simp; omega), Array.getElem?_eq_none (by omega), Array.getElem?_eq_none (by omega)]
/-- A new slice of one element that is a whole. -/
theorem wpList_build_one_st {e t : TypeId} {cs : Array Value} (S : St H0 w0 X H w ps) (hgd : o.guard = none) (x : Operand) (ho : o.op = .buildSlice t 1 #[(0, x)]) (hx : a.eval x = .agg cs) (i : TypeInfo) (z : Value) (ht : P.underlying t = some (.slice e)) (hi : P.info? e = some i) (hz : i.zero = some z) (hsize : i.size = cs.size)
    (h0 : cs.size ≠ 0) (hn : cs.size ≤ 1000)
    (h : St H0 w0 X H (w.alloc (.cells cs e)) (own e cs.size (.slice (some ⟨w.heap.size, 0, none⟩) 1 1) 1 cs.toList :: ps) → wpList P ops Q rest (a.put o.dst (.slice (some ⟨w.heap.size, 0, none⟩) 1 1)) (w.alloc (.cells cs e))) : wpList P ops Q (o :: rest) a w := by
  refine wpList_plain hgd fun K' hK => ?_
  have hr : (Instr.buildSlice t 1 #[(0, .agg cs)]).run P w = .ok (.slice (some ⟨w.heap.size, 0, none⟩) 1 1) (w.alloc (.cells cs e)) := by
    have hn2 : ¬ (16777216 < cs.size) := by omega
    simp [Instr.buildSlice, run_underlying ht, typeInfo, hi, sizeOf, zeroValue, hz, hsize, h0, hn2, newRow, Instr.fill, Value.cells]
    congr 2
    have hf := fun z : Array Value => fold_put_all cs z
    simp only [Nat.zero_add] at hf
    have hs : cs.zipIdx.size = cs.size := by simp
    rw [← hs]
    exact hf _ (by simp)
  unfold Oper.wp execOp
  simp only [ho, hx, Sem.run_bind, Sem.run_pure, Result.andThen_ok, List.map_toArray, List.map_cons, List.map_nil, hr]
  exact hK _ _ (h (S.madeRow cs (by omega) (by unfold maxLen; omega)))
/-- A whole that lies in a row, loaded. -/
theorem run_loadVar_at (w : World) (a : Addr) (ty : TypeId) (cs : Array Value) (d : TypeDesc) (hc : ∀ j u, cs[j]? = some u → w.cell? (a.add j) = some u)
    (hu : P.underlying ty = some d) (hd : (match d with | .struct _ | .array _ _ => true | _ => false) = true) (hi : (P.info? ty).map (·.size) = some cs.size) :
    (loadVar ty a).run P w = .ok (.agg cs) w := by
  have hl : (loadCells a cs.toList.length).run P w = .ok cs.toList.toArray w :=
    run_loadCells_list (P := P) w a cs.toList (fun j v hv => hc j v (by simpa using hv))
  cases hq : P.info? ty with
  | none => simp [hq] at hi
  | some i =>
    have hs : i.size = cs.size := by simpa [hq] using hi
    have hagg : (isAgg ty).run P w = .ok true w := by
      unfold isAgg
      rw [Sem.run_bind, run_underlying hu w]
      cases d <;> simp_all
    simp only [Array.length_toList, Array.toArray_toList] at hl
    simp [loadVar, Sem.run_bind, hagg, sizeOf, typeInfo, hq, hs, hl]
theorem wpList_loadOwn_st {e size n g c q : Nat} {xs : List Value} {cs : Array Value} (i : Nat) (S : St H0 w0 X H w ps) (hi : ps[i]? = some (own e size (.slice (some ⟨g, 0, none⟩) n c) n xs))
    (hgd : o.guard = none) (ty : TypeId) (x : Operand) (ho : o.op = .load ty x) (hx : a.eval x = .pointer (some ⟨g, q, none⟩)) (d : TypeDesc)
    (hu : P.underlying ty = some d) (hd : (match d with | .struct _ | .array _ _ => true | _ => false) = true) (hs : (P.info? ty).map (·.size) = some cs.size) (hcs : ∀ j u, cs[j]? = some u → xs[q + j]? = some u)
    (h : wpList P ops Q rest (a.put o.dst (.agg cs)) w) : wpList P ops Q (o :: rest) a w := by
  refine wpList_plain hgd fun K' hK => ?_
  have hr := run_loadVar_at (P := P) w ⟨g, q, none⟩ ty cs d (fun j u hj => by
    have h1 := hcs j u hj
    have hlen := (S.own_at i hi).1
    have hlt := (List.getElem?_eq_some_iff.1 h1).1
    rw [Addr.add_lit]
    exact (S.ownCell i hi (q + j) (by omega)).trans h1) hu hd hs
  unfold Oper.wp execOp
  simp only [ho, hx, Instr.loadAt, Instr.sureAddr, Sem.run_bind, Sem.run_pure, Result.andThen_ok, hr]
  exact hK _ _ h
end
end Go.Proofs.YtfphlkkhpccpnabDoor.K
