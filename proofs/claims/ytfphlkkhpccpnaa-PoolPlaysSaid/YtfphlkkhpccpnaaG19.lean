/-
  The document's pool: Get, Remove.
-/
import Derived.Test.YtfphlkkhpccpnaaF19
namespace Go.Proofs.Ytfphlkkhpccpnaa.K
open Go.RowKit
section
variable {H0 H : Hs} {w0 w : World} {X : Nat → Prop} {ps : List Hp}
/-- 'append' onto an own row, of cells that lie anywhere, or of none. -/
theorem wpList_append_any {P : Program} {ops : Array Oper} {rest : List Oper} {o : Oper} {a : Act} {Q : Exit → Act → World → Prop} {size n : Nat} {v : Value} {xs : List Value} (i : Nat) (e : TypeId) (S : St H0 w0 X H w ps) (hi : ps[i]? = some (own e size v n xs))
    (hgd : o.guard = none) (s x : Operand) (t : TypeId) (ho : o.op = .call { callee := .builtin .append, args := #[s, x], argTypes := #[t, t] }) (inf : TypeInfo) (z : Value) (bytes : Nat)
    (ht : P.underlying t = some (.slice e)) (hinf : P.info? e = some inf) (hz : inf.zero = some z) (hsize : inf.size = size) (hby : inf.bytes = bytes) (hzs : z.cells.size = size) (hsz : 0 < size)
    (hs : a.eval s = v) (A : Option Addr) (m c : Nat) (news : List Value) (hx : a.eval x = .slice A m c) (hA : A = none → m = 0 ∧ c = 0) (hl : news.length = m * size) (hnews : ∀ ad, A = some ad → ∀ j u, news[j]? = some u → w.cell? (ad.add j) = some u) (h1 : ∀ u ∈ news, u.oneCell' = true)
    (h63 : n + m ≤ maxLen) (hbytes : (n + m) * bytes ≤ 140737488355328)
    (h : ∀ A c w', St H0 w0 X H w' (own e size (.slice A (n + m) c) (n + m) (xs ++ news) :: ps.eraseIdx i) → wpList P ops Q rest (a.put o.dst (.slice A (n + m) c)) w') : wpList P ops Q (o :: rest) a w := by
  rcases A with _ | ad
  · obtain ⟨rfl, rfl⟩ := hA rfl
    obtain rfl : news = [] := List.eq_nil_of_length_eq_zero (by omega)
    exact wpList_append_opt (Ha := empH) i e S hi hgd s x t ho inf z bytes ht hinf hz hsize hby hzs hsz hs none 0 0 [] hx (fun _ => rfl) (.inl rfl) (ag_emp _) (by simp) h1 h63 hbytes h
  · exact wpList_append_st i e S hi hgd s x t ho inf z bytes ht hinf hz hsize hby hzs hsz hs ad m c news hx hl (hnews ad rfl) h1 h63 hbytes h
end
end Go.Proofs.Ytfphlkkhpccpnaa.K
namespace Go.Proofs.Ytfphlkkhpccpnaa
open Go.RowKit Go.Proofs K
set_option linter.unusedVariables false

theorem infoTxP : (Try.prog.info? 33).map (fun i => (i.zero, i.size, i.bytes)) = some (some (.agg (tx0.cells (.slice none 0 0))), 19, 192) := by kernel_rfl
def gotC (d : List El) (f : ByteArray) (n : Int) : Array Value := match fhas d f n, d[fidx d f n]? with | true, some x => x.1.cells x.sl | _, _ => tx0.cells (.slice none 0 0)
theorem els_one {d : List El} : ∀ u ∈ d.flatMap encEl, u.oneCell' = true := by
  intro u hu
  obtain ⟨x, _, h⟩ := List.mem_flatMap.1 hu
  exact encEl_one x u h
theorem els_len (d : List El) : (d.flatMap encEl).length = d.length * 19 := flat_length encEl_length d
theorem els_drop : ∀ (d : List El) (k : Nat), (d.drop k).flatMap encEl = (d.flatMap encEl).drop (k * 19)
  | d, 0 => by simp
  | [], k + 1 => by simp
  | x :: d, k + 1 => by
    rw [List.drop_succ_cons, els_drop d k, List.flatMap_cons, show (k + 1) * 19 = (encEl x).length + k * 19 by rw [encEl_length]; omega, ← List.drop_drop, List.drop_left]
theorem els_take : ∀ (d : List El) (k : Nat), (d.take k).flatMap encEl = (d.flatMap encEl).take (k * 19)
  | d, 0 => by simp
  | [], k + 1 => by simp
  | x :: d, k + 1 => by
    rw [List.take_succ_cons, List.flatMap_cons, els_take d k, List.flatMap_cons, show (k + 1) * 19 = (encEl x).length + k * 19 by rw [encEl_length]; omega, List.take_length_add_append]
section
variable {H0 H : Hs} {w0 w : World} {X : Nat → Prop} {ps : List Hp} {p : Nat} {d : List El}
theorem els_cell {g c k : Nat} {w : World} (S : St H0 w0 X H w ps) (i : Nat) (hi : ps[i]? = some (own 33 19 (.slice (some ⟨g, 0, none⟩) d.length c) d.length (d.flatMap encEl))) {j : Nat} {u : Value} (h : (d.flatMap encEl)[k + j]? = some u) : w.cell? (Addr.add ⟨g, k, none⟩ j) = some u := by
  rw [Addr.add_lit]
  have := (List.getElem?_eq_some_iff.1 h).1
  exact (S.ownCell i hi (k + j) (by rw [els_len] at this; omega)).trans h
theorem els_take_cell {g c k : Nat} {w : World} (S : St H0 w0 X H w ps) (i : Nat) (hi : ps[i]? = some (own 33 19 (.slice (some ⟨g, 0, none⟩) d.length c) d.length (d.flatMap encEl))) {j : Nat} {u : Value} (h : ((d.take k).flatMap encEl)[j]? = some u) : w.cell? (Addr.add ⟨g, 0, none⟩ j) = some u := by
  refine els_cell S i hi ?_
  rw [Nat.zero_add]
  rw [els_take, List.getElem?_take] at h
  split at h
  · exact h
  · cases h
theorem els_drop_cell {g c k : Nat} {w : World} (S : St H0 w0 X H w ps) (i : Nat) (hi : ps[i]? = some (own 33 19 (.slice (some ⟨g, 0, none⟩) d.length c) d.length (d.flatMap encEl))) {j : Nat} {u : Value} (h : ((d.drop k).flatMap encEl)[j]? = some u) : w.cell? (Addr.add ⟨g, k * 19, none⟩ j) = some u := by
  refine els_cell S i hi ?_
  rw [els_drop, List.getElem?_drop] at h
  exact h
theorem els_take_len {k : Nat} (h : k ≤ d.length) : ((d.take k).flatMap encEl).length = k * 19 := by rw [els_len, List.length_take, Nat.min_eq_left h]
theorem els_drop_len {k : Nat} : ((d.drop k).flatMap encEl).length = (d.length - k) * 19 := by rw [els_len, List.length_drop]
set_option maxRecDepth 100000 in
set_option maxHeartbeats 4000000 in
theorem rget_st {A : Option Addr} {c : Nat} (S : St H0 w0 X H w ps) (i : Nat) (hi : ps[i]? = some (blk p (refO (.slice A d.length c)))) (j : Nat) (hj : ps[j]? = some (own 33 19 (.slice A d.length c) d.length (d.flatMap encEl))) (hn : d.length ≤ 64) (f : ByteArray) (n : Int) :
    Calls Try.prog 25 #[.pointer (some ⟨p, 0, none⟩), .string f, .int .u64 n] w (RS (.tuple #[.agg (gotC d f n), .bool (fhas d f n)]) H0 H w0 X ps) := by
  have HS1 := Lib.hid (S.alloc (tx0.obj (.slice none 0 0)))
  have HI := Lib.hid hi
  have HJ := Lib.hid hj
  clear S hi hj
  go_enter Try.func25, Try.ntmps25
  go_wp2_with fail
  refine (find_st HS1.out (i + 1) HI.out (j + 1) HJ.out hn f n).mono ?_
  rintro e w1 ⟨rfl, S1⟩
  have HS2 := Lib.hid S1
  clear S1 HS1
  have hc0 : w1.cell? ⟨p, 0, none⟩ = some (.slice A d.length c) := HS2.out.cell (i + 1) HI.out rfl
  obtain ⟨bb, hbb⟩ : ∃ bb, bb = fhas d f n := ⟨_, rfl⟩
  have HH := Lib.hid hbb
  rw [← hbb]
  have hh := hbb.symm
  clear hbb
  cases bb with
  | true =>
    obtain ⟨x, hx⟩ : ∃ x, d[fidx d f n]? = some x := by
      unfold fhas at hh
      cases he : d[fidx d f n]? with
      | none => rw [he] at hh; cases hh
      | some x => exact ⟨x, rfl⟩
    have hlt : fidx d f n < d.length := (List.getElem?_eq_some_iff.1 hx).1
    have HG : Hid (gotC d f n = x.1.cells x.sl) := Lib.hid (by unfold gotC; rw [hh, hx])
    have HE := Lib.hid (el_at hx)
    obtain ⟨g, rfl, hg⟩ := HS2.out.ownForm (j + 1) HJ.out (by omega)
    generalize fidx d f n = k at *
    clear hx hh
    go_wp2_with (first
      | (refine wpList_loadOwn_st (q := k * 19) (cs := x.1.cells x.sl) (j + 1) HS2.out HJ.out rfl 33 (.tmp 23) rfl rfl _ Try.underlying33 rfl szTx HE.out ?_)
      | (refine wpList_store_st (cs := x.1.cells x.sl) 0 HS2.out rfl rfl 33 (.tmp 6) (.tmp 24) rfl rfl rfl szTx rfl oneTx ?_)
      | fail)
    intro w7 S7
    go_wp2_with fail
    exact post_cell2 0 S7 rfl Try.results25 rfl _ Try.underlying33 rfl szTx rfl ⟨by rw [HG.out, ← HH.out]; rfl, S7.drop 0⟩
  | false =>
    have HG : Hid (gotC d f n = tx0.cells (.slice none 0 0)) := Lib.hid (by unfold gotC; rw [hh])
    clear hh
    go_wp2_with (first
      | (refine wpList_store_st (cs := tx0.cells (.slice none 0 0)) 0 HS2.out rfl rfl 33 (.tmp 6) (.tmp 25) rfl rfl rfl szTx rfl oneTx ?_)
      | fail)
    intro w7 S7
    go_wp2_with fail
    exact post_cell2 0 S7 rfl Try.results25 rfl _ Try.underlying33 rfl szTx rfl ⟨by rw [HG.out, ← HH.out]; rfl, S7.drop 0⟩
/-- The document's pool with other ones in it. -/
def RemR (b : Bool) (d' : List El) (H0 H : Hs) (w0 : World) (X : Nat → Prop) (p : Nat) (qs : List Hp) (e : Ending) (w' : World) : Prop :=
  ∃ A c, e = .returned (.bool b) ∧ St H0 w0 X H w' (blk p (refO (.slice A d'.length c)) :: own 33 19 (.slice A d'.length c) d'.length (d'.flatMap encEl) :: qs)
def rdel (d : List El) (f : ByteArray) (n : Int) : List El := if fhas d f n = true then d.take (fidx d f n) ++ d.drop (fidx d f n + 1) else d
set_option maxRecDepth 100000 in
set_option maxHeartbeats 4000000 in
theorem rremove_st {A : Option Addr} {c : Nat} (S : St H0 w0 X H w (blk p (refO (.slice A d.length c)) :: own 33 19 (.slice A d.length c) d.length (d.flatMap encEl) :: ps)) (hn : d.length ≤ 64) (f : ByteArray) (n : Int) :
    Calls Try.prog 24 #[.pointer (some ⟨p, 0, none⟩), .string f, .int .u64 n] w (RemR (fhas d f n) (rdel d f n) H0 H w0 X p ps) := by
  have HS1 := Lib.hid S
  obtain ⟨i0, hi0, hz0, hz1, hz2⟩ := info_parts infoTxP
  clear S
  go_enter Try.func24, Try.ntmps24
  go_wp2_with fail
  refine (find_st HS1.out 0 rfl 1 rfl hn f n).mono ?_
  rintro e w1 ⟨rfl, S1⟩
  have HS2 := Lib.hid S1
  clear S1 HS1
  have hc0 : w1.cell? ⟨p, 0, none⟩ = some (.slice A d.length c) := HS2.out.cell 0 rfl rfl
  obtain ⟨bb, hbb⟩ : ∃ bb, bb = fhas d f n := ⟨_, rfl⟩
  have HH := Lib.hid hbb
  rw [← hbb]
  have hh := hbb.symm
  clear hbb
  cases bb with
  | true =>
    obtain ⟨x, hx⟩ : ∃ x, d[fidx d f n]? = some x := by
      unfold fhas at hh
      cases he : d[fidx d f n]? with
      | none => rw [he] at hh; cases hh
      | some x => exact ⟨x, rfl⟩
    have hlt : fidx d f n < d.length := (List.getElem?_eq_some_iff.1 hx).1
    have HR : Hid (rdel d f n = d.take (fidx d f n) ++ d.drop (fidx d f n + 1)) := Lib.hid (by unfold rdel; rw [hh, if_pos rfl])
    obtain ⟨g, rfl, hg⟩ := HS2.out.ownForm 1 rfl (by omega)
    generalize fidx d f n = k at *
    have hcap : d.length ≤ c := by
      rcases (HS2.out.own_at 1 rfl).2 with ⟨hv, _⟩ | ⟨g', cap, cur, hv, _, _, hnc, _⟩
      · cases hv
      · cases hv; exact hnc
    clear hx hh
    have HS3 := Lib.hid (HS2.out.own_nil (e := 33) (size := 19))
    go_wp2_with (first
      | (at_builtin; refine wpList_append_any 0 33 HS3.out rfl rfl (.tmp 18) (.tmp 24) 42 rfl i0 _ 192 Try.underlying42 hi0 hz0 hz1 hz2 rfl (by decide) rfl (some ⟨g, 0, none⟩) k c ((d.take k).flatMap encEl) rfl (fun h => by cases h) (els_take_len (Nat.le_of_lt hlt)) (fun ad e j u hj => by cases e; exact els_take_cell HS3.out 2 rfl hj) els_one (by unfold maxLen; omega) (by omega) ?_)
      | fail)
    intro A1 c1 w2 S2
    have HS4 : Hid (St H0 w0 X H w2 (own 33 19 (.slice A1 k c1) k ((d.take k).flatMap encEl) :: blk p (refO (.slice (some ⟨g, 0, none⟩) d.length c)) :: own 33 19 (.slice (some ⟨g, 0, none⟩) d.length c) d.length (d.flatMap encEl) :: ps)) := S2
    have hc2 : w2.cell? ⟨p, 0, none⟩ = some (.slice (some ⟨g, 0, none⟩) d.length c) := HS4.out.cell 1 rfl rfl
    have hf2 : w2.frozen? ⟨p, 0, none⟩ = false := HS4.out.frozen 1 rfl 0
    clear S2 HS3 HS2 hc0
    have hnn : ¬ d.length < k + 1 := by omega
    by_cases hedge : c = k + 1
    · subst hedge
      have HD := Lib.hid (show d.take k ++ d.drop (k + 1) = d.take k by rw [List.drop_eq_nil_of_le (by omega), List.append_nil])
      have HL := Lib.hid (show (d.take k).length = k by rw [List.length_take, Nat.min_eq_left (Nat.le_of_lt hlt)])
      go_wp2_with (first
        | (at_builtin; refine wpList_append_any 0 33 HS4.out rfl rfl (.tmp 27) (.tmp 34) 42 rfl i0 _ 192 Try.underlying42 hi0 hz0 hz1 hz2 rfl (by decide) rfl (some ⟨g, 0, none⟩) 0 0 [] rfl (fun h => by cases h) rfl (fun ad e j u hj => by simp at hj) (by simp) (by unfold maxLen; omega) (by omega) ?_)
        | fail)
      intro A2 c2 w3 S3
      have HS5 : Hid (St H0 w0 X H w3 (own 33 19 (.slice A2 k c2) k ((d.take k).flatMap encEl) :: blk p (refO (.slice (some ⟨g, 0, none⟩) d.length (k + 1))) :: own 33 19 (.slice (some ⟨g, 0, none⟩) d.length (k + 1)) d.length (d.flatMap encEl) :: ps)) := by first | exact S3 | simpa using S3
      have hc3 : w3.cell? ⟨p, 0, none⟩ = some (.slice (some ⟨g, 0, none⟩) d.length (k + 1)) := HS5.out.cell 1 rfl rfl
      have hf3 : w3.frozen? ⟨p, 0, none⟩ = false := HS5.out.frozen 1 rfl 0
      clear S3 HS4 hc2 hf2
      go_wp2_with fail
      go_ret
      have S6 := HS5.out.setCell (j := 0) 1 rfl (.slice A2 k c2)
      refine ⟨A2, c2, by rw [← HH.out]; rfl, ?_⟩
      rw [HR.out, HD.out, HL.out]
      exact S6.drop 2
    · go_wp2_with (first
        | (at_builtin; refine wpList_append_any 0 33 HS4.out rfl rfl (.tmp 27) (.tmp 34) 42 rfl i0 _ 192 Try.underlying42 hi0 hz0 hz1 hz2 rfl (by decide) rfl (some ⟨g, (k + 1) * 19, none⟩) (d.length - (k + 1)) (c - (k + 1)) ((d.drop (k + 1)).flatMap encEl) rfl (fun h => by cases h) els_drop_len (fun ad e j u hj => by cases e; exact els_drop_cell HS4.out 2 rfl hj) els_one (by unfold maxLen; omega) (by omega) ?_)
        | fail)
      intro A2 c2 w3 S3
      have hlen : (d.take k ++ d.drop (k + 1)).length = k + (d.length - (k + 1)) := by rw [List.length_append, List.length_take, List.length_drop, Nat.min_eq_left (Nat.le_of_lt hlt)]
      have HL := Lib.hid hlen
      clear hlen
      have HS5 : Hid (St H0 w0 X H w3 (own 33 19 (.slice A2 (k + (d.length - (k + 1))) c2) (k + (d.length - (k + 1))) ((d.take k).flatMap encEl ++ (d.drop (k + 1)).flatMap encEl) :: blk p (refO (.slice (some ⟨g, 0, none⟩) d.length c)) :: own 33 19 (.slice (some ⟨g, 0, none⟩) d.length c) d.length (d.flatMap encEl) :: ps)) := S3
      have hc3 : w3.cell? ⟨p, 0, none⟩ = some (.slice (some ⟨g, 0, none⟩) d.length c) := HS5.out.cell 1 rfl rfl
      have hf3 : w3.frozen? ⟨p, 0, none⟩ = false := HS5.out.frozen 1 rfl 0
      clear S3 HS4 hc2 hf2
      go_wp2_with fail
      go_ret
      have S6 := HS5.out.setCell (j := 0) 1 rfl (.slice A2 (k + (d.length - (k + 1))) c2)
      refine ⟨A2, c2, by rw [← HH.out]; rfl, ?_⟩
      rw [HR.out, List.flatMap_append, HL.out]
      exact S6.drop 2
  | false =>
    have HR : Hid (rdel d f n = d) := Lib.hid (by unfold rdel; rw [hh]; rfl)
    clear hh
    go_wp2_with fail
    go_ret
    exact ⟨A, c, by rw [← HH.out]; rfl, by rw [HR.out]; exact HS2.out⟩
end
end Go.Proofs.Ytfphlkkhpccpnaa
