/-
  Small.
  Numbers, there and back: plain.
  'append' onto an own row, of cells that lie anywhere, or of none.
  What a reader reads: items, or it throws.
  The reader's walk.
-/
import Derived.Test.YtdnpobjokajigaaGreatDoorPart3
import Derived.Lib.ConvBytes
import Derived.Laws.Closers25b
import Derived.Test.YtdnpobjokajigaaGreatDoorPart2
import Derived.Laws.Bits64b
import Derived.Test.YtdnpobjokajigaaGreatDoorK
import Derived.Deep.RegionLaw
import Derived.Deep.RegionWith
import Derived.Deep.RegionHeld3
namespace Go.Proofs.YtdnpobjokajigaaGreatDoor
open Go.RowKit Go.Proofs K

theorem small_zero (s : ByteArray) (h : s.size ≤ 8) (hz : Lib.hasPrefix s.data.toList [0] = true) (A : Option Addr) (n c : Nat) (w : World) : Calls Tryz.prog 168 #[.agg #[.bool false, .string s, .slice A n c]] w (RetV (.tuple #[.int .u64 0, .bool false]) w) := by
  go_enter Tryz.func168, Tryz.ntmps168
  go_wp2_with fail
  refine (Tryz.strings_HasPrefix s ⟨#[0]⟩ _).mono ?_
  rintro e w1 ⟨rfl, rfl⟩
  go_wp2_with fail
  go_ret2
  exact ⟨rfl, (Below.refl _ _).alloc (Nat.le_refl _) _⟩
/-- The number that bytes are. -/
def sstep (n : Int) (b : UInt8) : Int := bits BinOp.or IntKind.u64 (IntKind.u64.wrap (n * 256)) (IntKind.u64.wrap (b.toNat : Int))
def smallV (l : List UInt8) : Int := l.foldl sstep 0
theorem smallV_bd (l : List UInt8) : 0 ≤ smallV l ∧ smallV l < 18446744073709551616 := by
  have h : ∀ (l : List UInt8) (x : Int), 0 ≤ x ∧ x < 18446744073709551616 → 0 ≤ l.foldl sstep x ∧ l.foldl sstep x < 18446744073709551616 := by
    intro l
    induction l with
    | nil => exact fun x h => h
    | cons b l ih =>
      intro x _
      refine ih _ ?_
      have h2 := bits_lo_u64 BinOp.or (IntKind.u64.wrap (x * 256)) (IntKind.u64.wrap (b.toNat : Int))
      have h3 := bits_hi_u64 BinOp.or (IntKind.u64.wrap (x * 256)) (IntKind.u64.wrap (b.toNat : Int))
      unfold sstep
      omega
  exact h l 0 ⟨by decide, by decide⟩
theorem smallV_snoc (s : ByteArray) {k : Nat} (h : k < s.size) : smallV (s.data.toList.take (k + 1)) = sstep (smallV (s.data.toList.take k)) s.data[k] := by
  unfold smallV
  rw [List.take_succ_eq_append_getElem (by simpa using h), List.foldl_append]
  rfl
set_option maxRecDepth 100000 in
theorem small_any (s : ByteArray) (h : s.size ≤ 8) (hz : Lib.hasPrefix s.data.toList [0] = false) (A : Option Addr) (n c : Nat) (w : World) : Calls Tryz.prog 168 #[.agg #[.bool false, .string s, .slice A n c]] w (RetV (.tuple #[.int .u64 (smallV s.data.toList), .bool true]) w) := by
  go_enter Tryz.func168, Tryz.ntmps168
  go_wp2_with fail
  refine (Tryz.strings_HasPrefix s ⟨#[0]⟩ _).mono ?_
  rintro e w1 ⟨rfl, rfl⟩
  have hconv := Lib.run_convert_string_bytes (P := Tryz.prog) (w.alloc (.cells #[.bool false, .string s, .slice A n c] 123)) 9 144 5 s Tryz.underlying9 Tryz.underlying144 Tryz.underlying5
  go_wp2_with fail
  go_loop [2, 5, 23] (fun n b i => ∃ k : Nat, i = .int .i64 k ∧ k ≤ s.size ∧ n = .int .u64 (smallV (s.data.toList.take k))) (fun _ _ i => 8 - (intOf i).toNat)
  case atStart => exact ⟨0, rfl, by omega, rfl⟩
  case round =>
    obtain ⟨k, rfl, hk, rfl⟩ := hrel
    by_cases hlt : k < s.size
    · have hc : (Lib.bytesWorld (w.alloc (.cells #[.bool false, .string s, .slice A n c] 123)) 5 s).cell? ⟨w.heap.size + 1, k, none⟩ = some (.int .u8 ((s.data.toList.getD k 0).toNat : Int)) := by
        have := Lib.bytesWorld_cell (w.alloc (.cells #[.bool false, .string s, .slice A n c] 123)) 5 s k hlt
        rwa [World.size_alloc] at this
      obtain ⟨hx0, hx1⟩ := smallV_bd (s.data.toList.take k)
      have HX := Lib.hid (smallV_snoc s hlt)
      go_wp2_with fail
      go_round
      case rel => exact ⟨k + 1, by go_num, by omega, by rw [HX.out]; rfl⟩
      case measure => simp [intOf]; omega
    · obtain rfl : k = s.size := by omega
      go_wp2_with fail
      go_ret2
      refine ⟨by rw [List.take_of_length_le (by simp)]; rfl, ?_⟩
      have h1 := below_bytes (w.alloc (.cells #[.bool false, .string s, .slice A n c] 123)) 5 s
      exact ((Below.refl _ _).alloc (Nat.le_refl _) _).trans (h1.mono (by simp))

/-- What Small tells of a text. -/
def smallOk (s : ByteArray) : Bool := decide (s.size ≤ 8) && !Lib.hasPrefix s.data.toList [0]
def smallR (s : ByteArray) : Int := if smallOk s then smallV s.data.toList else 0
theorem small_text (s : ByteArray) (A : Option Addr) (n c : Nat) (w : World) : Calls Tryz.prog 168 #[.agg #[.bool false, .string s, .slice A n c]] w (RetV (.tuple #[.int .u64 (smallR s), .bool (smallOk s)]) w) := by
  by_cases h : s.size ≤ 8
  · cases hz : Lib.hasPrefix s.data.toList [0] with
    | true =>
      have e : smallOk s = false := by simp [smallOk, hz]
      simp only [smallR, e]
      exact small_zero s h hz A n c w
    | false =>
      have e : smallOk s = true := by simp [smallOk, hz, h]
      simp only [smallR, e, if_true]
      exact small_any s h hz A n c w
  · have e : smallOk s = false := by simp [smallOk, h]
    simp only [smallR, e]
    exact small_long s (by omega) A n c w
section
variable {H0 H : Hs} {w0 w : World} {X : Nat → Prop} {ps : List Hp} {p : Nat} {s : ByteArray}
/-- How many bytes there are, behind a first one: none: it throws. -/
def manyL (f : Nat) (l : List UInt8) : Option (Nat × List UInt8) :=
  if f ≤ 55 then some (f, l)
  else if f - 55 ≤ l.length then
    let t : ByteArray := ⟨(l.take (f - 55)).toArray⟩
    if smallOk t = true ∧ 55 < smallR t ∧ smallR t ≤ 65536 then some ((smallR t).toNat, l.drop (f - 55)) else none
  else none
theorem many_short (S : St H0 w0 X H w ps) (f : Nat) (hf : f ≤ 55) :
    Calls Tryz.prog 166 #[.pointer (some ⟨p, 0, none⟩), .int .i64 f] w (RetS (.int .i64 f) H0 H w0 X ps) := by
  have HS := Lib.hid S
  clear S
  go_enter Tryz.func166, Tryz.ntmps166
  go_wp2_with fail
  go_ret
  exact ⟨rfl, HS.out⟩
set_option maxRecDepth 100000 in
theorem many_cut (S : St H0 w0 X H w ps) (i : Nat) (hi : ps[i]? = some (blk p (rdO s))) (f : Nat) (hf : ¬ f ≤ 55) (hf2 : f ≤ 64) (hs : s.size < f - 55) :
    Calls Tryz.prog 166 #[.pointer (some ⟨p, 0, none⟩), .int .i64 f] w (PanS H0 H w0 X (ps.eraseIdx i)) := by
  have HS := Lib.hid S
  have HZ := Lib.hid hs
  clear S hs
  have e : (f : Int) - 55 = ((f - 55 : Nat) : Int) := by omega
  go_enter Tryz.func166, Tryz.ntmps166
  go_wp2_with fail
  refine (take_no HS.out i hi (f - 55) HZ.out).mono ?_
  rintro e w1 ⟨rfl, S1⟩
  go_wp2_with fail
  exact bodyPost_pan rfl ⟨rfl, S1⟩
set_option maxRecDepth 100000 in
theorem many_big (S : St H0 w0 X H w ps) (i : Nat) (hi : ps[i]? = some (blk p (rdO s))) (f : Nat) (hf : ¬ f ≤ 55) (hf2 : f ≤ 64) (hs : f - 55 ≤ s.size) (h1 : smallOk (s.extract 0 (f - 55)) = true) (h2 : 55 < smallR (s.extract 0 (f - 55))) (h3 : smallR (s.extract 0 (f - 55)) ≤ 65536) :
    Calls Tryz.prog 166 #[.pointer (some ⟨p, 0, none⟩), .int .i64 f] w (RetS (.int .i64 (smallR (s.extract 0 (f - 55)))) H0 H w0 X (blk p (rdO (s.extract (f - 55) s.size)) :: ps.eraseIdx i)) := by
  have HS := Lib.hid S
  obtain ⟨t, ht⟩ : ∃ t, t = s.extract 0 (f - 55) := ⟨_, rfl⟩
  obtain ⟨r, hr⟩ : ∃ r, r = s.extract (f - 55) s.size := ⟨_, rfl⟩
  rw [← ht] at h1 h2 h3 ⊢
  rw [← hr]
  obtain ⟨q, hq⟩ : ∃ q, q = smallR t := ⟨_, rfl⟩
  rw [← hq] at h2 h3 ⊢
  have HQ := Lib.hid hq
  have HT := Lib.hid ht
  have HR := Lib.hid hr
  have H1 := Lib.hid h1
  have H23 := Lib.hid (And.intro h2 h3)
  clear S h1 h2 h3 ht hr hq
  have e : (f : Int) - 55 = ((f - 55 : Nat) : Int) := by omega
  go_enter Tryz.func166, Tryz.ntmps166
  go_wp2_with fail
  refine (take_yes HS.out i hi (f - 55) hs).mono ?_
  rintro e w1 ⟨rfl, S1⟩
  rw [← HT.out]
  rw [← HR.out] at S1
  have HS1 := Lib.hid S1
  clear S1 HS
  go_wp2_with fail
  refine (text_any _ _).mono ?_
  rintro e w2 ⟨rfl, hb2⟩
  have HS2 := Lib.hid (HS1.out.grow hb2)
  clear hb2 HS1
  go_wp2_with fail
  refine (small_text _ _ _ _ _).mono ?_
  rintro e w3 ⟨rfl, hb3⟩
  have HS3 := Lib.hid (HS2.out.grow hb3)
  clear hb3 HS2
  rw [H1.out, ← HQ.out]
  obtain ⟨h2, h3⟩ := H23.out
  clear H23 H1
  go_wp2_with fail
  refine (need_yes _).mono ?_
  rintro e w4 ⟨rfl, rfl⟩
  go_wp2_with fail
  go_ret
  exact ⟨rfl, HS3.out⟩
set_option maxRecDepth 100000 in
theorem many_bad (S : St H0 w0 X H w ps) (i : Nat) (hi : ps[i]? = some (blk p (rdO s))) (f : Nat) (hf : ¬ f ≤ 55) (hf2 : f ≤ 64) (hs : f - 55 ≤ s.size) (h1 : ¬ (smallOk (s.extract 0 (f - 55)) = true ∧ 55 < smallR (s.extract 0 (f - 55)) ∧ smallR (s.extract 0 (f - 55)) ≤ 65536)) :
    Calls Tryz.prog 166 #[.pointer (some ⟨p, 0, none⟩), .int .i64 f] w (PanS H0 H w0 X (ps.eraseIdx i)) := by
  have HS := Lib.hid S
  have H1 := Lib.hid h1
  clear S h1
  have e : (f : Int) - 55 = ((f - 55 : Nat) : Int) := by omega
  go_enter Tryz.func166, Tryz.ntmps166
  go_wp2_with fail
  refine (take_yes HS.out i hi (f - 55) hs).mono ?_
  rintro e w1 ⟨rfl, S1⟩
  have HS1 := Lib.hid S1
  clear S1 HS
  go_wp2_with fail
  refine (text_any _ _).mono ?_
  rintro e w2 ⟨rfl, hb2⟩
  have HS2 := Lib.hid (HS1.out.grow hb2)
  clear hb2 HS1
  go_wp2_with fail
  refine (small_text _ _ _ _ _).mono ?_
  rintro e w3 ⟨rfl, hb3⟩
  have HS3 := Lib.hid (HS2.out.grow hb3)
  clear hb3 HS2
  generalize smallR (s.extract 0 (f - 55)) = q at H1 ⊢
  generalize smallOk (s.extract 0 (f - 55)) = b at H1 ⊢
  have HP := Lib.hid (HS3.out.drop 0)
  cases b
  · go_wp2_with fail
    refine (need_no _).mono ?_
    rintro e w4 ⟨rfl, rfl⟩
    go_wp2_with fail
    exact bodyPost_pan rfl ⟨rfl, HP.out⟩
  · by_cases h2 : 55 < q
    · have h3 : ¬ q ≤ 65536 := fun h3 => H1.out ⟨rfl, h2, h3⟩
      have h4 : decide (q ≤ 65536) = false := by simp; omega
      clear H1
      go_wp2_with fail
      refine (need_no _).mono ?_
      rintro e w4 ⟨rfl, rfl⟩
      go_wp2_with fail
      exact bodyPost_pan rfl ⟨rfl, HP.out⟩
    · go_wp2_with fail
      refine (need_no _).mono ?_
      rintro e w4 ⟨rfl, rfl⟩
      go_wp2_with fail
      exact bodyPost_pan rfl ⟨rfl, HP.out⟩
end
end Go.Proofs.YtdnpobjokajigaaGreatDoor

namespace Go.Proofs.YtdnpobjokajigaaGreatDoor
open Go.RowKit Go.Proofs K

/-- The value of bytes, the highest first. -/
def valN (l : List UInt8) : Nat := l.foldl (fun n b => n * 256 + b.toNat) 0
theorem wrapU {n : Nat} (h : n < 18446744073709551616) : IntKind.u64.wrap (n : Int) = (n : Int) := by
  simp only [IntKind.wrap, IntKind.bits, IntKind.signed]
  simp
  omega
theorem sstep_val {x : Nat} {b : UInt8} (h : x < 72057594037927936) : sstep (x : Int) b = ((x * 256 + b.toNat : Nat) : Int) := by
  have hb := b.toNat_lt
  unfold sstep
  rw [show ((x : Int) * 256) = ((x * 256 : Nat) : Int) by simp, wrapU (by omega), wrapU (by omega), bits_or_u64_nat _ _ (by omega) (by omega)]
  have := Nat.shiftLeft_add_eq_or_of_lt (a := x) (b := b.toNat) (i := 8) (by simpa using hb)
  rw [Nat.shiftLeft_eq] at this
  rw [← this]
theorem small_fold : ∀ (l : List UInt8) (x k : Nat), x < 256 ^ k → k + l.length ≤ 8 → l.foldl sstep (x : Int) = ((l.foldl (fun n b => n * 256 + b.toNat) x : Nat) : Int) ∧ l.foldl (fun n b => n * 256 + b.toNat) x < 256 ^ (k + l.length)
  | [], x, k, hx, _ => ⟨rfl, by simpa using hx⟩
  | b :: l, x, k, hx, hk => by
    simp only [List.length_cons] at hk
    have h7 : x < 72057594037927936 := Nat.lt_of_lt_of_le hx (Nat.le_trans (Nat.pow_le_pow_right (by decide) (show k ≤ 7 by omega)) (by decide))
    have hb := b.toNat_lt
    have := small_fold l (x * 256 + b.toNat) (k + 1) (by rw [Nat.pow_succ]; omega) (by omega)
    rw [List.foldl_cons, List.foldl_cons, sstep_val h7]
    rw [show k + (b :: l).length = k + 1 + l.length by simp; omega]
    exact this
theorem smallV_val {l : List UInt8} (h : l.length ≤ 8) : smallV l = (valN l : Int) := (small_fold l 0 0 (by decide) (by omega)).1
theorem valN_lt {l : List UInt8} (h : l.length ≤ 8) : valN l < 256 ^ l.length := by
  have := (small_fold l 0 0 (by decide) (by omega)).2
  rw [Nat.zero_add] at this
  exact this
theorem valN_zero : ∀ (l : List UInt8), valN (l.dropWhile (· == 0)) = valN l
  | [] => rfl
  | b :: l => by
    rw [List.dropWhile_cons]
    split
    · rename_i h
      rw [valN_zero l]
      have h' : b = 0 := by simpa using h
      subst h'
      rfl
    · rfl
theorem byteOf {x : Int} (h : 0 ≤ x) (h2 : x < 256) : ((UInt8.ofNat x.toNat).toNat : Int) = x := by
  rw [UInt8.toNat_ofNat']
  omega
theorem nbS_list (n : Int) : (nbS n).data.toList = (nbL n).map fun x => UInt8.ofNat x.toNat := by simp [nbS, strOfNums]
theorem valN_nb {n : Nat} (h : n < 18446744073709551616) : valN (nbS (n : Int)).data.toList = n := by
  have e : ∀ x : Nat, (UInt8.ofNat ((x : Int) % 256).toNat).toNat = x % 256 := fun x => by
    rw [UInt8.toNat_ofNat']
    omega
  have q : ∀ i : Nat, ((n : Int) / 2 ^ (8 * i)) = ((n / 2 ^ (8 * i) : Nat) : Int) := fun i => by simp
  rw [nbS_list]
  simp only [nbL, List.map_map, valN, List.foldl_map, nbyte, q, Function.comp_def, e]
  simp [List.range_succ]
  omega
/-- A number's bytes are read as the number. -/
theorem valN_num {n : Nat} (h : n < 18446744073709551616) : valN (numL (n : Int)) = n := by
  unfold numL Lib.trimLeftB
  rw [valN_zero, valN_nb h]
theorem dropWhile_head {l : List UInt8} : Lib.hasPrefix (l.dropWhile (· == 0)) [0] = false := by
  induction l with
  | nil => rfl
  | cons b l ih =>
    rw [List.dropWhile_cons]
    split
    · exact ih
    · rename_i h
      show ((0 : UInt8) == b && List.isPrefixOf [] l) = false
      have h' : ((0 : UInt8) == b) = false := by
        rw [beq_eq_false_iff_ne]
        intro e
        exact h (by rw [← e]; exact beq_self_eq_true _)
      rw [h']
      rfl
theorem numL_ok (n : Int) : smallOk (numS n) = true := by
  have h := numL_len n
  have e : (numS n).data.toList = numL n := by simp [numS]
  have e2 : (numS n).size = (numL n).length := by simp [numS, ByteArray.size]
  unfold smallOk
  rw [e, e2]
  rw [show Lib.hasPrefix (numL n) [0] = false from dropWhile_head]
  simp [h]
theorem numS_back {n : Int} (h0 : 0 ≤ n) (h : n < 18446744073709551616) : smallR (numS n) = n := by
  obtain ⟨m, rfl⟩ : ∃ m : Nat, n = (m : Int) := ⟨n.toNat, by omega⟩
  have e : (numS (m : Int)).data.toList = numL m := by simp [numS]
  unfold smallR
  rw [if_pos (numL_ok _), e, smallV_val (numL_len _), valN_num (by omega)]
end Go.Proofs.YtdnpobjokajigaaGreatDoor

namespace Go.Proofs.YtdnpobjokajigaaGreatDoor.K
open Go.RowKit
section
variable {H0 H : Hs} {w0 w : World} {X : Nat → Prop} {ps : List Hp}
/-- 'append' onto an own row, of cells that lie anywhere, or of none. -/
theorem wpList_append_any {P : Program} {ops : Array Oper} {rest : List Oper} {o : Oper} {a : Act} {Q : Exit → Act → World → Prop} {size n : Nat} {v : Value} {xs : List Value} (i : Nat) (e : TypeId) (S : St H0 w0 X H w ps) (hi : ps[i]? = some (own e size v n xs))
    (hgd : o.guard = none) (s x : Operand) (t : TypeId) (ho : o.op = .call { callee := .builtin .append, args := #[s, x], argTypes := #[t, t] }) (inf : TypeInfo) (z : Value) (bytes : Nat)
    (ht : P.underlying t = some (.slice e)) (hinf : P.info? e = some inf) (hz : inf.zero = some z) (hsize : inf.size = size) (hby : inf.bytes = bytes) (hzs : z.cells.size = size) (hsz : 0 < size)
    (hs : a.eval s = v) (A : Option Addr) (m c : Nat) (news : List Value) (hx : a.eval x = .slice A m c) (hA : A = none → m = 0 ∧ c = 0) (hl : news.length = m * size) (hnews : ∀ ad, A = some ad → ∀ j u, news[j]? = some u → w.cell? (ad.add j) = some u) (h1 : ∀ u ∈ news, u.oneCell' = true)
    (h63 : n + m ≤ maxLen) (hbytes : (n + m) * bytes ≤ 140737488355328)
    (h : ∀ A c w', St H0 w0 X H w' (own e size (.slice A (n + m) c) (n + m) (xs ++ news) :: ps.eraseIdx i) → wpList P ops Q rest (a.put o.dst (.slice A (n + m) c)) w') : wpList P ops Q (o :: rest) a w := by
  rcases A with _ | ad
  · obtain ⟨rfl, rfl⟩ := hA rfl
    obtain rfl : news = [] := List.eq_nil_of_length_eq_zero (by omega)
    exact wpList_append_opt (Ha := empH) i e S hi hgd s x t ho inf z bytes ht hinf hz hsize hby hzs hsz hs none 0 0 [] hx (fun _ => rfl) (.inl rfl) (ag_emp _) (by simp) h1 h63 hbytes h
  · exact wpList_append_st i e S hi hgd s x t ho inf z bytes ht hinf hz hsize hby hzs hsz hs ad m c news hx hl (hnews ad rfl) h1 h63 hbytes h
/-- 'append' onto an own row, at a step of a region that draws its order. -/
theorem step_append_st {P : Program} {ops : Array Oper} {o : Oper} {a : Act} {K : Act → World → Prop} {Q : Exit → Act → World → Prop} {E : Prop} {size n : Nat} {v : Value} {xs : List Value} (i : Nat) (e : TypeId) (S : St H0 w0 X H w ps) (hi : ps[i]? = some (own e size v n xs))
    (hgd : o.guard = none) (s x : Operand) (t : TypeId) (ho : o.op = .call { callee := .builtin .append, args := #[s, x], argTypes := #[t, t] }) (inf : TypeInfo) (z : Value) (bytes : Nat)
    (ht : P.underlying t = some (.slice e)) (hinf : P.info? e = some inf) (hz : inf.zero = some z) (hsize : inf.size = size) (hby : inf.bytes = bytes) (hzs : z.cells.size = size) (hsz : 0 < size)
    (hs : a.eval s = v) (ad : Addr) (m c : Nat) (news : List Value) (hx : a.eval x = .slice (some ad) m c) (hl : news.length = m * size) (hnews : ∀ j u, news[j]? = some u → w.cell? (ad.add j) = some u) (h1 : ∀ u ∈ news, u.oneCell' = true)
    (h63 : n + m ≤ maxLen) (hbytes : (n + m) * bytes ≤ 140737488355328)
    (h : ∀ A c w', St H0 w0 X H w' (own e size (.slice A (n + m) c) (n + m) (xs ++ news) :: ps.eraseIdx i) → K (a.put o.dst (.slice A (n + m) c)) w') : if Region.wanted o (yielded ops a.tmps) = true then Oper.wp P o a w K Q else E := by
  rw [if_pos (by simp [Region.wanted, hgd])]
  obtain ⟨v', w', hr, ho', hg, _, hb⟩ := run_append_own_at (P := P) w 0 t o.type e inf z size bytes ht hinf hz hsize hby hzs hsz v n xs (S.own_at i hi) ad m c news hl hnews h1 h63 hbytes (Nat.zero_le _)
  have S' := S.appended i hi ho' hg hb
  unfold Oper.wp execOp
  simp only [ho, resolve, invoke, builtin, Sem.run_bind, Sem.run_pure, Result.andThen_ok, List.map_toArray, List.map_cons, List.map_nil, hs, hx, hr]
  rcases ho'.2 with ⟨rfl, h0⟩ | ⟨g, cap, cur, rfl, _⟩
  · rw [h0] at S' h; exact h _ _ _ S'
  · exact h _ _ _ S'
end
end Go.Proofs.YtdnpobjokajigaaGreatDoor.K

namespace Go.Proofs.YtdnpobjokajigaaGreatDoor
open Go.RowKit Go.Proofs K

mutual
/-- Of bytes an item is read, and what is left; or none. -/
inductive RdI : Nat → List UInt8 → Option (It × List UInt8) → Prop
  | deep {d : Nat} {l : List UInt8} (h : 64 < d) : RdI d l none
  | nil {d : Nat} : RdI d [] none
  | one {d : Nat} {b : UInt8} {r : List UInt8} (hd : d ≤ 64) (hb : b.toNat < 128) : RdI d (b :: r) (some (.text ⟨#[b]⟩, r))
  | many {d : Nat} {b : UInt8} {r : List UInt8} (hb : 128 ≤ b.toNat) (hb2 : b.toNat < 192) (hm : manyL (b.toNat - 128) r = none) : RdI d (b :: r) none
  | cut {d : Nat} {b : UInt8} {r r2 : List UInt8} {n : Nat} (hb : 128 ≤ b.toNat) (hb2 : b.toNat < 192) (hm : manyL (b.toNat - 128) r = some (n, r2)) (hn : r2.length < n) : RdI d (b :: r) none
  | bad {d : Nat} {b c : UInt8} {r r2 : List UInt8} {n : Nat} (hb : b.toNat = 129) (hm : manyL (b.toNat - 128) r = some (n, r2)) (hn : n ≤ r2.length) (ht : r2.take n = [c]) (hc : c.toNat < 128) : RdI d (b :: r) none
  | text {d : Nat} {b : UInt8} {r r2 : List UInt8} {n : Nat} (hd : d ≤ 64) (hb : 128 ≤ b.toNat) (hb2 : b.toNat < 192) (hm : manyL (b.toNat - 128) r = some (n, r2)) (hn : n ≤ r2.length)
      (ht : ∀ c, r2.take n = [c] → c.toNat < 128 → b.toNat ≠ 129) : RdI d (b :: r) (some (.text ⟨(r2.take n).toArray⟩, r2.drop n))
  | manyL {d : Nat} {b : UInt8} {r : List UInt8} (hb : 192 ≤ b.toNat) (hm : manyL (b.toNat - 192) r = none) : RdI d (b :: r) none
  | cutL {d : Nat} {b : UInt8} {r r2 : List UInt8} {n : Nat} (hb : 192 ≤ b.toNat) (hm : manyL (b.toNat - 192) r = some (n, r2)) (hn : r2.length < n) : RdI d (b :: r) none
  | badL {d : Nat} {b : UInt8} {r r2 : List UInt8} {n : Nat} (hb : 192 ≤ b.toNat) (hm : manyL (b.toNat - 192) r = some (n, r2)) (hn : n ≤ r2.length) (h : RdL (d + 1) (r2.take n) none) : RdI d (b :: r) none
  | list {d : Nat} {b : UInt8} {r r2 : List UInt8} {n : Nat} {l : List It} (hd : d ≤ 64) (hb : 192 ≤ b.toNat) (hm : manyL (b.toNat - 192) r = some (n, r2)) (hn : n ≤ r2.length) (h : RdL (d + 1) (r2.take n) (some l)) : RdI d (b :: r) (some (.list l, r2.drop n))
inductive RdL : Nat → List UInt8 → Option (List It) → Prop
  | nil {d : Nat} : RdL d [] (some [])
  | bad {d : Nat} {l : List UInt8} (hl : l ≠ []) (h : RdI d l none) : RdL d l none
  | step {d : Nat} {l r : List UInt8} {i : It} {o : Option (List It)} (hl : l ≠ []) (h : RdI d l (some (i, r))) (t : RdL d r o) : RdL d l (o.map (i :: ·))
end
theorem manyL_le {f : Nat} {l r : List UInt8} {n : Nat} (h : manyL f l = some (n, r)) : r.length ≤ l.length := by
  unfold manyL at h
  split at h
  · cases h; exact Nat.le_refl _
  · split at h
    · simp only at h
      split at h
      · cases h
        simp
      · cases h
    · cases h
theorem RdI.shorter {d : Nat} {l r : List UInt8} {i : It} (h : RdI d l (some (i, r))) : r.length < l.length := by
  cases h with
  | one => simp
  | text hd hb hb2 hm hn ht => have := manyL_le hm; simp; omega
  | list hd hb hm hn h => have := manyL_le hm; simp; omega

theorem bs_take (l : List UInt8) (n : Nat) : (bs l).extract 0 n = bs (l.take n) := bytes_ext (by simp [bs])
theorem bs_drop (l : List UInt8) (n : Nat) : (bs l).extract n (bs l).size = bs (l.drop n) := bytes_ext (by
  rw [bs_size]
  simp [bs]
  exact List.take_of_length_le (by simp))
section
variable {H0 H : Hs} {w0 w : World} {X : Nat → Prop} {ps : List Hp} {p : Nat}
theorem take_bs {l : List UInt8} (S : St H0 w0 X H w ps) (i : Nat) (hi : ps[i]? = some (blk p (rdO (bs l)))) (n : Nat) (hn : n ≤ l.length) :
    Calls Tryz.prog 165 #[.pointer (some ⟨p, 0, none⟩), .int .i64 n] w (RetS (.string (bs (l.take n))) H0 H w0 X (blk p (rdO (bs (l.drop n))) :: ps.eraseIdx i)) := by
  have := take_yes S i hi n (by rw [bs_size]; exact hn)
  rwa [bs_take, bs_drop] at this
theorem take_bs_no {l : List UInt8} (S : St H0 w0 X H w ps) (i : Nat) (hi : ps[i]? = some (blk p (rdO (bs l)))) (n : Nat) (hn : l.length < n) :
    Calls Tryz.prog 165 #[.pointer (some ⟨p, 0, none⟩), .int .i64 n] w (PanS H0 H w0 X (ps.eraseIdx i)) := take_no S i hi n (by rw [bs_size]; exact hn)
def ManyP (o : Option (Nat × List UInt8)) (H0 H : Hs) (w0 : World) (X : Nat → Prop) (p : Nat) (qs : List Hp) (e : Ending) (w' : World) : Prop :=
  match o with
  | some (n, r) => e = .returned (.int .i64 n) ∧ St H0 w0 X H w' (blk p (rdO (bs r)) :: qs)
  | none => PanS H0 H w0 X qs e w'
theorem many_any {l : List UInt8} (S : St H0 w0 X H w ps) (i : Nat) (hi : ps[i]? = some (blk p (rdO (bs l)))) (f : Nat) (hf2 : f ≤ 64) :
    Calls Tryz.prog 166 #[.pointer (some ⟨p, 0, none⟩), .int .i64 f] w (ManyP (manyL f l) H0 H w0 X p (ps.eraseIdx i)) := by
  unfold manyL
  by_cases hf : f ≤ 55
  · rw [if_pos hf]
    refine (many_short S f hf).mono ?_
    rintro e w' ⟨he, h⟩
    exact ⟨he, h.pick i hi⟩
  · rw [if_neg hf]
    by_cases hs : f - 55 ≤ l.length
    · rw [if_pos hs]
      simp only
      by_cases h : smallOk ⟨(l.take (f - 55)).toArray⟩ = true ∧ 55 < smallR ⟨(l.take (f - 55)).toArray⟩ ∧ smallR ⟨(l.take (f - 55)).toArray⟩ ≤ 65536
      · rw [if_pos h]
        have h2 := many_big S i hi f hf hf2 (by rw [bs_size]; exact hs) (by rw [bs_take]; exact h.1) (by rw [bs_take]; exact h.2.1) (by rw [bs_take]; exact h.2.2)
        rw [bs_take, bs_drop] at h2
        refine h2.mono ?_
        rintro e w' ⟨he, hS⟩
        refine ⟨?_, hS⟩
        rw [he, Int.toNat_of_nonneg (by have := h.2.1; omega)]
        rfl
      · rw [if_neg h]
        exact many_bad S i hi f hf hf2 (by rw [bs_size]; exact hs) (by rw [bs_take]; exact h)
    · rw [if_neg hs]
      exact many_cut S i hi f hf hf2 (by rw [bs_size]; omega)
end
end Go.Proofs.YtdnpobjokajigaaGreatDoor

namespace Go.Proofs.YtdnpobjokajigaaGreatDoor
open Go.RowKit Go.Proofs K

def ItemR (o : Option (It × List UInt8)) (H0 H : Hs) (w0 : World) (X : Nat → Prop) (p : Nat) (qs : List Hp) (e : Ending) (w' : World) : Prop :=
  match o with
  | some (i, r) => ∃ x y z H', e = .returned (.agg #[x, y, z]) ∧ Le H H' ∧ RepL H' [x, y, z] i.d ∧ St H0 w0 X H' w' (blk p (rdO (bs r)) :: qs)
  | none => PanS H0 H w0 X qs e w'
def ItemQ (d : Nat) (l : List UInt8) (H0 H : Hs) (w0 : World) (X : Nat → Prop) (p : Nat) (qs : List Hp) (e : Ending) (w' : World) : Prop := ∃ o, RdI d l o ∧ ItemR o H0 H w0 X p qs e w'
/-- Reading an item of fewer than N bytes. -/
def ReadOk (N : Nat) : Prop := ∀ (l : List UInt8) (d : Nat) (H0 H : Hs) (w0 w : World) (X : Nat → Prop) (ps : List Hp) (p i : Nat), l.length < N → l.length ≤ 65536 → d ≤ 65 → St H0 w0 X H w ps → ps[i]? = some (blk p (rdO (bs l))) →
  Calls Tryz.prog 122 #[.pointer (some ⟨p, 0, none⟩), .int .i64 d] w (ItemQ d l H0 H w0 X p (ps.eraseIdx i))
section
variable {H0 H : Hs} {w0 w : World} {X : Nat → Prop} {ps : List Hp} {p : Nat}
theorem rd_deep (S : St H0 w0 X H w ps) (i : Nat) {l : List UInt8} (d : Nat) (hd : 64 < d) (hd2 : d ≤ 65) :
    Calls Tryz.prog 122 #[.pointer (some ⟨p, 0, none⟩), .int .i64 d] w (ItemQ d l H0 H w0 X p (ps.eraseIdx i)) := by
  have hdd : decide ((d : Int) ≤ 64) = false := by simp; omega
  have HS := Lib.hid ((S.alloc (.cells #[.bool false, .string ⟨#[]⟩, .slice none 0 0] 123)).drop 0)
  have HD := Lib.hid hd
  clear S hd
  go_enter Tryz.func122, Tryz.ntmps122
  go_wp2_with fail
  refine (need_no _).mono ?_
  rintro e w1 ⟨rfl, rfl⟩
  go_wp2_with fail
  exact bodyPost_pan rfl ⟨none, .deep HD.out, rfl, HS.out.drop i⟩
theorem rd_nil (S : St H0 w0 X H w ps) (i : Nat) (hi : ps[i]? = some (blk p (rdO (bs [])))) (d : Nat) (hd : d ≤ 64) :
    Calls Tryz.prog 122 #[.pointer (some ⟨p, 0, none⟩), .int .i64 d] w (ItemQ d [] H0 H w0 X p (ps.eraseIdx i)) := by
  have hdd : decide ((d : Int) ≤ 64) = true := by simp; omega
  have HS := Lib.hid (S.alloc (.cells #[.bool false, .string ⟨#[]⟩, .slice none 0 0] 123))
  have HI := Lib.hid hi
  clear S hd hi
  go_enter Tryz.func122, Tryz.ntmps122
  go_wp2_with fail
  refine (need_yes _).mono ?_
  rintro e w1 ⟨rfl, rfl⟩
  go_wp2_with fail
  refine (take_bs_no HS.out (i + 1) HI.out 1 (by simp)).mono ?_
  rintro e w1 ⟨rfl, S1⟩
  go_wp2_with fail
  exact bodyPost_pan rfl ⟨none, .nil, rfl, S1.drop 0⟩
set_option maxRecDepth 100000 in
theorem rd_one (S : St H0 w0 X H w ps) (i : Nat) {b : UInt8} {r : List UInt8} (hi : ps[i]? = some (blk p (rdO (bs (b :: r))))) (d : Nat) (hd : d ≤ 64) (hb : b.toNat < 128) :
    Calls Tryz.prog 122 #[.pointer (some ⟨p, 0, none⟩), .int .i64 d] w (ItemQ d (b :: r) H0 H w0 X p (ps.eraseIdx i)) := by
  have hdd : decide ((d : Int) ≤ 64) = true := by simp; omega
  have hb2 : (b.toNat : Int) < 128 := by omega
  have HS := Lib.hid (S.alloc (.cells #[.bool false, .string ⟨#[]⟩, .slice none 0 0] 123))
  have HI := Lib.hid hi
  have HD := Lib.hid (And.intro hd hb)
  clear S hd hi hb
  go_enter Tryz.func122, Tryz.ntmps122
  go_wp2_with fail
  refine (need_yes _).mono ?_
  rintro e w1 ⟨rfl, rfl⟩
  go_wp2_with fail
  refine (take_bs HS.out (i + 1) HI.out 1 (by simp)).mono ?_
  rintro e w1 ⟨rfl, S1⟩
  have HS1 : Hid (St H0 w0 X H w1 (blk p (rdO (bs r)) :: blk w.heap.size (.cells #[.bool false, .string ⟨#[]⟩, .slice none 0 0] 123) :: ps.eraseIdx i)) := S1
  obtain ⟨f, hf, h0, hf0⟩ : ∃ f : ByteArray, f = bs ((b :: r).take 1) ∧ ∃ h : 0 < f.size, f[0] = b := ⟨_, rfl, by rw [bs_size]; simp, rfl⟩
  rw [← hf]
  have HF := Lib.hid hf
  have h256 : (b.toNat : Int) < 256 := by have := b.toNat_lt; omega
  clear S1 HS hf
  go_wp2_with fail
  refine (text_any _ _).mono ?_
  rintro e w2 ⟨rfl, hb2⟩
  have HS2 := Lib.hid (HS1.out.grow hb2)
  clear hb2 HS1
  go_wp2_with (first
    | (refine wpList_store_st (cs := #[.bool false, .string f, .slice none 0 0]) 1 HS2.out rfl rfl 123 (.tmp 4) (.tmp 22) rfl rfl rfl szItem rfl (oneItem _ _ _ _ _) ?_)
    | fail)
  intro w4 S4
  go_wp2_with fail
  exact post_cell 0 S4 rfl Tryz.results122 rfl _ Tryz.underlying123 rfl szItem rfl ⟨_, .one HD.out.1 HD.out.2, _, _, _, H, rfl, Le.refl _, by rw [HF.out]; unfold It.d; exact .cons (.pl rfl) (.cons (.pl rfl) (.cons (.sl (Nat.le_refl _) (fun _ => rfl) rfl (.inl rfl) .nil) .nil)), S4.drop 0⟩
set_option maxRecDepth 100000 in
theorem rd_text (S : St H0 w0 X H w ps) (i : Nat) {b : UInt8} {r : List UInt8} (hi : ps[i]? = some (blk p (rdO (bs (b :: r))))) (d : Nat) (hd : d ≤ 64) (hb : 128 ≤ b.toNat ∧ b.toNat < 192) :
    Calls Tryz.prog 122 #[.pointer (some ⟨p, 0, none⟩), .int .i64 d] w (ItemQ d (b :: r) H0 H w0 X p (ps.eraseIdx i)) := by
  have hdd : decide ((d : Int) ≤ 64) = true := by simp; omega
  have hb2 : ¬ (b.toNat : Int) < 128 := by omega
  have hb3 : (b.toNat : Int) < 192 := by omega
  have hsub : (b.toNat : Int) - 128 = ((b.toNat - 128 : Nat) : Int) := by omega
  have h64 : b.toNat - 128 ≤ 64 := by omega
  have HS := Lib.hid (S.alloc (.cells #[.bool false, .string ⟨#[]⟩, .slice none 0 0] 123))
  have HI := Lib.hid hi
  have HD := Lib.hid (And.intro hd hb)
  clear S hd hi hb
  go_enter Tryz.func122, Tryz.ntmps122
  go_wp2_with fail
  refine (need_yes _).mono ?_
  rintro e w1 ⟨rfl, rfl⟩
  go_wp2_with fail
  refine (take_bs HS.out (i + 1) HI.out 1 (by simp)).mono ?_
  rintro e w1 ⟨rfl, S1⟩
  have HS1 : Hid (St H0 w0 X H w1 (blk p (rdO (bs r)) :: blk w.heap.size (.cells #[.bool false, .string ⟨#[]⟩, .slice none 0 0] 123) :: ps.eraseIdx i)) := S1
  obtain ⟨f, hf, h0, hf0⟩ : ∃ f : ByteArray, f = bs ((b :: r).take 1) ∧ ∃ h : 0 < f.size, f[0] = b := ⟨_, rfl, by rw [bs_size]; simp, rfl⟩
  rw [← hf]
  have HF := Lib.hid hf
  have h256 : (b.toNat : Int) < 256 := by have := b.toNat_lt; omega
  clear S1 HS hf
  go_wp2_with fail
  refine (many_any HS1.out 0 rfl (b.toNat - 128) h64).mono ?_
  intro e w2 hM
  cases hm : manyL (b.toNat - 128) r with
  | none =>
    rw [hm] at hM
    obtain ⟨rfl, S2⟩ := hM
    have HM := Lib.hid hm
    clear hm
    go_wp2_with fail
    exact bodyPost_pan rfl ⟨none, .many HD.out.2.1 HD.out.2.2 HM.out, rfl, S2.drop 0⟩
  | some q =>
    obtain ⟨n, r2⟩ := q
    rw [hm] at hM
    obtain ⟨rfl, S2⟩ := hM
    have HM := Lib.hid hm
    have HS2 : Hid (St H0 w0 X H w2 (blk p (rdO (bs r2)) :: blk w.heap.size (.cells #[.bool false, .string ⟨#[]⟩, .slice none 0 0] 123) :: ps.eraseIdx i)) := S2
    clear S2 HS1 hm hsub
    by_cases hn : n ≤ r2.length
    · have HN := Lib.hid hn
      clear hn
      go_wp2_with fail
      refine (take_bs HS2.out 0 rfl n HN.out).mono ?_
      rintro e w3 ⟨rfl, S3⟩
      have HS3 : Hid (St H0 w0 X H w3 (blk p (rdO (bs (r2.drop n))) :: blk w.heap.size (.cells #[.bool false, .string ⟨#[]⟩, .slice none 0 0] 123) :: ps.eraseIdx i)) := S3
      clear S3 HS2
      obtain ⟨t, ht⟩ : ∃ t, t = bs (r2.take n) := ⟨_, rfl⟩
      rw [← ht]
      have HT := Lib.hid ht
      clear ht
      by_cases hbad : t.size = 1 ∧ (∃ h : 0 < t.size, t[0].toNat < 128) ∧ b.toNat = 129
      · obtain ⟨h1, ⟨h0t, hlt⟩, h129⟩ := hbad
        have e1 : ((t.size : Int) != 1) = false := by rw [bne_eq_false_iff_eq]; omega
        have e2 : decide ((128 : Int) ≤ (t[0].toNat : Int)) = false := by simp; omega
        have e3 : ((b.toNat : Int) != 129) = false := by rw [bne_eq_false_iff_eq]; omega
        have HBAD := Lib.hid (And.intro h1 (And.intro hlt h129))
        have hlt' : (t[0].toNat : Int) < 128 := by omega
        clear h1 hlt h129
        go_wp2_with fail
        refine (need_no _).mono ?_
        rintro e w4 ⟨rfl, rfl⟩
        go_wp2_with fail
        refine bodyPost_pan rfl ⟨none, ?_, rfl, (HS3.out.drop 0).drop 0⟩
        obtain ⟨h1, hlt, h129⟩ := HBAD.out
        obtain ⟨c, hc⟩ : ∃ c, r2.take n = [c] := List.length_eq_one_iff.1 (by rw [← bs_size, ← HT.out]; exact h1)
        have htc : t = bs [c] := by rw [HT.out, hc]
        subst htc
        exact .bad h129 HM.out HN.out hc hlt
      · have HRD : Hid (RdI d (b :: r) (some (.text t, r2.drop n))) := by
          rw [HT.out]
          refine .text HD.out.1 HD.out.2.1 HD.out.2.2 HM.out HN.out ?_
          intro c hc hlt h129
          refine hbad ⟨by rw [HT.out, bs_size, hc]; rfl, ⟨by rw [HT.out, bs_size, hc]; simp, ?_⟩, h129⟩
          have htc : t = bs [c] := by rw [HT.out, hc]
          subst htc
          exact hlt
        have HG := Lib.hid hbad
        clear hbad
        by_cases h1 : t.size = 1
        · have h0t : 0 < t.size := by omega
          have e1 : ((t.size : Int) != 1) = false := by rw [bne_eq_false_iff_eq]; omega
          by_cases hlt : t[0].toNat < 128
          · have hlt' : (t[0].toNat : Int) < 128 := by omega
            have e3 : ((b.toNat : Int) != 129) = true := by rw [bne_iff_ne]; intro h; exact HG.out ⟨h1, ⟨h0t, hlt⟩, by omega⟩
            clear h1 hlt HG
            go_wp2_with fail
            refine (need_yes _).mono ?_
            rintro e w4 ⟨rfl, rfl⟩
            go_wp2_with fail
            refine (text_any _ _).mono ?_
            rintro e w5 ⟨rfl, hb5⟩
            have HS5 := Lib.hid (HS3.out.grow hb5)
            clear hb5 HS3
            go_wp2_with (first
              | (refine wpList_store_st (cs := #[.bool false, .string t, .slice none 0 0]) 1 HS5.out rfl rfl 123 (.tmp 4) (.tmp 46) rfl rfl rfl szItem rfl (oneItem _ _ _ _ _) ?_)
              | fail)
            intro w6 S6
            go_wp2_with fail
            exact post_cell 0 S6 rfl Tryz.results122 rfl _ Tryz.underlying123 rfl szItem rfl ⟨_, HRD.out, _, _, _, H, rfl, Le.refl _, by unfold It.d; exact .cons (.pl rfl) (.cons (.pl rfl) (.cons (.sl (Nat.le_refl _) (fun _ => rfl) rfl (.inl rfl) .nil) .nil)), S6.drop 0⟩
          · have hlt' : ¬ (t[0].toNat : Int) < 128 := by omega
            clear h1 hlt HG
            go_wp2_with fail
            refine (need_yes _).mono ?_
            rintro e w4 ⟨rfl, rfl⟩
            go_wp2_with fail
            refine (text_any _ _).mono ?_
            rintro e w5 ⟨rfl, hb5⟩
            have HS5 := Lib.hid (HS3.out.grow hb5)
            clear hb5 HS3
            go_wp2_with (first
              | (refine wpList_store_st (cs := #[.bool false, .string t, .slice none 0 0]) 1 HS5.out rfl rfl 123 (.tmp 4) (.tmp 46) rfl rfl rfl szItem rfl (oneItem _ _ _ _ _) ?_)
              | fail)
            intro w6 S6
            go_wp2_with fail
            exact post_cell 0 S6 rfl Tryz.results122 rfl _ Tryz.underlying123 rfl szItem rfl ⟨_, HRD.out, _, _, _, H, rfl, Le.refl _, by unfold It.d; exact .cons (.pl rfl) (.cons (.pl rfl) (.cons (.sl (Nat.le_refl _) (fun _ => rfl) rfl (.inl rfl) .nil) .nil)), S6.drop 0⟩
        · have e1 : ((t.size : Int) != 1) = true := by rw [bne_iff_ne]; omega
          clear h1 HG
          go_wp2_with fail
          refine (need_yes _).mono ?_
          rintro e w4 ⟨rfl, rfl⟩
          go_wp2_with fail
          refine (text_any _ _).mono ?_
          rintro e w5 ⟨rfl, hb5⟩
          have HS5 := Lib.hid (HS3.out.grow hb5)
          clear hb5 HS3
          go_wp2_with (first
            | (refine wpList_store_st (cs := #[.bool false, .string t, .slice none 0 0]) 1 HS5.out rfl rfl 123 (.tmp 4) (.tmp 46) rfl rfl rfl szItem rfl (oneItem _ _ _ _ _) ?_)
            | fail)
          intro w6 S6
          go_wp2_with fail
          exact post_cell 0 S6 rfl Tryz.results122 rfl _ Tryz.underlying123 rfl szItem rfl ⟨_, HRD.out, _, _, _, H, rfl, Le.refl _, by unfold It.d; exact .cons (.pl rfl) (.cons (.pl rfl) (.cons (.sl (Nat.le_refl _) (fun _ => rfl) rfl (.inl rfl) .nil) .nil)), S6.drop 0⟩
    · have HN := Lib.hid hn
      clear hn
      go_wp2_with fail
      refine (take_bs_no HS2.out 0 rfl n (Nat.lt_of_not_le HN.out)).mono ?_
      rintro e w3 ⟨rfl, S3⟩
      go_wp2_with fail
      exact bodyPost_pan rfl ⟨none, .cut HD.out.2.1 HD.out.2.2 HM.out (Nat.lt_of_not_le HN.out), rfl, S3.drop 0⟩
end
end Go.Proofs.YtdnpobjokajigaaGreatDoor
