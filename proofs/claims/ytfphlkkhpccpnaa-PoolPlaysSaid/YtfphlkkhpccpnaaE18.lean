/-
  The document's own items of a transaction: texts, numbers, words; what it is encoded as.
-/
import Derived.Test.YtfphlkkhpccpnaaPE
import Derived.Test.YtfphlkkhpccpnaaRi18
import Derived.Deep.RegionHeld3
namespace Go.Proofs.Ytfphlkkhpccpnaa
open Go.RowKit Go.Proofs K
set_option linter.unusedVariables false

theorem szRItem18 : (Try.prog.info? 83).map (·.size) = some 3 := by kernel_rfl
theorem infoRItem18 : (Try.prog.info? 83).map (fun i => (i.zero, i.size, i.bytes)) = some (some (.agg #[.bool false, .string ⟨#[]⟩, .slice none 0 0]), 3, 48) := by kernel_rfl
set_option maxRecDepth 100000 in
theorem rtext18 (s : ByteArray) (w : World) : Calls Try.prog 37 #[.string s] w (RetV (.agg #[.bool false, .string s, .slice none 0 0]) w) := by
  have HS := Lib.hid ((St.start (ag_emp w)).alloc (.cells #[.bool false, .string ⟨#[]⟩, .slice none 0 0] 83))
  go_enter Try.func37, Try.ntmps37
  go_wp2_with (first
    | (refine wpList_store_st (cs := #[.bool false, .string s, .slice none 0 0]) 0 HS.out rfl rfl 83 (.tmp 2) (.tmp 4) rfl rfl rfl szRItem18 rfl (oneItem _ _ _ _ _) ?_)
    | fail)
  intro w4 S4
  go_wp2_with fail
  exact post_cell 0 S4 rfl Try.results37 rfl _ Try.underlying83 rfl szRItem18 rfl ⟨rfl, S4.below⟩
set_option maxRecDepth 100000 in
theorem rnumber18 (n : Int) (h : W64 n) (w : World) : Calls Try.prog 38 #[.int .u64 n] w (RetV (.agg #[.bool false, .string (numS n), .slice none 0 0]) w) := by
  obtain ⟨m, rfl⟩ := Int.eq_ofNat_of_zero_le h.1
  have hm : m < 18446744073709551616 := by have := h.2; omega
  have HB := Lib.hid (rbytes_any m hm)
  have HS := Lib.hid ((St.start (ag_emp w)).alloc (.cells #[.bool false, .string ⟨#[]⟩, .slice none 0 0] 83))
  clear h hm
  go_enter Try.func38, Try.ntmps38
  go_wp2_with fail
  refine (HB.out _).mono ?_
  rintro e w1 ⟨rfl, hb1⟩
  have HS1 := Lib.hid (HS.out.grow hb1)
  clear HS hb1
  go_wp2_with fail
  refine (rtext18 _ _).mono ?_
  rintro e w2 ⟨rfl, hb2⟩
  have HS2 := Lib.hid (HS1.out.grow hb2)
  clear HS1 hb2
  go_wp2_with (first
    | (refine wpList_store_st (cs := #[.bool false, .string (numS (m : Int)), .slice none 0 0]) 0 HS2.out rfl rfl 83 (.tmp 2) (.tmp 5) rfl rfl rfl szRItem18 rfl (oneItem _ _ _ _ _) ?_)
    | fail)
  intro w4 S4
  go_wp2_with fail
  exact post_cell 0 S4 rfl Try.results38 rfl _ Try.underlying83 rfl szRItem18 rfl ⟨rfl, S4.below⟩
set_option maxRecDepth 100000 in
theorem rword18 (a b c d : Int) (ha : W64 a) (hb : W64 b) (hc : W64 c) (hd : W64 d) (w : World) : Calls Try.prog 36 #[.agg #[.int .u64 a, .int .u64 b, .int .u64 c, .int .u64 d]] w (RetV (.agg #[.bool false, .string (wordS a b c d), .slice none 0 0]) w) := by
  have HB := Lib.hid (rwbytes_any a b c d ha hb hc hd)
  have HS := Lib.hid (((St.start (ag_emp w)).alloc (.cells #[.int .u64 a, .int .u64 b, .int .u64 c, .int .u64 d] 28)).alloc' (.cells #[.bool false, .string ⟨#[]⟩, .slice none 0 0] 83) (w.heap.size + 1) (by simp))
  clear ha hb hc hd
  go_enter Try.func36, Try.ntmps36
  go_wp2_with fail
  refine (HB.out _).mono ?_
  rintro e w1 ⟨rfl, hb1⟩
  have HS1 := Lib.hid (HS.out.grow hb1)
  clear HS hb1
  go_wp2_with fail
  refine (rtext18 _ _).mono ?_
  rintro e w2 ⟨rfl, hb2⟩
  have HS2 := Lib.hid (HS1.out.grow hb2)
  clear HS1 hb2
  go_wp2_with (first
    | (refine wpList_store_st (cs := #[.bool false, .string (wordS a b c d), .slice none 0 0]) 0 HS2.out rfl rfl 83 (.tmp 2) (.tmp 5) rfl rfl rfl szRItem18 rfl (oneItem _ _ _ _ _) ?_)
    | fail)
  intro w4 S4
  go_wp2_with fail
  exact post_cell 0 S4 rfl Try.results36 rfl _ Try.underlying83 rfl szRItem18 rfl ⟨rfl, S4.below⟩
def Wd.ok (x : Wd) : Prop := W64 x.a ∧ W64 x.b ∧ W64 x.c ∧ W64 x.d
structure TxS.fits (t : TxS) : Prop where
  nonce : W64 t.nonce
  gas : W64 t.gas
  p : t.p.ok
  q : t.q.ok
  v : t.v.ok
  slots : ∀ x ∈ t.acc, ∀ y ∈ x.slots, Wd.ok y
def wdS (x : Wd) : ByteArray := wordS x.a x.b x.c x.d
def acI (x : Ac) : It := .list [.text x.addr, .list (x.slots.map fun s => .text (wdS s))]
/-- What a transaction is encoded as. -/
def txI (t : TxS) : It := .list [.text (numS t.kind), .text t.frm, .text (numS t.nonce), .text (wdS t.p), .text (wdS t.q), .text (numS t.gas), .text t.to, .text (wdS t.v), .text t.data, .list (t.acc.map acI)]
def encR (t : TxS) : ByteArray × Bool := if rightB t = true then ((txI t).bytes, true) else (⟨#[]⟩, false)
theorem numS_size (n : Int) : (numS n).size ≤ 8 := by
  have := numL_len n
  simpa [numS, ByteArray.size] using this
theorem wdS_size (x : Wd) : (wdS x).size = 32 := by simp [wdS, wordS, strOfNums_size, wordL]
theorem textL_le (s : ByteArray) : (textL s).length ≤ s.size + 9 := by
  have h := sizeL s
  unfold textL
  split
  · rename_i c hc
    rw [hc] at h
    split
    · simp at h ⊢
    · rw [List.length_append, show aheadL 128 1 = [UInt8.ofNat 129] from rfl]; simp
  · have := aheadL_len 128 s.data.toList.length
    rw [List.length_append]
    omega
theorem encL_bound {B : Nat} : ∀ {l : List It}, (∀ i ∈ l, i.enc.length ≤ B) → (encL l).length ≤ l.length * B
  | [], _ => by simp [encL]
  | i :: l, h => by
    have h1 := h i (by simp)
    have h2 := encL_bound (l := l) fun j hj => h j (by simp [hj])
    rw [encL, List.length_append, List.length_cons, Nat.succ_mul]
    omega
theorem enc_list_le (l : List It) : (It.list l).enc.length ≤ 9 + (encL l).length := by
  have := aheadL_len 192 (encL l).length
  rw [It.enc, List.length_append]
  omega
theorem acI_le {x : Ac} (h : acOk x = true) : (acI x).enc.length ≤ 3000 := by
  simp only [acOk, Bool.and_eq_true, beq_iff_eq, decide_eq_true_eq] at h
  have h1 : (encL (x.slots.map fun s => It.text (wdS s))).length ≤ (x.slots.map fun s => It.text (wdS s)).length * 41 := encL_bound fun i hi => by
    obtain ⟨s, _, rfl⟩ := List.mem_map.1 hi
    have := textL_le (wdS s)
    rw [wdS_size] at this
    rw [It.enc]
    exact this
  rw [List.length_map] at h1
  have h2 := enc_list_le (x.slots.map fun s => It.text (wdS s))
  have h3 := enc_list_le [.text x.addr, .list (x.slots.map fun s => .text (wdS s))]
  have h4 := textL_le x.addr
  have h5 : (encL [.text x.addr, .list (x.slots.map fun s => .text (wdS s))]).length = (textL x.addr).length + (It.list (x.slots.map fun s => .text (wdS s))).enc.length := by simp [encL, It.enc]
  unfold acI
  omega
theorem right_all {t : TxS} (h : rightB t = true) : preB t = true ∧ ∀ x ∈ t.acc, acOk x = true := by
  rw [right_pre, Bool.and_eq_true] at h
  exact ⟨h.2, List.all_eq_true.1 h.1⟩
theorem txI_le {t : TxS} (h : rightB t = true) : (txI t).enc.length ≤ 1000000 := by
  obtain ⟨hp, ha⟩ := right_all h
  obtain ⟨_, h20, hto, hdt, h64⟩ := pre_cases hp
  have hto' : t.to.size ≤ 20 := by
    rcases hto with h | h
    · rw [ByteArray.toList_eq] at h
      have : t.to.size = 0 := by rw [← sizeL, h]; rfl
      omega
    · omega
  have h1 : (encL (t.acc.map acI)).length ≤ (t.acc.map acI).length * 3000 := encL_bound fun i hi => by
    obtain ⟨x, hx, rfl⟩ := List.mem_map.1 hi
    exact acI_le (ha x hx)
  rw [List.length_map] at h1
  have h2 := enc_list_le (t.acc.map acI)
  have e := enc_list_le [.text (numS t.kind), .text t.frm, .text (numS t.nonce), .text (wdS t.p), .text (wdS t.q), .text (numS t.gas), .text t.to, .text (wdS t.v), .text t.data, .list (t.acc.map acI)]
  have e2 : (encL [.text (numS t.kind), .text t.frm, .text (numS t.nonce), .text (wdS t.p), .text (wdS t.q), .text (numS t.gas), .text t.to, .text (wdS t.v), .text t.data, .list (t.acc.map acI)]).length =
      (textL (numS t.kind)).length + (textL t.frm).length + (textL (numS t.nonce)).length + (textL (wdS t.p)).length + (textL (wdS t.q)).length + (textL (numS t.gas)).length + (textL t.to).length + (textL (wdS t.v)).length + (textL t.data).length + (It.list (t.acc.map acI)).enc.length := by
    simp only [encL, It.enc, List.length_append, List.length_nil]
    omega
  have a1 := textL_le (numS t.kind); have a2 := textL_le t.frm; have a3 := textL_le (numS t.nonce); have a4 := textL_le (wdS t.p); have a5 := textL_le (wdS t.q)
  have a6 := textL_le (numS t.gas); have a7 := textL_le t.to; have a8 := textL_le (wdS t.v); have a9 := textL_le t.data
  have b1 := numS_size t.kind; have b3 := numS_size t.nonce; have b6 := numS_size t.gas
  rw [wdS_size] at a4 a5 a8
  unfold txI
  omega
theorem short_texts (l : List ByteArray) (h : l.length ≤ 1099511627776) : (It.list (l.map It.text)).short := by
  unfold It.short
  refine ⟨by simpa using h, ?_⟩
  clear h
  induction l with
  | nil => simp [shortL]
  | cons a l ih => simp only [List.map_cons, shortL]; exact ⟨by simp [It.short], ih⟩
theorem acI_short {x : Ac} (h : acOk x = true) : (acI x).short := by
  simp only [acOk, Bool.and_eq_true, beq_iff_eq, decide_eq_true_eq] at h
  have h1 := short_texts (x.slots.map wdS) (by rw [List.length_map]; omega)
  rw [List.map_map] at h1
  unfold acI It.short
  exact ⟨by simp, by simp [It.short], h1, trivial⟩
theorem txI_short {t : TxS} (h : rightB t = true) : (txI t).short := by
  obtain ⟨hp, ha⟩ := right_all h
  obtain ⟨_, _, _, _, h64⟩ := pre_cases hp
  have h1 : (It.list (t.acc.map acI)).short := by
    unfold It.short
    refine ⟨by rw [List.length_map]; omega, ?_⟩
    generalize t.acc = l at ha
    induction l with
    | nil => simp [shortL]
    | cons a l ih => simp only [List.map_cons, shortL]; exact ⟨acI_short (ha a (by simp)), ih fun x hx => ha x (by simp [hx])⟩
  unfold txI
  unfold It.short
  exact ⟨by simp, by simp [It.short], by simp [It.short], by simp [It.short], by simp [It.short], by simp [It.short], by simp [It.short], by simp [It.short], by simp [It.short], by simp [It.short], h1, trivial⟩
end Go.Proofs.Ytfphlkkhpccpnaa
