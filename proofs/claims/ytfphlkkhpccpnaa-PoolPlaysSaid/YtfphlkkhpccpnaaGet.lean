/-
  Get, Remove, Clear.
-/
import Derived.Test.YtfphlkkhpccpnaaPool
import Derived.Test.YtfphlkkhpccpnaaClone18
import Derived.Deep.RegionWith
namespace Go.Proofs.Ytfphlkkhpccpnaa
open Go.RowKit Go.Proofs K

theorem zeroTx (w : World) : (zeroValue 33).run Try.prog w = .ok (.agg (tx0.cells (.slice none 0 0))) w := by kernel_rfl

def GetP (p : Nat) (m : List (Ky × Value)) (l : List TxS) (k : Ky) (F : Nat → Prop) (H : Hs) (w : World) (e : Ending) (w' : World) : Prop :=
  ∃ s H' Hn, e = .returned (.tuple #[.agg ((txGot l k).cells s), .bool (l.find? (isKey k)).isSome]) ∧ RepV H' s (accsD (txGot l k).acc) ∧ St H w F H' w' [poolP p m] ∧ RepV Hn s (accsD (txGot l k).acc) ∧ Le Hn H' ∧ Fresh Hn w.heap.size

set_option maxRecDepth 100000 in
set_option maxHeartbeats 1000000 in
theorem get_any (p : Nat) (m : List (Ky × Value)) (l : List TxS) (f : ByteArray) (n : Int) (F : Nat → Prop) (H : Hs) (w : World) (hw : Ag H w) (hp : (poolP p m).holds F w) (hF : ∀ b, F b → b < w.heap.size ∧ H b = none) (hl : Txs H m l) (hs : ∀ t ∈ l, t.small) :
    Calls Try.prog 10 #[.pointer (some ⟨p, 0, none⟩), .string f, .int .u64 n] w (GetP p m l (f, n) F H w) := by
  obtain ⟨c, S1⟩ := openPool (St.begin hw hp hF) 0 rfl
  have S := Lib.hid (S1.alloc (tx0.obj (.slice none 0 0)))
  have h1 : (w.alloc (tx0.obj (.slice none 0 0))).cell? ⟨p, 0, none⟩ = some (.map (some c)) := S.out.cell 1 rfl rfl
  obtain ⟨F2, ⟨_, o, ho, hm⟩, _⟩ := S.out.step (i := 2) rfl
  have hk := lookup_run keyOk Try.underlying57 ho hm (zeroTx _) (f, n) true
  obtain ⟨t, A, k, c', ht, hr, hg, hsm⟩ : ∃ t A k c', (mlook m (f, n)).getD (.agg (tx0.cells (.slice none 0 0))) = .agg (t.cells (.slice A k c')) ∧ RepV H (.slice A k c') (accsD t.acc) ∧ txGot l (f, n) = t ∧ t.small := by
    rcases hl.look (f, n) with ⟨h1, h2⟩ | ⟨t, s, h1, h2, h3⟩
    · exact ⟨tx0, none, 0, 0, by rw [h1]; rfl, .sl (Nat.le_refl _) (fun _ => rfl) rfl (.inl rfl) .nil, by simp [txGot, h2], ⟨by decide, by intro a ha; cases ha⟩⟩
    · obtain ⟨A, c', _, rfl, _⟩ := h3.sl_inv
      exact ⟨t, A, _, c', by rw [h1]; rfl, h3, by simp [txGot, h2], hs t (List.mem_of_find?_eq_some h2)⟩
  have hb : (mlook m (f, n)).isSome = (l.find? (isKey (f, n))).isSome := by
    rcases hl.look (f, n) with ⟨h1, h2⟩ | ⟨t, s, h1, h2, h3⟩ <;> simp [h1, h2]
  rw [ht, hb] at hk
  have S2 := Lib.hid (S.out.alloc' (tx0.obj (.slice none 0 0)) (w.heap.size + 1) (by simp))
  simp only [if_true, encK, TxS.cells, TxS.obj, tx0] at hk h1
  have HG := Lib.hid hg
  have HSM := Lib.hid hsm
  have HR := Lib.hid hr
  clear hw hp hF S1 ho hm ht hg hsm hr hb hl hs
  go_enter Try.func10, Try.ntmps10
  go_wp2_with (first
    | (refine wpList_store_st 0 S2.out rfl rfl 33 (.tmp 8) (.tmp 19) rfl rfl rfl szTx rfl oneTx ?_; clear S S2 hk h1; intro w3 S3)
    | (refine wpList_load_st 0 S3 rfl rfl 33 (.tmp 8) rfl rfl _ Try.underlying33 rfl szTx ?_)
    | fail)
  refine (clone18_any t (.slice A k c') H _ S3.ag HR.out HSM.out).mono ?_
  rintro e w4 ⟨s', H', Hn, rfl, hr', S4, hrn, hln, hnew⟩
  have HQ := Lib.hid (And.intro hrn (And.intro hln (show Fresh Hn w.heap.size from fun b o hb => ⟨Nat.le_trans S3.size (hnew b o hb).1, (hnew b o hb).2⟩)))
  obtain ⟨A', c2, cs, rfl, _⟩ := hr'.sl_inv
  have S5 := Lib.hid (S3.more S4)
  have HR' := Lib.hid hr'
  clear S3 S4 hr' HR HSM hrn hln hnew
  go_wp2_with (first
    | (refine wpList_store_st 1 S5.out rfl rfl 33 (.tmp 6) (.tmp 22) rfl rfl rfl szTx rfl oneTx ?_; clear S5; intro w5 S6)
    | fail)
  refine post_cell2 0 S6 rfl rfl rfl _ Try.underlying33 rfl szTx rfl ?_
  obtain rfl := HG.out
  exact ⟨_, H', Hn, rfl, HR'.out, shutPool ((S6.drop 0).drop 0), HQ.out⟩

def RemP (p : Nat) (m : List (Ky × Value)) (k : Ky) (F : Nat → Prop) (H : Hs) (w : World) (e : Ending) (w' : World) : Prop :=
  e = .returned (.bool (mlook m k).isSome) ∧ St H w F H w' [poolP p (del m k)]
set_option maxRecDepth 100000 in
set_option maxHeartbeats 1000000 in
theorem remove_any (p : Nat) (m : List (Ky × Value)) (l : List TxS) (f : ByteArray) (n : Int) (F : Nat → Prop) (H : Hs) (w : World) (hw : Ag H w) (hp : (poolP p m).holds F w) (hF : ∀ b, F b → b < w.heap.size ∧ H b = none) (hl : Txs H m l) :
    Calls Try.prog 15 #[.pointer (some ⟨p, 0, none⟩), .string f, .int .u64 n] w (RemP p m (f, n) F H w) := by
  obtain ⟨c, S1⟩ := openPool (St.begin hw hp hF) 0 rfl
  have S := Lib.hid S1
  have h1 : w.cell? ⟨p, 0, none⟩ = some (.map (some c)) := S.out.cell 0 rfl rfl
  obtain ⟨t, A, k, c', ht⟩ : ∃ t A k c', (mlook m (f, n)).getD (.agg (tx0.cells (.slice none 0 0))) = .agg (TxS.cells t (.slice A k c')) := by
    rcases hl.look (f, n) with ⟨h1, h2⟩ | ⟨t, s, h1, h2, h3⟩
    · exact ⟨tx0, none, 0, 0, by rw [h1]; rfl⟩
    · obtain ⟨A, c', _, rfl, _⟩ := h3.sl_inv
      exact ⟨t, A, _, c', by rw [h1]; rfl⟩
  have HT := Lib.hid ht
  have S2 := Lib.hid (S.out.alloc (tx0.obj (.slice none 0 0)))
  clear hw hp hF S1 ht hl
  go_enter Try.func15, Try.ntmps15
  go_wp2_with (first
    | (refine wpList_lookup_st 1 S.out rfl keyOk Try.underlying57 (zeroTx _) (f, n) rfl _ _ true rfl rfl rfl ?_; rw [HT.out]; simp only [if_true, TxS.cells])
    | (refine wpList_store_st 0 S2.out rfl rfl 33 (.tmp 7) (.tmp 18) rfl rfl rfl szTx rfl oneTx ?_; clear S2 S h1; intro w3 S3; have h3 : w3.cell? ⟨p, 0, none⟩ = some (.map (some c)) := S3.cell 1 rfl rfl)
    | (refine wpList_delete_st 2 S3 rfl keyOk Try.underlying57 (f, n) rfl _ _ rfl rfl rfl ?_; intro w4 S4)
    | fail)
  go_ret
  exact ⟨rfl, shutPool ((S4.drop 1).pick 1 rfl)⟩

def RetNone (H : Hs) (w : World) (F : Nat → Prop) (qs : List Hp) (e : Ending) (w' : World) : Prop := e = .returned (.tuple #[]) ∧ St H w F H w' qs
theorem clear_any (p : Nat) (m : List (Ky × Value)) (F : Nat → Prop) (H : Hs) (w : World) (hw : Ag H w) (hp : (poolP p m).holds F w) (hF : ∀ b, F b → b < w.heap.size ∧ H b = none) :
    Calls Try.prog 16 #[.pointer (some ⟨p, 0, none⟩)] w (RetNone H w F [poolP p []]) := by
  obtain ⟨c, S⟩ := openPool (St.begin hw hp hF) 0 rfl
  have h1 : w.cell? ⟨p, 0, none⟩ = some (.map (some c)) := S.cell 0 rfl rfl
  clear hw hp hF
  go_enter Try.func16, Try.ntmps16
  go_wp2_with (first
    | (refine wpList_clear_st 1 S rfl Try.underlying57 rfl _ rfl rfl ?_; intro w4 S4)
    | fail)
  go_end0
  exact ⟨rfl, shutPool (S4.pick 1 rfl)⟩
end Go.Proofs.Ytfphlkkhpccpnaa
