/-
  A deed, as data; `same` at a transaction that lies twice.
-/
import Derived.Test.YtfphlkkhpccpnaaEn18
import Derived.Test.YtfphlkkhpccpnaaPlPool
namespace Go.Proofs.Ytfphlkkhpccpnaa
open Go.RowKit Go.Proofs K
set_option linter.unusedVariables false

set_option maxRecDepth 100000 in
set_option maxHeartbeats 2000000 in
theorem same_any (t : TxS) (s s' : Value) (H : Hs) (w : World) (hw : Ag H w) (hs : RepV H s (accsD t.acc)) (hs' : RepV H s' (accsD t.acc)) (hf : t.fits) :
    Calls Try.prog 14 #[.agg (t.cells s), .agg (t.cells s')] w (RetV (.bool true) w) := by
  have HS := Lib.hid (((St.start hw).alloc (t.obj s)).alloc' (t.obj s') (w.heap.size + 1) (by simp))
  have HX := Lib.hid hs
  have HY := Lib.hid hs'
  have HF := Lib.hid hf
  clear hs hs' hf hw
  simp only [TxS.cells]
  go_enter Try.func14, Try.ntmps14
  go_wp2_with (first
    | (refine wpList_load_st (cs := t.cells s) 1 HS.out rfl rfl 33 (.tmp 2) rfl rfl _ Try.underlying33 rfl szTx ?_)
    | fail)
  refine (rencode_any t s H _ HS.out.ag HX.out HF.out).mono ?_
  rintro e w1 ⟨rfl, hb1⟩
  have HS1 := Lib.hid (HS.out.grow hb1)
  clear hb1 HS
  go_wp2_with (first
    | (refine wpList_load_st (cs := t.cells s') 0 HS1.out rfl rfl 33 (.tmp 3) rfl rfl _ Try.underlying33 rfl szTx ?_)
    | fail)
  refine (rencode_any t s' H _ HS1.out.ag HY.out HF.out).mono ?_
  rintro e w2 ⟨rfl, hb2⟩
  have HS2 := Lib.hid (HS1.out.grow hb2)
  clear hb2 HS1
  go_wp2_with fail
  go_ret
  exact ⟨rfl, HS2.out.below⟩
structure Dd where
  (kind a n : Int)
  t : TxS
  raw : Bool
def Dd.cells (u : Dd) (s : Value) : Array Value := #[.int .u8 u.kind, .int .u8 u.a, .int .u8 u.n, .int .i64 u.t.kind, .string u.t.frm, .string u.t.to, .int .u64 u.t.nonce, .int .u64 u.t.gas, .int .u64 u.t.p.a, .int .u64 u.t.p.b, .int .u64 u.t.p.c, .int .u64 u.t.p.d, .int .u64 u.t.q.a, .int .u64 u.t.q.b, .int .u64 u.t.q.c, .int .u64 u.t.q.d, .int .u64 u.t.v.a, .int .u64 u.t.v.b, .int .u64 u.t.v.c, .int .u64 u.t.v.d, .string u.t.data, s, .bool u.raw]
def frm3 (a : Int) : ByteArray := if a % 3 = 0 then addrA else if a % 3 = 1 then addrB else addrC
/-- Of whom, which. -/
def Dd.key (u : Dd) : ByteArray × Int := (frm3 u.a, u.n % 30)
def Dd.tx (u : Dd) : TxS := if u.raw = true then u.t else { tx0 with frm := frm3 u.a, nonce := u.n % 30, v := u.t.v }
def Dd.step (u : Dd) (l : List TxS) : List TxS := if u.kind % 12 = 3 then delT l u.key else if u.kind % 12 = 4 then l else if u.kind % 12 = 5 then [] else addL l u.tx
structure Dd.fits (u : Dd) : Prop where
  kind : 0 ≤ u.kind ∧ u.kind < 256
  a : 0 ≤ u.a ∧ u.a < 256
  n : 0 ≤ u.n ∧ u.n < 256
  t : u.t.fits
  small : u.t.small
theorem tx0_fits : tx0.fits := ⟨⟨by decide, by decide⟩, ⟨by decide, by decide⟩, ⟨⟨by decide, by decide⟩, ⟨by decide, by decide⟩, ⟨by decide, by decide⟩, ⟨by decide, by decide⟩⟩, ⟨⟨by decide, by decide⟩, ⟨by decide, by decide⟩, ⟨by decide, by decide⟩, ⟨by decide, by decide⟩⟩, ⟨⟨by decide, by decide⟩, ⟨by decide, by decide⟩, ⟨by decide, by decide⟩, ⟨by decide, by decide⟩⟩, by intro x hx; cases hx⟩
/-- What a step leaves: all fit, few. -/
structure Good (l : List TxS) : Prop where
  fits : ∀ t ∈ l, t.fits
  small : ∀ t ∈ l, t.small
  len : l.length ≤ 64
theorem tx_fits {u : Dd} (h : u.fits) : u.tx.fits := by
  unfold Dd.tx
  split
  · exact h.t
  · obtain ⟨h0, h1⟩ := h.n
    exact ⟨⟨by show 0 ≤ u.n % 30; omega, by show u.n % 30 < _; omega⟩, tx0_fits.gas, tx0_fits.p, tx0_fits.q, h.t.v, by intro x hx; cases hx⟩
theorem tx_small {u : Dd} (h : u.fits) : u.tx.small := by
  unfold Dd.tx
  split
  · exact h.small
  · exact small_nil rfl
theorem Good.step {u : Dd} {l : List TxS} (h : Good l) (hu : u.fits) : Good (u.step l) := by
  unfold Dd.step
  split
  · refine ⟨fun t ht => h.fits t (del_sub _ _ t ht), fun t ht => h.small t (del_sub _ _ t ht), ?_⟩
    have := len_del u.key l
    have := h.len
    omega
  · split
    · exact h
    · split
      · exact ⟨by simp, by simp, by simp⟩
      · refine ⟨fun t ht => ?_, fun t ht => ?_, ?_⟩
        · rcases addL_sub l u.tx t ht with h1 | rfl
          · exact h.fits t h1
          · exact tx_fits hu
        · rcases addL_sub l u.tx t ht with h1 | rfl
          · exact h.small t h1
          · exact tx_small hu
        · unfold addL
          split
          · rename_i h0
            have hl := h.len
            have : l.length ≠ 64 := by
              intro e
              unfold addE at h0
              rw [if_pos e] at h0
              split at h0
              · cases h0
              · split at h0
                · cases h0
                · cases h0
            rw [List.length_append, List.length_singleton]
            omega
          · exact h.len
theorem Alike.empty : Alike [] [] := Alike.nil
end Go.Proofs.Ytfphlkkhpccpnaa
