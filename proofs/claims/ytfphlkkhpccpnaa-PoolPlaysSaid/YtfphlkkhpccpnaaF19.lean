/-
  The document's pool: find.
-/
import Derived.Test.YtfphlkkhpccpnaaOrders
import Derived.RegionTactic
namespace Go.Proofs.Ytfphlkkhpccpnaa
open Go.RowKit Go.Proofs K
set_option linter.unusedVariables false

def stopB (f : ByteArray) (n : Int) (x : El) : Bool := ltB f x.1.frm || (decide (x.1.frm = f) && decide (n ≤ x.1.nonce))
def atB (f : ByteArray) (n : Int) (x : El) : Bool := decide (x.1.frm = f) && decide (x.1.nonce = n)
/-- Where one is to be; whether it is there. -/
def fidx (d : List El) (f : ByteArray) (n : Int) : Nat := (d.takeWhile fun x => !stopB f n x).length
def fhas (d : List El) (f : ByteArray) (n : Int) : Bool := match d[fidx d f n]? with | some x => atB f n x | none => false
theorem fidx_le (d : List El) (f : ByteArray) (n : Int) : fidx d f n ≤ d.length := (List.takeWhile_sublist _).length_le
theorem fidx_cons (x : El) (d : List El) (f : ByteArray) (n : Int) : fidx (x :: d) f n = if stopB f n x = true then 0 else fidx d f n + 1 := by
  unfold fidx
  rw [List.takeWhile_cons]
  cases stopB f n x <;> simp
theorem fidx_at {f : ByteArray} {n : Int} : ∀ {d : List El} {k : Nat}, (∀ q x, q < k → d[q]? = some x → stopB f n x = false) → k ≤ d.length → (∀ x, d[k]? = some x → stopB f n x = true) → fidx d f n = k
  | [], k, _, hk, _ => by
    obtain rfl : k = 0 := by simpa using hk
    rfl
  | y :: d, 0, _, _, h => by rw [fidx_cons, if_pos (h y rfl)]
  | y :: d, k + 1, h0, hk, h => by
    rw [fidx_cons, if_neg (by rw [h0 0 y (by omega) rfl]; decide), fidx_at (k := k) (fun j x hj hx => h0 (j + 1) x (by omega) (by simpa using hx)) (by simpa using hk) (fun x hx => h x (by simpa using hx))]
theorem fhas_at {f : ByteArray} {n : Int} {d : List El} {k : Nat} {x : El} (h : fidx d f n = k) (hx : d[k]? = some x) : fhas d f n = atB f n x := by
  unfold fhas
  rw [h, hx]
theorem fhas_end {f : ByteArray} {n : Int} {d : List El} (h : fidx d f n = d.length) : fhas d f n = false := by
  unfold fhas
  rw [h, List.getElem?_eq_none (Nat.le_refl _)]
/-- The document's pool. -/
def refO (v : Value) : Obj := .cells #[v] 49
def RS (v : Value) (H0 H : Hs) (w0 : World) (X : Nat → Prop) (qs : List Hp) (e : Ending) (w' : World) : Prop := e = .returned v ∧ St H0 w0 X H w' qs
theorem el_val (x : El) : Value.agg (x.1.cells x.sl) = .agg (x.1.cells x.sl) := rfl
section
variable {H0 H : Hs} {w0 w : World} {X : Nat → Prop} {ps : List Hp} {p : Nat} {d : List El}
set_option maxRecDepth 100000 in
set_option maxHeartbeats 4000000 in
theorem find_st {A : Option Addr} {c : Nat} (S : St H0 w0 X H w ps) (i : Nat) (hi : ps[i]? = some (blk p (refO (.slice A d.length c)))) (j : Nat) (hj : ps[j]? = some (own 33 19 (.slice A d.length c) d.length (d.flatMap encEl))) (hn : d.length ≤ 64) (f : ByteArray) (n : Int) :
    Calls Try.prog 34 #[.pointer (some ⟨p, 0, none⟩), .string f, .int .u64 n] w (RS (.tuple #[.int .i64 (fidx d f n), .bool (fhas d f n)]) H0 H w0 X ps) := by
  have HS0 := Lib.hid S
  have HI := Lib.hid hi
  have HJ := Lib.hid hj
  clear S hi hj
  go_enter Try.func34, Try.ntmps34
  go_wp2_with fail
  go_loopw [8] (fun u wr => ∃ k : Nat, u = .int .i64 k ∧ k ≤ d.length ∧ Hid (∀ q x, q < k → d[q]? = some x → stopB f n x = false) ∧ Hid (St H0 w0 X H wr ps)) (fun u _ => d.length - (intOf u).toNat)
  case atStart => exact ⟨0, rfl, Nat.zero_le _, Lib.hid (fun q x h => by omega), HS0⟩
  case round =>
    clear HS0
    obtain ⟨k, rfl, hk, HB, HS⟩ := hrel
    have hc0 : wr.cell? ⟨p, 0, none⟩ = some (.slice A d.length c) := HS.out.cell i HI.out rfl
    by_cases hlt : k < d.length
    · obtain ⟨g, rfl, hg⟩ := HS.out.ownForm j HJ.out (by omega)
      obtain ⟨x, hx⟩ : ∃ x, d[k]? = some x := ⟨_, List.getElem?_eq_getElem hlt⟩
      have HX := Lib.hid hx
      have HE := Lib.hid (el_at hx)
      clear hx
      have HS6 := Lib.hid (HS.out.alloc (tx0.obj (.slice none 0 0)))
      go_wp2_with (first
        | (refine wpList_loadOwn_st (q := k * 19) (cs := x.1.cells x.sl) j HS.out HJ.out rfl 33 (.tmp 24) rfl rfl _ Try.underlying33 rfl szTx HE.out ?_)
        | (refine wpList_store_st (cs := x.1.cells x.sl) 0 HS6.out rfl rfl 33 (.tmp 9) (.tmp 25) rfl rfl rfl szTx rfl oneTx ?_)
        | fail)
      intro w7 S7
      have x1 : w7.cell? ⟨wr.heap.size, 1, none⟩ = some (.string x.1.frm) := S7.cell 0 rfl rfl
      have x3 : w7.cell? ⟨wr.heap.size, 3, none⟩ = some (.int .u64 x.1.nonce) := S7.cell 0 rfl rfl
      have HS7 := Lib.hid (S7.drop 0)
      clear S7 HS6 HS hc0
      by_cases hl : ltB f x.1.frm = true
      · have b1 : Op.bytesLess f.toList x.1.frm.toList = true := hl
        have b4 : Op.bytesLess x.1.frm.toList f.toList = false := ltB_asym hl
        have b2 : ¬ x.1.frm.toList = f.toList := fun e => by rw [e, bl_irrefl] at b1; cases b1
        have b3 : (x.1.frm.toList == f.toList) = false := beq_eq_false_iff_ne.2 b2
        have hne : ¬ x.1.frm = f := fun e => b2 (by rw [e])
        have HF : Hid (fidx d f n = k ∧ fhas d f n = false) := Lib.hid (by
          have h1 := fidx_at (f := f) (n := n) (k := k) HB.out hk (fun y hy => by rw [HX.out] at hy; cases hy; simp [stopB, hl])
          exact ⟨h1, by rw [fhas_at h1 HX.out]; simp [atB, hne]⟩)
        clear hl hne
        go_wp2_with fail
        go_region
        all_goals
          go_wp2_with fail
          go_ret2
          exact ⟨by rw [HF.out.1, HF.out.2]; rfl, HS7.out.drew⟩
      · have b1 : Op.bytesLess f.toList x.1.frm.toList = false := by simpa [ltB] using hl
        by_cases he : x.1.frm = f
        · have b2 : x.1.frm.toList = f.toList := by rw [he]
          have b4 : Op.bytesLess x.1.frm.toList f.toList = false := by rw [he]; exact bl_irrefl _
          have b3 : (x.1.frm.toList == f.toList) = true := beq_iff_eq.2 b2
          by_cases hge : n ≤ x.1.nonce
          · have hge2 : ¬ x.1.nonce < n := by omega
            obtain ⟨bb, hbb⟩ : ∃ bb, (x.1.nonce == n) = bb := ⟨_, rfl⟩
            have HF : Hid (fidx d f n = k ∧ fhas d f n = bb) := Lib.hid (by
              have h1 := fidx_at (f := f) (n := n) (k := k) HB.out hk (fun y hy => by rw [HX.out] at hy; cases hy; simp [stopB, he, hge])
              refine ⟨h1, ?_⟩
              rw [fhas_at h1 HX.out, ← hbb]
              simp [atB, he]
              rfl)
            clear hl he
            go_wp2_with fail
            go_region
            all_goals
              go_wp2_with fail
              go_ret2
              exact ⟨by rw [HF.out.1, HF.out.2]; rfl, HS7.out.drew⟩
          · have hge2 : x.1.nonce < n := by omega
            have HB2 : Hid (∀ q x, q < k + 1 → d[q]? = some x → stopB f n x = false) := Lib.hid (by
              intro q y hq hy
              by_cases e : q = k
              · subst e; rw [HX.out] at hy; cases hy
                have hl' : ltB f x.1.frm = false := by simpa using hl
                simp [stopB, he, hge2]
                rw [he] at hl'; exact hl'
              · exact HB.out q y (by omega) hy)
            clear hl he HB
            go_wp2_with fail
            go_roundw
            case rel => exact ⟨k + 1, by go_num, by omega, HB2, HS7⟩
            case measure => simp [intOf]; omega
        · have b2 : ¬ x.1.frm.toList = f.toList := fun e => he (list_inj e)
          have b4 : Op.bytesLess x.1.frm.toList f.toList = true := by
            cases h : Op.bytesLess x.1.frm.toList f.toList with
            | true => rfl
            | false => exact absurd (bl_total _ _ h b1) b2
          have b3 : (x.1.frm.toList == f.toList) = false := beq_eq_false_iff_ne.2 b2
          have HB2 : Hid (∀ q x, q < k + 1 → d[q]? = some x → stopB f n x = false) := Lib.hid (by
            intro q y hq hy
            by_cases e : q = k
            · subst e; rw [HX.out] at hy; cases hy
              have hl' : ltB f x.1.frm = false := by simpa using hl
              simp [stopB, he, hl']
            · exact HB.out q y (by omega) hy)
          clear hl he HB
          go_wp2_with fail
          go_roundw
          case rel => exact ⟨k + 1, by go_num, by omega, HB2, HS7⟩
          case measure => simp [intOf]; omega
    · obtain rfl : k = d.length := by omega
      have HF : Hid (fidx d f n = d.length ∧ fhas d f n = false) := Lib.hid (by
        have h1 := fidx_at (f := f) (n := n) (k := d.length) HB.out hk (fun y hy => by rw [List.getElem?_eq_none (Nat.le_refl _)] at hy; cases hy)
        exact ⟨h1, fhas_end h1⟩)
      go_wp2_with fail
      go_ret2
      exact ⟨by rw [HF.out.1, HF.out.2]; rfl, HS.out⟩
end
end Go.Proofs.Ytfphlkkhpccpnaa
