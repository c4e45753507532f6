/-
  OpText: the walk.
-/
import Derived.Test.YtfphlkkhpccpnabDoorOpJm
import Derived.Test.YtfphlkkhpccpnabDoorApp
import Derived.Test.YtfphlkkhpccpnabDoorDigC
import Derived.Laws.BitsAllLaws
namespace Go.Proofs.YtfphlkkhpccpnabDoor
open Go.RowKit Go.Proofs K
set_option linter.unusedVariables false

/-- Words, as they lie. -/
def w16V (x : Nat) : Value := .int .u16 x
def Words (w : World) (A : Option Addr) (l : List Nat) : Prop := ∀ (i x : Nat), l[i]? = some x → ∃ b o, A = some ⟨b, o, none⟩ ∧ w.cell? ⟨b, o + i, none⟩ = some (.int .u16 x)
theorem Words.later {w w' : World} {A : Option Addr} {l : List Nat} (h : Words w A l) (hb : Below w.heap.size w w') : Words w' A l := fun i x hi => by
  obtain ⟨b, o, hA, hc⟩ := h i x hi
  exact ⟨b, o, hA, cell_later hb hc⟩
theorem cut_words (A : Option Addr) (n c k : Nat) (hn : n ≤ c) (hk : k ≤ n) (hA : A = none → c = 0) (w : World) : (Instr.slice 27 (.slice A n c) none (some (.int .i64 k)) none).run Tryd.prog w = .ok (.slice A k c) w := by
  have hinf : (Tryd.prog.info? 28).map (·.size) = some 1 := by kernel_rfl
  obtain ⟨i, hi, hs⟩ := Option.map_eq_some_iff.1 hinf
  have e : ((k : Int)).toNat = k := by omega
  cases A with
  | none =>
    obtain rfl := hA rfl
    obtain rfl : n = 0 := by omega
    obtain rfl : k = 0 := by omega
    simp [Instr.slice, run_underlying Tryd.underlying27, Instr.sliceBounds, run_sliceBound, sizeOf, typeInfo, hi, Result.andThen]
  | some ad =>
    have h2 : (k : Int) ≤ (c : Int) := by omega
    simp [Instr.slice, run_underlying Tryd.underlying27, Instr.sliceBounds, run_sliceBound, sizeOf, typeInfo, hi, Result.andThen, h2]
    intro _
    simp [Addr.add]
theorem and15 {n : Nat} (h : n < 65536) : bits .and .u16 (n : Int) 15 = ((n % 16 : Nat) : Int) := by
  have := u16_and_nat n 15 h (by decide)
  rw [Nat.and_two_pow_sub_one_eq_mod n 4] at this
  exact this
theorem nil_str (w : World) : (convert 23 9 (.slice none 0 0)).run Tryd.prog w = .ok (.string (bs [])) w := by kernel_rfl
theorem ins_two {x : Nat} (hx : x < 65536) : (insOf true x).map u8V = [.int .u8 97, .int .u8 ((x : Int) / 256), .int .u8 ((x : Int) % 256)] := by
  have h1 : (UInt8.ofNat (x / 256)).toNat = x / 256 := by rw [UInt8.toNat_ofNat']; omega
  have h2 : (UInt8.ofNat (x % 256)).toNat = x % 256 := by rw [UInt8.toNat_ofNat']; omega
  show [u8V 97, u8V (UInt8.ofNat (x / 256)), u8V (UInt8.ofNat (x % 256))] = _
  unfold u8V
  rw [h1, h2]
  rfl
theorem ins_one (x : Nat) : (insOf false x).map u8V = [.int .u8 96, .int .u8 ((x : Int) % 256)] := by
  have h2 : (UInt8.ofNat (x % 256)).toNat = x % 256 := by rw [UInt8.toNat_ofNat']; omega
  show [u8V 96, u8V (UInt8.ofNat (x % 256))] = _
  unfold u8V
  rw [h2]
  rfl
set_option maxRecDepth 100000 in
set_option maxHeartbeats 8000000 in
theorem tx_any (wide : Bool) (A : Option Addr) (c : Nat) (l : List Nat) (hl : l.length ≤ c) (hc : l.length ≤ 140737488355328) (hA : A = none → c = 0) (w : World) (hW : Words w A l) (hx : ∀ x ∈ l, x < 65536) (hmx : MaxAt w) :
    Calls Tryd.prog 4 #[.slice A l.length c, .bool wide] w (RetV (.bool true) w) := by
  have HM := Lib.hid hmx
  obtain ⟨i0, hi0, hz0, hz1, hz2⟩ := info_parts infoU8
  obtain ⟨ws, hws⟩ : ∃ ws, ws = l.take 20 := ⟨_, rfl⟩
  obtain ⟨k, hk⟩ : ∃ k, k = ws.length := ⟨_, rfl⟩
  have hk20 : k ≤ 20 := by rw [hk, hws, List.length_take]; omega
  have hkl : k ≤ l.length := by rw [hk, hws, List.length_take]; omega
  have hmn : min (l.length : Int) 20 = (k : Int) := by rw [hk, hws, List.length_take]; omega
  have HWS : Hid (∀ (i x : Nat), ws[i]? = some x → ∃ b o, A = some ⟨b, o, none⟩ ∧ w.cell? ⟨b, o + i, none⟩ = some (.int .u16 x)) := Lib.hid fun i x hi => by
    rw [hws, List.getElem?_take] at hi
    split at hi
    · exact hW i x hi
    · cases hi
  have HX : Hid (∀ x ∈ ws, x < 65536) := Lib.hid fun x h => hx x (by rw [hws] at h; exact List.mem_of_mem_take h)
  have HK := Lib.hid hk
  have HAN := Lib.hid hA
  clear hmx hW hx hk hws hA
  go_enter Tryd.func4, Tryd.ntmps4
  go_wp2_with fail
  refine (opex_any _ HM.out).mono ?_
  rintro e w1 ⟨rfl, hb1⟩
  have HS1 := Lib.hid ((St.start (ag_emp w)).grow hb1)
  clear hb1
  have hsl := cut_words A l.length c k hl hkl HAN.out
  go_wp2_with fail
  clear hsl hmn
  have HS0 : Hid (St empH w none_ empH w1 [own 5 1 (.slice none 0 0) (((ws.take 0).flatMap (insOf wide)).length) (((ws.take 0).flatMap (insOf wide)).map u8V)]) := Lib.hid HS1.out.own_nil
  have HIL : Hid (∀ i, i ≤ k → ((ws.take i).flatMap (insOf wide)).length ≤ 60) := Lib.hid fun i hi => by
    have h3 : ∀ l : List Nat, (l.flatMap (insOf wide)).length ≤ l.length * 3 := fun l => by
      induction l with
      | nil => simp
      | cons x l ih =>
        rw [List.flatMap_cons, List.length_append, List.length_cons]
        have : (insOf wide x).length ≤ 3 := by unfold insOf; split <;> simp
        omega
    have := h3 (ws.take i)
    rw [List.length_take] at this
    omega
  go_loopw [6, 7] (fun v z wr => ∃ (i : Nat) (A' : Option Addr) (c' m : Nat), z = .int .i64 i ∧ i ≤ k ∧ Hid (m = ((ws.take i).flatMap (insOf wide)).length) ∧ v = .slice A' m c' ∧ Hid (St empH w none_ empH wr [own 5 1 (.slice A' m c') m (((ws.take i).flatMap (insOf wide)).map u8V)])) (fun _ z _ => k - (intOf z).toNat)
  case atStart => exact ⟨0, none, 0, 0, rfl, Nat.zero_le _, Lib.hid rfl, rfl, HS0⟩
  case round =>
    clear HS0
    obtain ⟨i, A', c', m, rfl, hi, HMl, rfl, HS⟩ := hrel
    obtain ⟨wp, rfl⟩ : ∃ wp : World, wp = wr := ⟨_, rfl⟩
    by_cases hlt : i < k
    · have hil : i < ws.length := by have := HK.out; omega
      obtain ⟨x, hx⟩ : ∃ x : Nat, ws[i]? = some x := ⟨_, List.getElem?_eq_getElem hil⟩
      obtain ⟨b, o, hA, hcw⟩ := HWS.out i x hx
      have hx16 := HX.out x (List.mem_of_getElem? hx)
      have c1 : wp.cell? ⟨b, o + i, none⟩ = some (.int .u16 x) := cell_later HS.out.below hcw
      have HT : Hid ((ws.take (i + 1)).flatMap (insOf wide) = (ws.take i).flatMap (insOf wide) ++ insOf wide x) := Lib.hid (by
        rw [List.take_add_one, hx, List.flatMap_append]
        simp)
      have hm60 : m ≤ 60 := by rw [HMl.out]; exact HIL.out i hi
      subst hA
      clear hx hcw hil
      have q1 : IntKind.u8.wrap (x : Int) = ((x % 256 : Nat) : Int) := by rw [IntKind.wrap_u8]; omega
      have q2 : IntKind.u8.wrap ((x : Int) / 256) = ((x / 256 : Nat) : Int) := by rw [IntKind.wrap_u8]; omega
      cases wide with
      | true =>
        have HS1 := Lib.hid ((HS.out.alloc (.cells #[.int .u8 97, .int .u8 ((x : Int) / 256), .int .u8 ((x : Int) % 256)] 5)).drew)
        go_wp2_with fail
        go_region_law (first
          | (refine step_append_st 1 5 HS1.out rfl rfl (.tmp 28) (.tmp 40) 23 rfl i0 _ 1 Tryd.underlying23 hi0 hz0 hz1 hz2 rfl (by decide) rfl ⟨wp.heap.size, 0, none⟩ 3 3 [.int .u8 97, .int .u8 ((x : Int) / 256), .int .u8 ((x : Int) % 256)] rfl rfl (fun j u hj => ?_) ?_ ?_ ?_ ?_; (rw [Addr.add_lit, Nat.zero_add, cell_of_row _ _ _ _ _ _ (HS1.out.blk_at 0 rfl)]; simpa using hj); (simp [Value.oneCell']); (unfold maxLen; omega); omega; intro A3 c3 w6 S10; have HS10 := Lib.hid S10; clear S10))
        all_goals
          have HS2 : Hid (St empH w none_ empH w6 [own 5 1 (.slice A3 (m + 3) c3) (m + 3) (((ws.take (i + 1)).flatMap (insOf true)).map u8V)]) := Lib.hid (by
            have h := HS10.out.drop 1
            rw [HT.out, List.map_append, ins_two hx16]
            exact h)
          have HM2 : Hid (m + 3 = ((ws.take (i + 1)).flatMap (insOf true)).length) := Lib.hid (by rw [HT.out, List.length_append, ← HMl.out]; rfl)
          clear HS10 HS1 HS
          go_wp2_with fail
          go_roundw
          case rel => exact ⟨i + 1, A3, c3, m + 3, by go_num, by omega, HM2, rfl, HS2⟩
          case measure => simp [intOf]; omega
      | false =>
        have HS1 := Lib.hid (HS.out.alloc (.cells #[.int .u8 96, .int .u8 ((x : Int) % 256)] 5))
        go_wp2_with (first
          | (at_builtin; refine wpList_append_st 1 5 HS1.out rfl rfl (.tmp 42) (.tmp 48) 23 rfl i0 _ 1 Tryd.underlying23 hi0 hz0 hz1 hz2 rfl (by decide) rfl ⟨wp.heap.size, 0, none⟩ 2 2 [.int .u8 96, .int .u8 ((x : Int) % 256)] rfl rfl (fun j u hj => ?_) ?_ ?_ ?_ ?_; (rw [Addr.add_lit, Nat.zero_add, cell_of_row _ _ _ _ _ _ (HS1.out.blk_at 0 rfl)]; simpa using hj); (simp [Value.oneCell']); (unfold maxLen; omega); omega)
          | fail)
        intro A3 c3 w6 S10
        have HS2 : Hid (St empH w none_ empH w6 [own 5 1 (.slice A3 (m + 2) c3) (m + 2) (((ws.take (i + 1)).flatMap (insOf false)).map u8V)]) := Lib.hid (by
          have h := S10.drop 1
          rw [HT.out, List.map_append, ins_one]
          exact h)
        have HM2 : Hid (m + 2 = ((ws.take (i + 1)).flatMap (insOf false)).length) := Lib.hid (by rw [HT.out, List.length_append, ← HMl.out]; rfl)
        clear S10 HS1 HS
        go_wp2_with fail
        go_roundw
        case rel => exact ⟨i + 1, A3, c3, m + 2, by go_num, by omega, HM2, rfl, HS2⟩
        case measure => simp [intOf]; omega
    · obtain rfl : i = k := by omega
      have hwl : ws.take i = ws := List.take_of_length_le (by have := HK.out; omega)
      rw [hwl] at HMl HS
      have hm60 : m ≤ 60 := by have := HIL.out i (Nat.le_refl _); rw [hwl] at this; rw [HMl.out]; exact this
      obtain ⟨bl, hbl⟩ : ∃ bl, bl = ws.flatMap (insOf wide) := ⟨_, rfl⟩
      rw [← hbl] at HMl HS
      have HBL := Lib.hid hbl
      clear hbl hwl
      have hconv : (convert 23 9 (.slice A' m c')).run Tryd.prog wp = .ok (.string (bs bl)) wp := by
        have hml := HMl.out
        rcases (HS.out.own_at 0 rfl).2 with ⟨hv, h0⟩ | ⟨g, cap, cur, hv, hb, hg, h1, h2, h3, h4⟩
        · cases hv
          obtain rfl : bl = [] := List.eq_nil_of_length_eq_zero (by omega)
          exact nil_str wp
        · cases hv
          rw [← str_bytes]
          refine run_convert_bytes_arg (P := Tryd.prog) wp 23 5 Tryd.underlying23 Tryd.underlying5 g 0 m c' (bl.map fun b => (b.toNat : Int)) (by rw [List.length_map, hml]) (fun j hj => ?_) 9 Tryd.underlying9
          rw [Nat.zero_add, HS.out.ownCell 0 rfl j (by omega), List.getElem?_map, List.getElem?_eq_getElem (by omega), List.getD_eq_getElem?_getD, List.getElem?_map, List.getElem?_eq_getElem (by omega)]
          rfl
      have hcat : (9223372036854775807 < (bs bl).size + 2) = False := eq_false (by rw [bs_size]; have := HMl.out; omega)
      have HTX : Hid (∀ w, MaxAt w → Calls Tryd.prog 7 #[.string (bs bl ++ ⟨#[1, 12]⟩)] w (TextsP (ws.map (wantOf wide) ++ [[65, 68, 68], [63, 48, 99]]) w)) := Lib.hid fun w hm => by
        have e : bs bl ++ (⟨#[1, 12]⟩ : ByteArray) = bs (bl ++ [1, 12]) := by
          apply ByteArray.ext
          simp [bs]
        rw [e, ← texts_all wide ws HX.out, ← HBL.out]
        exact text_any _ (by rw [List.length_append]; have := HMl.out; simp; omega) w hm
      have HWL : Hid (ws.length = i) := Lib.hid (by have := HK.out; omega)
      go_wp2_with fail
      refine (HTX.out _ (HM.out.later HS.out.below)).mono ?_
      rintro e w5 ⟨v, rfl, S5⟩
      have hlen : (ws.map (wantOf wide) ++ [[65, 68, 68], [63, 48, 99]]).length = i + 2 := by rw [List.length_append, List.length_map, HWL.out]; rfl
      rw [hlen] at S5
      obtain ⟨A5, c5, rfl⟩ := own_slice S5 0 rfl
      obtain ⟨g5, rfl, _⟩ := S5.ownForm 0 rfl (by omega)
      have HS5 : Hid (St empH w none_ empH w5 [own 9 1 (.slice (some ⟨g5, 0, none⟩) (i + 2) c5) (i + 2) ((ws.map (wantOf wide) ++ [[65, 68, 68], [63, 48, 99]]).map strV)]) := Lib.hid ((HS.out.more S5).drop 1)
      have e1 : w5.cell? ⟨g5, i, none⟩ = some (.string ⟨#[65, 68, 68]⟩) := by
        rw [HS5.out.ownCell 0 rfl i (by omega), List.getElem?_map, List.getElem?_append_right (by rw [List.length_map, HWL.out]; exact Nat.le_refl _), List.length_map, HWL.out, Nat.sub_self]
        rfl
      have e2 : w5.cell? ⟨g5, i + 1, none⟩ = some (.string ⟨#[63, 48, 99]⟩) := by
        rw [HS5.out.ownCell 0 rfl (i + 1) (by omega), List.getElem?_map, List.getElem?_append_right (by rw [List.length_map, HWL.out]; omega), List.length_map, HWL.out, Nat.add_sub_cancel_left]
        rfl
      clear S5 HS HTX hconv hlen hcat
      go_wp2_with fail
      go_loopw [10] (fun z wr => ∃ j : Nat, z = .int .i64 j ∧ j ≤ i ∧ Hid (St empH w none_ empH wr [own 9 1 (.slice (some ⟨g5, 0, none⟩) (i + 2) c5) (i + 2) ((ws.map (wantOf wide) ++ [[65, 68, 68], [63, 48, 99]]).map strV)])) (fun z _ => i - (intOf z).toNat)
      case atStart => exact ⟨0, rfl, Nat.zero_le _, HS5⟩
      case round =>
        clear HS5 e1 e2
        obtain ⟨j, rfl, hj, HS⟩ := hrel
        by_cases hlt : j < i
        · have hjl : j < ws.length := by have := HWL.out; omega
          obtain ⟨x, hx⟩ : ∃ x : Nat, ws[j]? = some x := ⟨_, List.getElem?_eq_getElem hjl⟩
          obtain ⟨b, o, hA, hcw⟩ := HWS.out j x hx
          have hx16 := HX.out x (List.mem_of_getElem? hx)
          have c1 : wr.cell? ⟨b, o + j, none⟩ = some (.int .u16 x) := cell_later HS.out.below hcw
          have e1 : wr.cell? ⟨g5, j, none⟩ = some (.string (bs (wantOf wide x))) := by
            rw [HS.out.ownCell 0 rfl j (by omega), List.getElem?_map, List.getElem?_append_left (by rw [List.length_map]; exact hjl), List.getElem?_map, hx]
            rfl
          subst hA
          have HCW := Lib.hid hcw
          have HJL := Lib.hid hjl
          have HXJ := Lib.hid hx
          clear hx hcw hjl
          obtain ⟨y0, hy0⟩ : ∃ y : Nat, y = x % 16 := ⟨_, rfl⟩
          obtain ⟨y1, hy1⟩ : ∃ y : Nat, y = x / 16 % 16 := ⟨_, rfl⟩
          obtain ⟨y2, hy2⟩ : ∃ y : Nat, y = x / 256 % 16 := ⟨_, rfl⟩
          obtain ⟨y3, hy3⟩ : ∃ y : Nat, y = x / 4096 := ⟨_, rfl⟩
          have b0 : bits .and .u16 (x : Int) 15 = (y0 : Int) := by rw [hy0]; exact and15 hx16
          have b1 : bits .and .u16 ((x : Int) / 16) 15 = (y1 : Int) := by rw [hy1]; exact and15 (n := x / 16) (by omega)
          have b2 : bits .and .u16 ((x : Int) / 256) 15 = (y2 : Int) := by rw [hy2]; exact and15 (n := x / 256) (by omega)
          have b3 : (x : Int) / 4096 = (y3 : Int) := by rw [hy3]; rfl
          have k0 : y0 < 16 := by omega
          have k1 : y1 < 16 := by omega
          have k2 : y2 < 16 := by omega
          have k3 : y3 < 16 := by omega
          have HLOW : Hid (bs [xd y1] ++ bs [xd y0] = bs (lowOf x)) := Lib.hid (by
            rw [hy1, hy0]
            apply ByteArray.ext
            simp [bs, lowOf])
          have HWN : Hid ((⟨#[80, 85, 83, 72, 49, 32, 48, 120]⟩ : ByteArray) ++ bs (lowOf x) = bs (wantOf false x)) := Lib.hid (bs_cat [80, 85, 83, 72, 49, 32, 48, 120] (lowOf x))
          have HWW : Hid ((⟨#[80, 85, 83, 72, 50, 32, 48, 120]⟩ : ByteArray) ++ bs [xd y3] ++ bs [xd y2] ++ bs (lowOf x) = bs (wantOf true x)) := Lib.hid (by
            rw [hy3, hy2]
            apply ByteArray.ext
            simp [bs, wantOf])
          clear hy0 hy1 hy2 hy3 hx16
          have w0 : IntKind.u16.wrap ((y0 : Int) + 1) = (y0 : Int) + 1 := IntWalk.u16_in _ (by omega)
          have z0 : (0 : Int) ≤ (y0 : Int) + 1 := by omega
          have t0 : ((y0 : Int) + 1).toNat = y0 + 1 := by omega
          have m0 : (y0 : Int) + 1 ≤ 16 := by omega
          have l0 : (y0 : Int) ≤ (y0 : Int) + 1 := by omega
          have x0 : (⟨#[48, 49, 50, 51, 52, 53, 54, 55, 56, 57, 97, 98, 99, 100, 101, 102]⟩ : ByteArray).extract y0 (y0 + 1) = bs [xd y0] := dig_cut ⟨y0, by omega⟩
          have w1 : IntKind.u16.wrap ((y1 : Int) + 1) = (y1 : Int) + 1 := IntWalk.u16_in _ (by omega)
          have z1 : (0 : Int) ≤ (y1 : Int) + 1 := by omega
          have t1 : ((y1 : Int) + 1).toNat = y1 + 1 := by omega
          have m1 : (y1 : Int) + 1 ≤ 16 := by omega
          have l1 : (y1 : Int) ≤ (y1 : Int) + 1 := by omega
          have x1 : (⟨#[48, 49, 50, 51, 52, 53, 54, 55, 56, 57, 97, 98, 99, 100, 101, 102]⟩ : ByteArray).extract y1 (y1 + 1) = bs [xd y1] := dig_cut ⟨y1, by omega⟩
          have hcat1 : (9223372036854775807 < (bs [xd y1]).size + (bs [xd y0]).size) = False := eq_false (by rw [bs_size, bs_size]; simp)
          have hcat2 : (9223372036854775807 < 8 + (bs (lowOf x)).size) = False := eq_false (by rw [bs_size]; simp [lowOf])
          have hcat3 : (9223372036854775807 < 8 + (bs [xd y3]).size) = False := eq_false (by rw [bs_size]; simp)
          have hcat4 : (9223372036854775807 < 8 + (bs [xd y3]).size + (bs [xd y2]).size) = False := eq_false (by rw [bs_size, bs_size]; simp)
          have hcat5 : (9223372036854775807 < 8 + (bs [xd y3]).size + (bs [xd y2]).size + (bs (lowOf x)).size) = False := eq_false (by rw [bs_size, bs_size, bs_size]; simp [lowOf])
          go_wp2_with fail
          go_quiet (fail)
          clear b0 b1 w0 z0 t0 m0 l0 x0 w1 z1 t1 m1 l1 x1
          rw [HLOW.out]
          have HSq := Lib.hid (HS.out.drewN nq)
          generalize wr.drewN nq = wq at HSq ⊢
          have c2 : wq.cell? ⟨b, o + j, none⟩ = some (.int .u16 x) := cell_later HSq.out.below HCW.out
          have e2 : wq.cell? ⟨g5, j, none⟩ = some (.string (bs (wantOf wide x))) := by
            rw [HSq.out.ownCell 0 rfl j (by omega), List.getElem?_map, List.getElem?_append_left (by rw [List.length_map]; exact HJL.out), List.getElem?_map, HXJ.out]
            rfl
          clear c1 e1
          cases wide with
          | false =>
            have hne : ((bs (wantOf false x)).toList != (bs (wantOf false x)).toList) = false := by simp
            clear b2 b3
            go_upto_region 23 with (fail)
            rw [HWN.out]
            go_wp2_with fail
            go_roundw
            case rel => exact ⟨j + 1, by go_num, by omega, HSq⟩
            case measure => simp [intOf]; omega
          | true =>
            have w2 : IntKind.u16.wrap ((y2 : Int) + 1) = (y2 : Int) + 1 := IntWalk.u16_in _ (by omega)
            have z2 : (0 : Int) ≤ (y2 : Int) + 1 := by omega
            have t2 : ((y2 : Int) + 1).toNat = y2 + 1 := by omega
            have m2 : (y2 : Int) + 1 ≤ 16 := by omega
            have l2 : (y2 : Int) ≤ (y2 : Int) + 1 := by omega
            have x2 : (⟨#[48, 49, 50, 51, 52, 53, 54, 55, 56, 57, 97, 98, 99, 100, 101, 102]⟩ : ByteArray).extract y2 (y2 + 1) = bs [xd y2] := dig_cut ⟨y2, by omega⟩
            have w3 : IntKind.u16.wrap ((y3 : Int) + 1) = (y3 : Int) + 1 := IntWalk.u16_in _ (by omega)
            have z3 : (0 : Int) ≤ (y3 : Int) + 1 := by omega
            have t3 : ((y3 : Int) + 1).toNat = y3 + 1 := by omega
            have m3 : (y3 : Int) + 1 ≤ 16 := by omega
            have l3 : (y3 : Int) ≤ (y3 : Int) + 1 := by omega
            have x3 : (⟨#[48, 49, 50, 51, 52, 53, 54, 55, 56, 57, 97, 98, 99, 100, 101, 102]⟩ : ByteArray).extract y3 (y3 + 1) = bs [xd y3] := dig_cut ⟨y3, by omega⟩
            go_wp2_with fail
            go_quiet (fail)
            rw [HWW.out]
            have HSr := Lib.hid (HSq.out.drewN nq)
            generalize wq.drewN nq = wr2 at HSr ⊢
            have e3 : wr2.cell? ⟨g5, j, none⟩ = some (.string (bs (wantOf true x))) := by
              rw [HSr.out.ownCell 0 rfl j (by omega), List.getElem?_map, List.getElem?_append_left (by rw [List.length_map]; exact HJL.out), List.getElem?_map, HXJ.out]
              rfl
            have hne : ((bs (wantOf true x)).toList != (bs (wantOf true x)).toList) = false := by simp
            clear b2 b3 w2 z2 t2 m2 l2 x2 w3 z3 t3 m3 l3 x3 e2 c2
            go_wp2_with fail
            go_roundw
            case rel => exact ⟨j + 1, by go_num, by omega, HSr⟩
            case measure => simp [intOf]; omega
        · obtain rfl : j = i := by omega
          go_wp2_with fail
          go_ret
          exact ⟨rfl, HS.out.below⟩
end Go.Proofs.YtfphlkkhpccpnabDoor
