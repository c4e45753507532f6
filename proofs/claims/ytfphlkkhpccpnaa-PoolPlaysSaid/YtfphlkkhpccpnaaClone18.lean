import Derived.Test.YtfphlkkhpccpnaaClone
import Derived.Test.YtfphlkkhpccpnaaTx
import Derived.Deep.RegionWith
namespace Go.Proofs.Ytfphlkkhpccpnaa
open Go.RowKit Go.Proofs K

def Clone18_ (t : TxS) (H : Hs) (w : World) (e : Ending) (w' : World) : Prop := ∃ s' H', e = .returned (.agg (t.cells s')) ∧ RepV H' s' (accsD t.acc) ∧ St H w none_ H' w' [] ∧ Warm H H'
/-- New memory. -/
def Fresh (Hn : Hs) (n : Nat) : Prop := ∀ b o, Hn b = some o → n ≤ b ∧ ∃ cs t, o = .cells cs t (0, 0)
/-- A copy in new memory (Hn). -/
def Clone18 (t : TxS) (H : Hs) (w : World) (e : Ending) (w' : World) : Prop := ∃ s' H' Hn, e = .returned (.agg (t.cells s')) ∧ RepV H' s' (accsD t.acc) ∧ St H w none_ H' w' [] ∧ RepV Hn s' (accsD t.acc) ∧ Le Hn H' ∧ Fresh Hn w.heap.size

theorem szTx {t : TxS} {s : Value} : (Try.prog.info? 33).map (·.size) = some (t.cells s).size := by kernel_rfl

theorem oneTx {t : TxS} {A : Option Addr} {n c : Nat} : (t.cells (.slice A n c)).all (·.oneCell') = true := by simp [TxS.cells, Value.oneCell']

theorem round18 {Ha H Hk : Hs} {w wr w2 : World} {a c : Hp} {g n c' k c3 : Nat} {A3 : Option Addr} {ys zs : List Value} {l : List Ac} {x : Ac} (S : St H w none_ Hk wr [a, own 30 2 (.slice (some ⟨g, 0, none⟩) n c') n ys, c])
    (hd : ∀ (H' : Hs) (s' : Value), Le Hk H' → RepV H' s' (wordsD x.slots) → Mixed Ha H' (k + 1) (ys.set (k * 2 + 1) s') l)
    (S2 : St Hk wr.drew none_ Hk w2 [own 28 4 (.slice A3 x.slots.length c3) x.slots.length zs]) (hz : RepL Ha zs ((wordsC x.slots).map D.v)) :
    ∃ H' ys', Warm Hk H' ∧ Hid (Mixed Ha H' (k + 1) ys' l) ∧ Hid (St H w none_ H' (w2.setCell ⟨g, k * 2 + 1, none⟩ (.slice A3 x.slots.length c3)) [a, own 30 2 (.slice (some ⟨g, 0, none⟩) n c') n ys', c]) := by
  have hz' : RepL Hk zs ((wordsC x.slots).map D.v) := by
    obtain rfl := hz.plain_inv
    exact RepL.plain_mk _ _ (by
      intro v hv
      obtain ⟨y, _, hy⟩ := List.mem_flatMap.1 hv
      simp only [wdC, List.mem_cons, List.not_mem_nil, or_false] at hy
      rcases hy with rfl | rfl | rfl | rfl <;> rfl)
  obtain ⟨H', hle, hwm, hr, S3⟩ := (S.drew.more S2).keepOwnW 0 rfl hz'
  exact ⟨H', _, hwm, hd H' _ hle hr, ((S3.setOwn 1 rfl (k * 2 + 1) (.slice A3 x.slots.length c3)).pick 1 rfl)⟩

set_option maxRecDepth 100000 in
set_option maxHeartbeats 1000000 in
theorem clone18_core (t : TxS) (s : Value) (Ha H : Hs) (w : World) (ha : Ag Ha w) (hw : Ag H w) (hs : RepV Ha s (accsD t.acc)) (ht : t.small) :
    Calls Try.prog 18 #[.agg (t.cells s)] w (Clone18_ t H w) := by
  obtain ⟨A, c, cs, rfl, hnc, hA, hl, hr, hd⟩ := hs.sl_inv
  have HA := Lib.hid ha
  simp only [TxS.cells]
  go_enter Try.func18, Try.ntmps18
  go_wp2_with fail
  refine (clone28_any t.acc.length _ _ Ha H _ (ag_below ha (((Below.refl _ _).alloc (Nat.le_refl _) _).alloc (by simp) _)) (ag_below hw (((Below.refl _ _).alloc (Nat.le_refl _) _).alloc (by simp) _)) (.sl hnc hA hl hr hd) ht.acc).mono ?_
  rintro e w1 ⟨A', c', xs, rfl, hd', S'⟩
  have S := (((St.start hw).alloc _).alloc _).more S'
  simp only [World.size_alloc] at S
  have hc1 := S.cell (j := 18) 2 rfl rfl
  have hf1 := S.frozen 2 rfl 18
  have S1 : Hid (St H w none_ H (w1.setCell ⟨w.heap.size, 18, none⟩ (.slice A' t.acc.length c')) [blk w.heap.size (t.obj (.slice A' t.acc.length c')), own 30 2 (.slice A' t.acc.length c') t.acc.length xs, blk (w.heap.size + 1) (tx0.obj (.slice none 0 0))]) :=
    S.setCell (j := 18) 2 rfl (.slice A' t.acc.length c')
  clear S S' hr hd
  have HD : Hid (Mixed Ha H 0 xs t.acc) := Mixed.start hd'
  have HT := Lib.hid ht
  have hlen : t.acc.length ≤ 140737488355328 := by have := ht.acc; omega
  clear hd' ht hs hnc hA hl hw ha
  go_wp2_with fail
  go_loopw [11] (fun i wr => ∃ (k : Nat) (Hk : Hs) (ys : List Value), i = .int .i64 k ∧ k ≤ t.acc.length ∧ Hid (Mixed Ha Hk k ys t.acc) ∧ Warm H Hk ∧
      Hid (St H w none_ Hk wr [blk w.heap.size (t.obj (.slice A' t.acc.length c')), own 30 2 (.slice A' t.acc.length c') t.acc.length ys, blk (w.heap.size + 1) (tx0.obj (.slice none 0 0))]))
    (fun i _ => t.acc.length - (intOf i).toNat)
  case atStart => exact ⟨0, H, xs, rfl, Nat.zero_le _, HD, Warm.refl _, S1⟩
  case round =>
    clear S1 HD hc1 hf1
    obtain ⟨k, Hk, ys, rfl, hk, HD, hwm, HS⟩ := hrel
    by_cases hlt : k < t.acc.length
    · obtain ⟨g, rfl, hg⟩ := HS.out.ownForm 1 rfl (by omega)
      obtain ⟨s1, hs1, hv1, hnext⟩ := HD.out.open (List.getElem?_eq_getElem hlt)
      have hc1 : wr.cell? ⟨w.heap.size, 18, none⟩ = some (.slice (some ⟨g, 0, none⟩) t.acc.length c') := HS.out.cell 0 rfl rfl
      have hc2 : wr.cell? ⟨g, k * 2 + 1, none⟩ = some s1 := (HS.out.ownCell 1 rfl (k * 2 + 1) (by omega)).trans hs1
      have hf2 : wr.frozen? ⟨g, k * 2 + 1, none⟩ = false := HS.out.ownFrozen 1 rfl _
      obtain ⟨A2, n2, c2, rfl⟩ : ∃ A2 n2 c2, s1 = .slice A2 n2 c2 := by obtain ⟨A2, c2, _, h, _⟩ := hv1.sl_inv; exact ⟨_, _, _, h⟩
      have HV := Lib.hid hv1
      have HX := Lib.hid hnext
      clear hs1 hv1 hnext
      go_wp2_with fail
      go_region_with (go_at_call 29; refine (clone29_any (t.acc[k]).slots.length _ _ Ha Hk _ (HS.out.drew.agOther HA.out fun _ h => h.elim) HS.out.drew.ag HV.out (HT.out.slots _ (List.getElem_mem hlt))).mono ?_; rintro e w2 ⟨A3, c3, zs, rfl, hz, S2⟩; have k1 := cell_later S2.below hc1; have k2 := cell_later S2.below hc2; have k3 := frozen_later S2.below hc2 hf2; have HZ := Lib.hid hz; have HS2 := Lib.hid S2; clear hz S2)
      all_goals
        obtain ⟨H', ys', hwm', HD', HS'⟩ := round18 HS.out HX.out HS2.out HZ.out
        clear HS2 HZ HS HD HV HX k1 k2 k3 hc1 hc2 hf2
        go_wp2_with fail
        go_roundw
        case rel => exact ⟨k + 1, H', ys', by go_num, by omega, HD', hwm.trans hwm', HS'⟩
        case measure => simp [intOf]; omega
    · obtain rfl : k = t.acc.length := by omega
      obtain ⟨H', hle, hwm', hr', S3⟩ := HS.out.keepOwnW 1 rfl HD.out.done
      clear HS HD hlt hk
      have HR := Lib.hid hr'
      clear hr' hle
      go_wp2_with (first
        | (refine wpList_load_st 0 S3 rfl rfl 33 (.tmp 1) rfl rfl _ Try.underlying33 rfl szTx ?_)
        | (refine wpList_store_st 1 S3 rfl rfl 33 (.tmp 2) (.tmp 27) rfl rfl rfl szTx rfl oneTx ?_; clear S3; intro w4 S4))
      refine post_cell 0 S4 rfl rfl rfl _ Try.underlying33 rfl szTx rfl ?_
      exact ⟨_, H', rfl, HR.out, S4.nil, hwm.trans hwm'⟩
theorem clone18_of (t : TxS) (s : Value) (Ha H : Hs) (w : World) (ha : Ag Ha w) (hw : Ag H w) (hs : RepV Ha s (accsD t.acc)) (ht : t.small) :
    Calls Try.prog 18 #[.agg (t.cells s)] w (Clone18 t H w) := by
  refine (clone18_core t s Ha empH w ha (ag_emp w) hs ht).mono ?_
  rintro e w' ⟨s', Hn, he, hr, S, hwm⟩
  exact ⟨s', orH Hn H, Hn, he, hr.le (orH_left _ _), S.frameH (fun _ h => h.elim) hw, hr, orH_left _ _, fun b o hb => by
    refine ⟨?_, (hwm b o hb).elim (fun h => by cases h) id⟩
    rcases S.new b o hb with h1 | h1 | h1
    · cases h1
    · exact h1
    · exact h1.elim⟩
theorem clone18_any (t : TxS) (s : Value) (H : Hs) (w : World) (hw : Ag H w) (hs : RepV H s (accsD t.acc)) (ht : t.small) :
    Calls Try.prog 18 #[.agg (t.cells s)] w (Clone18 t H w) := clone18_of t s H H w hw hw hs ht
end Go.Proofs.Ytfphlkkhpccpnaa
