/-
  Clients: New.
-/
import Derived.Test.YtdnpobjokajigaaGreatDoorPart17
import Derived.Test.YtdnpobjokajigaaGreatDoorPlCan
import Derived.Deep.RegionLaw
namespace Go.Proofs.YtdnpobjokajigaaGreatDoor
open Go.RowKit Go.Proofs K
set_option linter.unusedVariables false
def nilCli (name : ByteArray) (K : List (AskS × ReplyS)) : Cl := ⟨name, K, [], [], 1⟩
/-- What is seen of a text of a file. -/
inductive Seen (s : List UInt8) : Prop
theorem learn_none {K : List (AskS × ReplyS)} {s : List UInt8} (h : decF s = none) : learnOne K s = K := by unfold learnOne; rw [h]
theorem learn_text {K : List (AskS × ReplyS)} {s : List UInt8} {p : ByteArray} (h : decF s = some (.text p)) : learnOne K s = K := by unfold learnOne; rw [h]
theorem learn_len {K : List (AskS × ReplyS)} {s : List UInt8} {l : List It} (h : decF s = some (.list l)) (hl : l.length ≠ 2) : learnOne K s = K := by
  unfold learnOne
  rw [h]
  match l, hl with
  | [], _ => rfl
  | [a], _ => cases a <;> rfl
  | [a, b], hl => exact absurd rfl hl
  | a :: b :: c :: r, _ => cases a <;> cases b <;> rfl
theorem learn_first {K : List (AskS × ReplyS)} {s : List UInt8} {l : List It} {j : It} (h : decF s = some (.list [.list l, j])) : learnOne K s = K := by unfold learnOne; rw [h]
theorem learn_second {K : List (AskS × ReplyS)} {s : List UInt8} {l : List It} {p : ByteArray} (h : decF s = some (.list [.text p, .list l])) : learnOne K s = K := by unfold learnOne; rw [h]
theorem learn_noask {K : List (AskS × ReplyS)} {s : List UInt8} {p q : ByteArray} (h : decF s = some (.list [.text p, .text q])) (h1 : gotA p.data.toList = none) : learnOne K s = K := by
  unfold learnOne
  rw [h]
  simp only
  rw [h1]
theorem learn_askid {K : List (AskS × ReplyS)} {s : List UInt8} {p q : ByteArray} {a : AskS} (h : decF s = some (.list [.text p, .text q])) (h1 : gotA p.data.toList = some a) (h2 : a.id ≠ 0) : learnOne K s = K := by
  unfold learnOne
  rw [h]
  simp only
  rw [h1]
  simp only
  rw [if_neg h2]
theorem learn_rep {K : List (AskS × ReplyS)} {s : List UInt8} {p q : ByteArray} {a : AskS} (h : decF s = some (.list [.text p, .text q])) (h1 : gotA p.data.toList = some a) (h2 : a.id = 0) : learnOne K s = match gotF a.kind q.data.toList with | some r => if r.id = 0 then putR K a r else K | none => K := by
  unfold learnOne
  rw [h]
  simp only
  rw [h1]
  simp only
  rw [if_pos h2]
  cases gotF a.kind q.data.toList <;> rfl
theorem dec_two {l : List UInt8} {p q : ByteArray} (h : DecR l (some (.list [.text p, .text q]))) : q.data.toList.length ≤ 140737488355328 := by
  have h1 := dec_canon h
  have h2 : l.length ≤ 65536 := by cases h with | good h _ => exact h
  have h3 := textL_ge q
  rw [sizeL]
  rw [h1] at h2
  have e : (It.list [.text p, .text q]).enc = aheadL 192 (textL p ++ (textL q ++ [])).length ++ (textL p ++ (textL q ++ [])) := rfl
  rw [e] at h2
  simp only [List.length_append] at h2
  omega
theorem decF_long {l : List UInt8} (h : 65536 < l.length) : decF l = none := by unfold decF; rw [if_pos h]
theorem below_setRow {w w' : World} {b : Nat} (h : Below w.heap.size w w') (hb : w.heap.size ≤ b) (cs : Array Value) : Below w.heap.size w (w'.setRow b cs) :=
  ⟨h.os, h.tape, h.output, by simpa [World.setRow] using h.size, fun k hk => by
    have : (w'.setRow b cs).heap[k]? = w'.heap[k]? := by
      simp only [World.setRow, Array.getElem?_modify]
      rw [if_neg (by omega)]
    rw [this]
    exact h.block k hk⟩
def It.flag : It → Bool
  | .text _ => false
  | .list _ => true
def It.txt : It → ByteArray
  | .text s => s
  | .list _ => ⟨#[]⟩
theorem it_flag {H : Hs} {x y z : Value} {i : It} (h : RepL H [x, y, z] i.d) : x = .bool i.flag ∧ y = .string i.txt := by
  cases i with
  | text s => obtain ⟨A, c, rfl, rfl, rfl⟩ := text_cells h; exact ⟨rfl, rfl⟩
  | list l => obtain ⟨A, c, rfl, rfl, rfl, _⟩ := list_cells h; exact ⟨rfl, rfl⟩
theorem pair_cells {H1 : Hs} {A : Option Addr} {c : Nat} {i0 i1 : It} (hv : RepV H1 (.slice A 2 c) (.sl 3 2 (itsD [i0, i1]))) :
    ∃ b o, A = some ⟨b, o, none⟩ ∧ ∀ w', Ag H1 w' → w'.cell? ⟨b, o, none⟩ = some (.bool i0.flag) ∧ w'.cell? ⟨b, o + 1, none⟩ = some (.string i0.txt) ∧ w'.cell? ⟨b, o + 3, none⟩ = some (.bool i1.flag) ∧ w'.cell? ⟨b, o + 4, none⟩ = some (.string i1.txt) := by
  obtain ⟨A', c', cs, he, _, _, hlen, hrow, hd⟩ := hv.sl_inv
  cases he
  obtain ⟨x0, y0, z0, h1, h2, _, h3⟩ := its_at (k := 0) hd (Nat.zero_lt_succ _)
  obtain ⟨x1, y1, z1, g1, g2, _, g3⟩ := its_at (k := 1) hd (Nat.lt_succ_self _)
  obtain ⟨rfl, rfl⟩ := it_flag h3
  obtain ⟨rfl, rfl⟩ := it_flag g3
  rcases hrow with rfl | ⟨b, o, cur, t, fr, rfl, hb, hrow⟩
  · simp at h1
  · refine ⟨b, o, rfl, fun w' ha => ?_⟩
    have hb' := ha _ _ hb
    refine ⟨?_, ?_, ?_, ?_⟩
    · rw [cell_of_row _ _ _ _ _ _ hb']; exact hrow 0 _ h1
    · rw [cell_of_row _ _ _ _ _ _ hb']; exact hrow 1 _ h2
    · rw [cell_of_row _ _ _ _ _ _ hb']; exact hrow 3 _ g1
    · rw [cell_of_row _ _ _ _ _ _ hb']; exact hrow 4 _ g2
section
variable {H0 H : Hs} {w0 w : World} {X : Nat → Prop} {ps : List Hp}
theorem decodeAny (l : List UInt8) {H : Hs} {w : World} (hw : Ag H w) : Calls Tryz.prog 62 #[.string (bs l)] w (DecP l H w) := by
  by_cases h : l.length ≤ 65536
  · exact decode_any l h hw
  · exact decode_long l (by omega) hw
def NewQ (H0 H : Hs) (w0 : World) (X : Nat → Prop) (d : Nat) (D : Dk) (ps : List Hp) (C : Cl) (e : Ending) (w' : World) : Prop :=
  ∃ c, e = .returned (.pointer (some ⟨c, 0, none⟩)) ∧ St H0 w0 X H w' (cliP c d C :: diskP d D :: ps)
set_option maxRecDepth 100000 in
set_option maxHeartbeats 8000000 in
theorem newC_any {d : Nat} {D : Dk} (S : St H0 w0 X H w (diskP d D :: ps)) (hD : D.ok) (name : ByteArray) :
    Calls Tryz.prog 16 #[.pointer (some ⟨d, 0, none⟩), .string name] w (NewQ H0 H w0 X d D ps (newC D name)) := by
  obtain ⟨W, hW⟩ : ∃ W, W = (w.alloc (.map #[] 0)).alloc (cliO d w.heap.size (nilCli name []) (.slice none 0 0) (.slice none 0 0)) := ⟨_, rfl⟩
  have HS : Hid (St H0 w0 X H W (cliP (w.heap.size + 1) d (nilCli name []) :: diskP d D :: ps)) := by
    rw [hW]
    have S1 := (S.alloc' (.map #[] 0) w.heap.size rfl).alloc' (cliO d w.heap.size (nilCli name []) (.slice none 0 0) (.slice none 0 0)) (w.heap.size + 1) (by simp)
    have S2 := S1.see (q := mapP encA w.heap.size (repM [])) 1 rfl fun F hF => ⟨hF.1, _, hF.2, isMap_new 0⟩
    have S3 := (S2.own_nil (e := 9) (size := 1)).own_nil (e := 9) (size := 1)
    have S4 := S3.ownO_of 0 rfl
    exact Lib.hid (shutCli (C := nilCli name []) S4)
  have HW := Lib.hid hW
  have HD := Lib.hid hD
  have hmm := @run_makeMap Tryz.prog
  obtain ⟨L, hL⟩ : ∃ L, L = framesL ((readF D.files name).getD []) := ⟨_, rfl⟩
  have HRES : Hid (newC D name = nilCli name (learnL [] L)) := Lib.hid (by rw [hL]; rfl)
  have HA := Lib.hid (all_any HS.out 1 rfl hD name)
  rw [← hL] at HA
  have HLE := Lib.hid S.le
  have hLn : (L.length : Int) ≤ 140737488355328 := by
    have h1 := readF_le name D.files
    have h2 := hD.fit
    have h3 : ∀ (f : Nat) (l : List UInt8), 8 * (framesG f l).length ≤ l.length := by
      intro f
      induction f with
      | zero => intro l; simp [framesG]
      | succ f ih =>
        intro l
        unfold framesG
        split
        · rename_i h
          have h4 := oneB_ok h
          have h5 := ih (l.drop (8 + (oneB l).1.length))
          rw [List.length_drop] at h5
          rw [List.length_cons]
          omega
        · simp
    have h4 := h3 (((readF D.files name).getD []).length + 1) ((readF D.files name).getD [])
    rw [hL]
    unfold framesL
    omega
  clear S hD hL hW
  go_enter Tryz.func16, Tryz.ntmps16
  go_upto_region 2 with (fail)
  have eW := HW.out
  simp only [cliO, nilCli] at eW
  rw [← eW]
  clear eW HW
  go_wp2_with fail
  refine HA.out.mono ?_
  rintro e w2 ⟨A, cap, rfl, S2⟩
  have HS2 := Lib.hid S2
  clear S2 HA HS
  go_wp2_with fail
  go_loopw [23] (fun i wr => ∃ n : Nat, i = .int .i64 n ∧ n ≤ L.length ∧ Hid (St H0 w0 X H wr (cliP (w.heap.size + 1) d (nilCli name (learnL [] (L.take n))) :: own 9 1 (.slice A L.length cap) L.length (strL L) :: diskP d D :: ps))) (fun i _ => L.length - (intOf i).toNat)
  case atStart => exact ⟨0, rfl, Nat.zero_le _, Lib.hid ((HS2.out.pick 1 rfl))⟩
  case round =>
    clear HS2
    obtain ⟨n, rfl, hn, HI⟩ := hrel
    by_cases hlt : n < L.length
    · have hltI : (n : Int) < (L.length : Int) := by omega
      obtain ⟨g, rfl, hg⟩ := HI.out.ownForm 1 rfl (by omega)
      have cs : wr.cell? ⟨g, n, none⟩ = some (.string (bs L[n])) := by
        rw [HI.out.ownCell 1 rfl n (by omega)]
        simp [strL, hlt]
      have HDC := Lib.hid (decodeAny L[n] HI.out.ag)
      obtain ⟨s, hs⟩ : ∃ s, s = L[n] := ⟨_, rfl⟩
      rw [← hs] at cs HDC
      have HSTEP : Hid (learnL [] (L.take (n + 1)) = learnOne (learnL [] (L.take n)) s) := Lib.hid (by
        rw [List.take_succ_eq_append_getElem hlt, ← hs]
        unfold learnL
        rw [List.foldl_append]
        rfl)
      obtain ⟨K, hK⟩ : ∃ K, K = learnL [] (L.take n) := ⟨_, rfl⟩
      rw [← hK] at HSTEP HI
      have HN := Lib.hid (And.intro hn hlt)
      clear hs hK hn hlt
      go_wp2_with fail
      refine HDC.out.mono ?_
      rintro e w3 (⟨it, x, y, z, H1, hR, rfl, hrep, S3⟩ | ⟨m, hR, hm, rfl, S3⟩)
      · have HS4 : Hid (St H0 w0 X H1 (w3.alloc (itemO false ⟨#[]⟩ (.slice none 0 0))) (blk w3.heap.size (itemO false ⟨#[]⟩ (.slice none 0 0)) :: cliP (w.heap.size + 1) d (nilCli name K) :: own 9 1 (.slice (some ⟨g, 0, none⟩) L.length cap) L.length (strL L) :: diskP d D :: ps)) := Lib.hid ((HI.out.more S3).alloc' _ w3.heap.size rfl)
        have HL1 := Lib.hid S3.le
        have HDEC := Lib.hid (decF_of hR)
        have HDR := Lib.hid hR
        have HREP := Lib.hid hrep
        have h3 : (#[x, y, z] : Array Value).all (·.oneCell') = true := by
          have := hrep.one
          simpa using this
        clear HI HDC hR S3 hrep cs
        simp only [itemO] at HS4
        go_upto_region 6 with (first
          | (refine wpList_store_st (cs := #[x, y, z]) 0 HS4.out rfl rfl 123 (.tmp 8) (.tmp 30) rfl rfl rfl szItem rfl h3 ?_)
          | fail)
        intro w4 S4
        have HS5 := Lib.hid S4
        clear S4 HS4 h3
        cases it with
        | text p =>
          obtain ⟨A1, c1, rfl, rfl, rfl⟩ := text_cells HREP.out
          have k0 : w4.cell? ⟨w3.heap.size, 0, none⟩ = some (.bool false) := HS5.out.cell 0 rfl rfl
          go_wp2_with fail
          go_roundw
          case rel => exact ⟨n + 1, by go_num, by have := HN.out; omega, Lib.hid (by
            rw [HSTEP.out, learn_text HDEC.out]
            exact (HS5.out.drop 0).less HL1.out HLE.out)⟩
          case measure => simp [intOf]; have := HN.out; omega
        | list l =>
          obtain ⟨A1, c1, rfl, rfl, rfl, hv⟩ := list_cells HREP.out
          have k0 : w4.cell? ⟨w3.heap.size, 0, none⟩ = some (.bool true) := HS5.out.cell 0 rfl rfl
          have k2 : w4.cell? ⟨w3.heap.size, 2, none⟩ = some (.slice A1 l.length c1) := HS5.out.cell 0 rfl rfl
          have HV := Lib.hid hv
          clear hv HREP
          by_cases hl2 : l.length = 2
          · obtain ⟨i0, i1, rfl⟩ : ∃ i0 i1, l = [i0, i1] := by
              match l, hl2 with
              | [a, b], _ => exact ⟨a, b, rfl⟩
            obtain ⟨b, o, rfl, hcell⟩ := pair_cells HV.out
            obtain ⟨e0, e1, e2, e3⟩ := hcell w4 HS5.out.ag
            have k2 : w4.cell? ⟨w3.heap.size, 2, none⟩ = some (.slice (some ⟨b, o, none⟩) 2 c1) := k2
            have hnz : ((2 : Int) != 2) = false := rfl
            have HCELL := Lib.hid hcell
            clear hl2 HV hcell
            cases i0 with
            | list l0 =>
              simp only [It.flag] at e0
              go_wp2_with fail
              go_roundw
              case rel => exact ⟨n + 1, by go_num, by have := HN.out; omega, Lib.hid (by
                rw [HSTEP.out, learn_first HDEC.out]
                exact (HS5.out.drop 0).less HL1.out HLE.out)⟩
              case measure => simp [intOf]; have := HN.out; omega
            | text p =>
              simp only [It.flag, It.txt] at e0 e1
              cases i1 with
              | list l0 =>
                simp only [It.flag] at e2
                go_wp2_with fail
                go_roundw
                case rel => exact ⟨n + 1, by go_num, by have := HN.out; omega, Lib.hid (by
                  rw [HSTEP.out, learn_second HDEC.out]
                  exact (HS5.out.drop 0).less HL1.out HLE.out)⟩
                case measure => simp [intOf]; have := HN.out; omega
              | text q =>
                simp only [It.flag, It.txt] at e2 e3
                have HGA := gotAsk_any p.data.toList w4
                rw [bs_list] at HGA
                obtain ⟨a, ha⟩ : ∃ a, a = (gotA p.data.toList).getD zAskS := ⟨_, rfl⟩
                obtain ⟨ok, hok⟩ : ∃ ok, ok = (gotA p.data.toList).isSome := ⟨_, rfl⟩
                rw [← ha, ← hok] at HGA
                have HA := Lib.hid ha
                have HOK := Lib.hid hok
                have HGA := Lib.hid HGA
                clear ha hok
                go_wp2_with fail
                refine HGA.out.mono ?_
                rintro e w5 ⟨rfl, hb5⟩
                have HS6 : Hid (St H0 w0 X H1 (w5.alloc (.cells zAsk 45)) (blk w5.heap.size (.cells zAsk 45) :: blk w3.heap.size (itemO true ⟨#[]⟩ (.slice (some ⟨b, o, none⟩) 2 c1)) :: cliP (w.heap.size + 1) d (nilCli name K) :: own 9 1 (.slice (some ⟨g, 0, none⟩) L.length cap) L.length (strL L) :: diskP d D :: ps)) := Lib.hid ((HS5.out.grow hb5).alloc' _ w5.heap.size rfl)
                clear HGA hb5 HS5 k0 k2 e0 e1 e2 e3
                simp only [AskS.cells]
                go_wp2_with (first
                  | (refine wpList_store_st (cs := askC a.id a.addr a.a a.b a.c a.d a.kind) 0 HS6.out rfl rfl 45 (.tmp 10) (.tmp 66) rfl rfl rfl szAsk rfl (oneAsk _ _ _ _ _ _ _) ?_)
                  | fail)
                intro w6 S6
                have HS7 := Lib.hid S6
                clear S6 HS6
                cases ok with
                | false =>
                  go_wp2_with fail
                  go_roundw
                  case rel => exact ⟨n + 1, by go_num, by have := HN.out; omega, Lib.hid (by
                    rw [HSTEP.out, learn_noask HDEC.out (by have := HOK.out; cases hg : gotA p.data.toList with | none => rfl | some a => rw [hg] at this; cases this)]
                    exact ((HS7.out.drop 0).drop 0).less HL1.out HLE.out)⟩
                  case measure => simp [intOf]; have := HN.out; omega
                | true =>
                  have k0 : w6.cell? ⟨w5.heap.size, 0, none⟩ = some (.int .u64 a.id) := HS7.out.cell 0 rfl rfl
                  have HGA : Hid (gotA p.data.toList = some a) := Lib.hid (by have h1 := HOK.out; have h2 := HA.out; cases hg : gotA p.data.toList with | none => rw [hg] at h1; cases h1 | some a => rw [hg] at h2; rw [h2]; rfl)
                  by_cases hid : a.id = 0
                  · have hne : (a.id != 0) = false := by rw [hid]; rfl
                    go_wp2_with fail
                    obtain ⟨r, hr⟩ : ∃ r, r = (gotF a.kind q.data.toList).getD zRep := ⟨_, rfl⟩
                    obtain ⟨ok, hok⟩ : ∃ ok, ok = (gotF a.kind q.data.toList).isSome := ⟨_, rfl⟩
                    have HG := got_any a.kind q.data.toList (dec_two HDR.out)
                    rw [← hr, ← hok, bs_list] at HG
                    obtain ⟨rc, hrc⟩ : ∃ rc, rc = r.cells := ⟨_, rfl⟩
                    rw [← hrc] at HG
                    have HG := Lib.hid HG
                    have rsz : rc.size = 11 := by rw [hrc]; rfl
                    have rone : rc.all (·.oneCell') = true := by rw [hrc]; exact oneReply _ _ _ _ _ _ _ _ _ _ _
                    have q6 : ∀ w', Below w6.heap.size w6 w' → w'.cell? ⟨w5.heap.size, 6, none⟩ = some (.int .i64 a.kind) := fun w' h => (HS7.out.grow h).cell 0 rfl rfl
                    have q2 : ∀ w', Below w6.heap.size w6 w' → w'.cell? ⟨w3.heap.size, 2, none⟩ = some (.slice (some ⟨b, o, none⟩) 2 c1) := fun w' h => (HS7.out.grow h).cell 1 rfl rfl
                    have q4 : ∀ w', Below w6.heap.size w6 w' → w'.cell? ⟨b, o + 4, none⟩ = some (.string q) := fun w' h => (HCELL.out w' (HS7.out.grow h).ag).2.2.2
                    have st2 : ∀ X : World, (storeCells ⟨X.heap.size, 0, none⟩ rc.toList 0).run Tryz.prog ((X.alloc (.cells zReply 37)).drew) = .ok () ((X.alloc (.cells rc 37)).drew) :=
                      fun X => run_storeCells_new (P := Tryz.prog) X.drew 37 zReply rc (by rw [rsz]; kernel_rfl) (by rw [rsz]; rfl) rone
                    have st3 : ∀ X : World, (storeCells ⟨X.heap.size, 0, none⟩ rc.toList 0).run Tryz.prog (X.alloc (.cells zReply 37)) = .ok () (X.alloc (.cells rc 37)) :=
                      fun X => run_storeCells_new (P := Tryz.prog) X 37 zReply rc (by rw [rsz]; kernel_rfl) (by rw [rsz]; rfl) rone
                    simp only [zReply, replyC] at st2 st3
                    have HR := Lib.hid hr
                    have HOK2 := Lib.hid hok
                    have HRC := Lib.hid hrc
                    clear hr hok hrc k0 hne
                    go_region_held3 (fun w' => Below w6.heap.size w6 w') (repeat (first | assumption | exact Below.refl _ _ | apply Below.drew | (refine Below.alloc ?_ (by first | exact Nat.le_refl _ | exact Below.size (by assumption) | simp) _))) (first
                      | (go_at_call 63; refine (HG.out _).mono ?_; rintro e w7 ⟨rfl, hb7⟩; have hblk := (hb7.block w6.heap.size (by simp)).trans (heap_alloc_new w6 _); have st4 := run_storeCells_from (P := Tryz.prog) w6.heap.size 37 rc.toList 0 zReply w7 hblk (by rw [Array.length_toList, rsz]; rfl) (fun v hv => (Array.all_eq_true_iff_forall_mem.1 rone) v (by simpa using hv)); have hb8 : Below w6.heap.size w6 w7 := ((Below.refl _ w6).alloc (Nat.le_refl _) _).drew.trans (hb7.mono (by simp)); have hb9 : Below w6.heap.size w6 (w7.setRow w6.heap.size rc) := below_setRow hb8 (Nat.le_refl _) rc; have HS8 := Lib.hid (((HS7.out.alloc' (.cells zReply 37) w6.heap.size rfl).drew.grow hb7).setRow 0 rfl rc))
                      | (go_at_call 63; refine (retFrom (W := w6) ?_ (HG.out _)).mono ?_; (first | assumption | exact (Below.refl _ _).drew); rintro e w7 ⟨rfl, hb7⟩; have HS8 := Lib.hid ((HS7.out.grow hb7).alloc' (.cells rc 37) w7.heap.size rfl)))
                    all_goals
                      first
                        | (obtain ⟨w9, hw9⟩ : ∃ w9, w9 = w7.setRow w6.heap.size rc := ⟨_, rfl⟩; rw [← hw9] at HS8 ⊢; clear hblk st4 hb8 hb9 hw9; obtain ⟨b9, hb9⟩ : ∃ b9, b9 = w6.heap.size := ⟨_, rfl⟩; rw [← hb9] at HS8 ⊢; clear hb9)
                        | (obtain ⟨w9, hw9⟩ : ∃ w9, w9 = w7.alloc (.cells rc 37) := ⟨_, rfl⟩; rw [← hw9] at HS8 ⊢; clear hw9; obtain ⟨b9, hb9⟩ : ∃ b9, b9 = w7.heap.size := ⟨_, rfl⟩; rw [← hb9] at HS8 ⊢; clear hb9)
                      have HS9 : Hid (St H0 w0 X H1 w9 (blk b9 (.cells (replyC r.id r.n r.a r.b r.c r.d r.code r.e r.f r.g r.h) 37) :: blk w5.heap.size (.cells (askC a.id a.addr a.a a.b a.c a.d a.kind) 45) :: blk w3.heap.size (itemO true ⟨#[]⟩ (.slice (some ⟨b, o, none⟩) 2 c1)) :: cliP (w.heap.size + 1) d (nilCli name K) :: own 9 1 (.slice (some ⟨g, 0, none⟩) L.length cap) L.length (strL L) :: diskP d D :: ps)) := by
                        have := HS8
                        rw [HRC.out] at this
                        exact this
                      clear HS8 HS7 q2 q4 q6 st2 st3 HG HCELL hb7
                      have k0 : w9.cell? ⟨b9, 0, none⟩ = some (.int .u64 r.id) := HS9.out.cell 0 rfl rfl
                      cases ok with
                      | false =>
                        go_wp2_with fail
                        go_roundw
                        case rel => exact ⟨n + 1, by go_num, by have := HN.out; omega, Lib.hid (by
                          rw [HSTEP.out, learn_rep HDEC.out HGA.out hid]
                          have h1 := HOK2.out
                          cases hg : gotF a.kind q.data.toList with
                          | none => exact ((((HS9.out.drop 0).drop 0).drop 0).less HL1.out HLE.out)
                          | some v => rw [hg] at h1; cases h1)⟩
                        case measure => simp [intOf]; have := HN.out; omega
                      | true =>
                        have HGF : Hid (gotF a.kind q.data.toList = some r) := Lib.hid (by
                          have h1 := HOK2.out
                          have h2 := HR.out
                          cases hg : gotF a.kind q.data.toList with
                          | none => rw [hg] at h1; cases h1
                          | some v => rw [hg] at h2; rw [h2]; rfl)
                        by_cases hid2 : r.id = 0
                        · have hne2 : (r.id == 0) = true := by rw [hid2]; rfl
                          obtain ⟨k', A3, n3, A4, n4, S9⟩ := openCli HS9.out 3 rfl
                          have c2 : w9.cell? ⟨w.heap.size + 1, 2, none⟩ = some (.map (some k')) := S9.cell 3 rfl rfl
                          have q0 : w9.cell? ⟨w5.heap.size, 0, none⟩ = some (.int .u64 a.id) := S9.cell 5 rfl rfl
                          have q1 : w9.cell? ⟨w5.heap.size, 1, none⟩ = some (.string a.addr) := S9.cell 5 rfl rfl
                          have q2 : w9.cell? ⟨w5.heap.size, 2, none⟩ = some (.int .u64 a.a) := S9.cell 5 rfl rfl
                          have q3 : w9.cell? ⟨w5.heap.size, 3, none⟩ = some (.int .u64 a.b) := S9.cell 5 rfl rfl
                          have q4 : w9.cell? ⟨w5.heap.size, 4, none⟩ = some (.int .u64 a.c) := S9.cell 5 rfl rfl
                          have q5 : w9.cell? ⟨w5.heap.size, 5, none⟩ = some (.int .u64 a.d) := S9.cell 5 rfl rfl
                          have q6 : w9.cell? ⟨w5.heap.size, 6, none⟩ = some (.int .i64 a.kind) := S9.cell 5 rfl rfl
                          have r0 : w9.cell? ⟨b9, 0, none⟩ = some (.int .u64 r.id) := S9.cell 4 rfl rfl
                          have r1 : w9.cell? ⟨b9, 1, none⟩ = some (.int .u64 r.n) := S9.cell 4 rfl rfl
                          have r2 : w9.cell? ⟨b9, 2, none⟩ = some (.int .u64 r.a) := S9.cell 4 rfl rfl
                          have r3 : w9.cell? ⟨b9, 3, none⟩ = some (.int .u64 r.b) := S9.cell 4 rfl rfl
                          have r4 : w9.cell? ⟨b9, 4, none⟩ = some (.int .u64 r.c) := S9.cell 4 rfl rfl
                          have r5 : w9.cell? ⟨b9, 5, none⟩ = some (.int .u64 r.d) := S9.cell 4 rfl rfl
                          have r6 : w9.cell? ⟨b9, 6, none⟩ = some (.string r.code) := S9.cell 4 rfl rfl
                          have r7 : w9.cell? ⟨b9, 7, none⟩ = some (.int .u64 r.e) := S9.cell 4 rfl rfl
                          have r8 : w9.cell? ⟨b9, 8, none⟩ = some (.int .u64 r.f) := S9.cell 4 rfl rfl
                          have r9 : w9.cell? ⟨b9, 9, none⟩ = some (.int .u64 r.g) := S9.cell 4 rfl rfl
                          have r10 : w9.cell? ⟨b9, 10, none⟩ = some (.int .u64 r.h) := S9.cell 4 rfl rfl
                          have HS10 := Lib.hid S9
                          have HI1 := Lib.hid hid
                          have HI2 := Lib.hid hid2
                          clear S9 HS9 k0 hid hid2
                          go_wp2_with fail
                          go_still_tail 6, (by kernel_rfl)
                          clear c2 q0 q1 q2 q3 q4 q5 q6 r0 r1 r2 r3 r4 r5 r6 r7 r8 r9 r10
                          have HS11 := Lib.hid HS10.out.drew
                          change wpList _ _ _ _ _ w9.drew
                          generalize w9.drew = w10 at HS11 ⊢
                          clear HS10
                          go_wp2_with (first
                            | (refine wpList_update_st 2 HS11.out rfl keyA Tryz.underlying117 a rfl (.tmp 95) (.tmp 96) (.tmp 97) rfl rfl rfl ?_)
                            | fail)
                          intro w11 S11
                          have HS12 : Hid (St H0 w0 X H1 w11 (mapP encA k' (repM (putR K a r)) :: ownO 9 1 (.slice A3 0 n3) 0 [] :: own 9 1 (.slice A4 0 n4) 0 [] :: blk (w.heap.size + 1) (cliO d k' (nilCli name K) (.slice A3 0 n3) (.slice A4 0 n4)) :: blk b9 (.cells (replyC r.id r.n r.a r.b r.c r.d r.code r.e r.f r.g r.h) 37) :: blk w5.heap.size (.cells (askC a.id a.addr a.a a.b a.c a.d a.kind) 45) :: blk w3.heap.size (itemO true ⟨#[]⟩ (.slice (some ⟨b, o, none⟩) 2 c1)) :: own 9 1 (.slice (some ⟨g, 0, none⟩) L.length cap) L.length (strL L) :: diskP d D :: ps)) := Lib.hid (by
                            rw [← repM_put]
                            exact S11)
                          clear S11 HS11
                          go_wp2_with fail
                          go_roundw
                          case rel => exact ⟨n + 1, by go_num, by have := HN.out; omega, Lib.hid (by
                            rw [HSTEP.out, learn_rep HDEC.out HGA.out HI1.out, HGF.out]
                            simp only
                            rw [if_pos HI2.out]
                            have S13 := ((HS12.out.drop 4).drop 4).drop 4
                            exact (shutCli (C := nilCli name (putR K a r)) ((S13.pick 2 rfl).pick 2 rfl)).less HL1.out HLE.out)⟩
                          case measure => simp [intOf]; have := HN.out; omega
                        · have hne2 : (r.id == 0) = false := by rw [beq_eq_false_iff_ne]; exact hid2
                          go_wp2_with fail
                          go_roundw
                          case rel => exact ⟨n + 1, by go_num, by have := HN.out; omega, Lib.hid (by
                            rw [HSTEP.out, learn_rep HDEC.out HGA.out hid, HGF.out]
                            simp only
                            rw [if_neg hid2]
                            exact (((HS9.out.drop 0).drop 0).drop 0).less HL1.out HLE.out)⟩
                          case measure => simp [intOf]; have := HN.out; omega
                  · have hne : (a.id != 0) = true := by rw [bne_iff_ne]; exact hid
                    go_wp2_with fail
                    go_roundw
                    case rel => exact ⟨n + 1, by go_num, by have := HN.out; omega, Lib.hid (by
                      rw [HSTEP.out, learn_askid HDEC.out HGA.out hid]
                      exact ((HS7.out.drop 0).drop 0).less HL1.out HLE.out)⟩
                    case measure => simp [intOf]; have := HN.out; omega
          · have hne : ((l.length : Int) != 2) = true := by rw [bne_iff_ne]; omega
            go_wp2_with fail
            go_roundw
            case rel => exact ⟨n + 1, by go_num, by have := HN.out; omega, Lib.hid (by
              rw [HSTEP.out, learn_len HDEC.out hl2]
              exact (HS5.out.drop 0).less HL1.out HLE.out)⟩
            case measure => simp [intOf]; have := HN.out; omega
      · have HS4 : Hid (St H0 w0 X H (w3.alloc (itemO false ⟨#[]⟩ (.slice none 0 0))) (blk w3.heap.size (itemO false ⟨#[]⟩ (.slice none 0 0)) :: cliP (w.heap.size + 1) d (nilCli name K) :: own 9 1 (.slice (some ⟨g, 0, none⟩) L.length cap) L.length (strL L) :: diskP d D :: ps)) := Lib.hid ((HI.out.more S3).alloc' _ w3.heap.size rfl)
        have HDEC := Lib.hid (decF_of hR)
        have hmn : (m != 0) = true := by rcases hm with rfl | rfl <;> rfl
        clear HI HDC hR hm S3 cs
        simp only [itemO] at HS4
        go_wp2_with (first
          | (refine wpList_store_st (cs := #[.bool false, .string ⟨#[]⟩, .slice none 0 0]) 0 HS4.out rfl rfl 123 (.tmp 8) (.tmp 30) rfl rfl rfl szItem rfl (oneItem _ _ _ _ _) ?_)
          | fail)
        intro w4 S4
        have HS5 := Lib.hid S4
        clear S4 HS4
        go_wp2_with fail
        go_roundw
        case rel => exact ⟨n + 1, by go_num, by have := HN.out; omega, Lib.hid (by
          rw [HSTEP.out, learn_none HDEC.out]
          exact HS5.out.drop 0)⟩
        case measure => simp [intOf]; have := HN.out; omega
    · obtain rfl : n = L.length := by omega
      have HR : Hid (St H0 w0 X H wr (cliP (w.heap.size + 1) d (newC D name) :: diskP d D :: ps)) := Lib.hid (by
        have := HI.out.drop 1
        rw [List.take_length] at this
        rw [HRES.out]
        exact this)
      clear HI hn hlt
      go_wp2_with fail
      go_ret
      exact ⟨_, rfl, HR.out⟩
end
end Go.Proofs.YtdnpobjokajigaaGreatDoor
