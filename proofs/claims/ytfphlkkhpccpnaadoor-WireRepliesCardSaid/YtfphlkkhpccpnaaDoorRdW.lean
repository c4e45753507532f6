/-
  The reader's walk.
-/
import Derived.Test.YtfphlkkhpccpnaaDoorRdI
import Derived.Deep.RegionWith
import Derived.Deep.RegionHeld3
namespace Go.Proofs.YtfphlkkhpccpnaaDoor
open Go.RowKit Go.Proofs K

def ItemR (o : Option (It × List UInt8)) (H0 H : Hs) (w0 : World) (X : Nat → Prop) (p : Nat) (qs : List Hp) (e : Ending) (w' : World) : Prop :=
  match o with
  | some (i, r) => ∃ x y z H', e = .returned (.agg #[x, y, z]) ∧ Le H H' ∧ RepL H' [x, y, z] i.d ∧ St H0 w0 X H' w' (blk p (rdO (bs r)) :: qs)
  | none => PanS H0 H w0 X qs e w'
def ItemQ (d : Nat) (l : List UInt8) (H0 H : Hs) (w0 : World) (X : Nat → Prop) (p : Nat) (qs : List Hp) (e : Ending) (w' : World) : Prop := ∃ o, RdI d l o ∧ ItemR o H0 H w0 X p qs e w'
/-- Reading an item of fewer than N bytes. -/
def ReadOk (N : Nat) : Prop := ∀ (l : List UInt8) (d : Nat) (H0 H : Hs) (w0 w : World) (X : Nat → Prop) (ps : List Hp) (p i : Nat), l.length < N → l.length ≤ 65536 → d ≤ 65 → St H0 w0 X H w ps → ps[i]? = some (blk p (rdO (bs l))) →
  Calls Tryd.prog 92 #[.pointer (some ⟨p, 0, none⟩), .int .i64 d] w (ItemQ d l H0 H w0 X p (ps.eraseIdx i))
section
variable {H0 H : Hs} {w0 w : World} {X : Nat → Prop} {ps : List Hp} {p : Nat}
theorem rd_deep (S : St H0 w0 X H w ps) (i : Nat) {l : List UInt8} (d : Nat) (hd : 64 < d) (hd2 : d ≤ 65) :
    Calls Tryd.prog 92 #[.pointer (some ⟨p, 0, none⟩), .int .i64 d] w (ItemQ d l H0 H w0 X p (ps.eraseIdx i)) := by
  have hdd : decide ((d : Int) ≤ 64) = false := by simp; omega
  have HS := Lib.hid ((S.alloc (.cells #[.bool false, .string ⟨#[]⟩, .slice none 0 0] 76)).drop 0)
  have HD := Lib.hid hd
  clear S hd
  go_enter Tryd.func92, Tryd.ntmps92
  go_wp2_with fail
  refine (need_no _).mono ?_
  rintro e w1 ⟨rfl, rfl⟩
  go_wp2_with fail
  exact bodyPost_pan rfl ⟨none, .deep HD.out, rfl, HS.out.drop i⟩
theorem rd_nil (S : St H0 w0 X H w ps) (i : Nat) (hi : ps[i]? = some (blk p (rdO (bs [])))) (d : Nat) (hd : d ≤ 64) :
    Calls Tryd.prog 92 #[.pointer (some ⟨p, 0, none⟩), .int .i64 d] w (ItemQ d [] H0 H w0 X p (ps.eraseIdx i)) := by
  have hdd : decide ((d : Int) ≤ 64) = true := by simp; omega
  have HS := Lib.hid (S.alloc (.cells #[.bool false, .string ⟨#[]⟩, .slice none 0 0] 76))
  have HI := Lib.hid hi
  clear S hd hi
  go_enter Tryd.func92, Tryd.ntmps92
  go_wp2_with fail
  refine (need_yes _).mono ?_
  rintro e w1 ⟨rfl, rfl⟩
  go_wp2_with fail
  refine (take_bs_no HS.out (i + 1) HI.out 1 (by simp)).mono ?_
  rintro e w1 ⟨rfl, S1⟩
  go_wp2_with fail
  exact bodyPost_pan rfl ⟨none, .nil, rfl, S1.drop 0⟩
set_option maxRecDepth 100000 in
theorem rd_one (S : St H0 w0 X H w ps) (i : Nat) {b : UInt8} {r : List UInt8} (hi : ps[i]? = some (blk p (rdO (bs (b :: r))))) (d : Nat) (hd : d ≤ 64) (hb : b.toNat < 128) :
    Calls Tryd.prog 92 #[.pointer (some ⟨p, 0, none⟩), .int .i64 d] w (ItemQ d (b :: r) H0 H w0 X p (ps.eraseIdx i)) := by
  have hdd : decide ((d : Int) ≤ 64) = true := by simp; omega
  have hb2 : (b.toNat : Int) < 128 := by omega
  have HS := Lib.hid (S.alloc (.cells #[.bool false, .string ⟨#[]⟩, .slice none 0 0] 76))
  have HI := Lib.hid hi
  have HD := Lib.hid (And.intro hd hb)
  clear S hd hi hb
  go_enter Tryd.func92, Tryd.ntmps92
  go_wp2_with fail
  refine (need_yes _).mono ?_
  rintro e w1 ⟨rfl, rfl⟩
  go_wp2_with fail
  refine (take_bs HS.out (i + 1) HI.out 1 (by simp)).mono ?_
  rintro e w1 ⟨rfl, S1⟩
  have HS1 : Hid (St H0 w0 X H w1 (blk p (rdO (bs r)) :: blk w.heap.size (.cells #[.bool false, .string ⟨#[]⟩, .slice none 0 0] 76) :: ps.eraseIdx i)) := S1
  obtain ⟨f, hf, h0, hf0⟩ : ∃ f : ByteArray, f = bs ((b :: r).take 1) ∧ ∃ h : 0 < f.size, f[0] = b := ⟨_, rfl, by rw [bs_size]; simp, rfl⟩
  rw [← hf]
  have HF := Lib.hid hf
  have h256 : (b.toNat : Int) < 256 := by have := b.toNat_lt; omega
  clear S1 HS hf
  go_wp2_with fail
  refine (text_any _ _).mono ?_
  rintro e w2 ⟨rfl, hb2⟩
  have HS2 := Lib.hid (HS1.out.grow hb2)
  clear hb2 HS1
  go_wp2_with (first
    | (refine wpList_store_st (cs := #[.bool false, .string f, .slice none 0 0]) 1 HS2.out rfl rfl 76 (.tmp 4) (.tmp 22) rfl rfl rfl szItem rfl (oneItem _ _ _ _ _) ?_)
    | fail)
  intro w4 S4
  go_wp2_with fail
  exact post_cell 0 S4 rfl Tryd.results92 rfl _ Tryd.underlying76 rfl szItem rfl ⟨_, .one HD.out.1 HD.out.2, _, _, _, H, rfl, Le.refl _, by rw [HF.out]; unfold It.d; exact .cons (.pl rfl) (.cons (.pl rfl) (.cons (.sl (Nat.le_refl _) (fun _ => rfl) rfl (.inl rfl) .nil) .nil)), S4.drop 0⟩
set_option maxRecDepth 100000 in
theorem rd_text (S : St H0 w0 X H w ps) (i : Nat) {b : UInt8} {r : List UInt8} (hi : ps[i]? = some (blk p (rdO (bs (b :: r))))) (d : Nat) (hd : d ≤ 64) (hb : 128 ≤ b.toNat ∧ b.toNat < 192) :
    Calls Tryd.prog 92 #[.pointer (some ⟨p, 0, none⟩), .int .i64 d] w (ItemQ d (b :: r) H0 H w0 X p (ps.eraseIdx i)) := by
  have hdd : decide ((d : Int) ≤ 64) = true := by simp; omega
  have hb2 : ¬ (b.toNat : Int) < 128 := by omega
  have hb3 : (b.toNat : Int) < 192 := by omega
  have hsub : (b.toNat : Int) - 128 = ((b.toNat - 128 : Nat) : Int) := by omega
  have h64 : b.toNat - 128 ≤ 64 := by omega
  have HS := Lib.hid (S.alloc (.cells #[.bool false, .string ⟨#[]⟩, .slice none 0 0] 76))
  have HI := Lib.hid hi
  have HD := Lib.hid (And.intro hd hb)
  clear S hd hi hb
  go_enter Tryd.func92, Tryd.ntmps92
  go_wp2_with fail
  refine (need_yes _).mono ?_
  rintro e w1 ⟨rfl, rfl⟩
  go_wp2_with fail
  refine (take_bs HS.out (i + 1) HI.out 1 (by simp)).mono ?_
  rintro e w1 ⟨rfl, S1⟩
  have HS1 : Hid (St H0 w0 X H w1 (blk p (rdO (bs r)) :: blk w.heap.size (.cells #[.bool false, .string ⟨#[]⟩, .slice none 0 0] 76) :: ps.eraseIdx i)) := S1
  obtain ⟨f, hf, h0, hf0⟩ : ∃ f : ByteArray, f = bs ((b :: r).take 1) ∧ ∃ h : 0 < f.size, f[0] = b := ⟨_, rfl, by rw [bs_size]; simp, rfl⟩
  rw [← hf]
  have HF := Lib.hid hf
  have h256 : (b.toNat : Int) < 256 := by have := b.toNat_lt; omega
  clear S1 HS hf
  go_wp2_with fail
  refine (many_any HS1.out 0 rfl (b.toNat - 128) h64).mono ?_
  intro e w2 hM
  cases hm : manyL (b.toNat - 128) r with
  | none =>
    rw [hm] at hM
    obtain ⟨rfl, S2⟩ := hM
    have HM := Lib.hid hm
    clear hm
    go_wp2_with fail
    exact bodyPost_pan rfl ⟨none, .many HD.out.2.1 HD.out.2.2 HM.out, rfl, S2.drop 0⟩
  | some q =>
    obtain ⟨n, r2⟩ := q
    rw [hm] at hM
    obtain ⟨rfl, S2⟩ := hM
    have HM := Lib.hid hm
    have HS2 : Hid (St H0 w0 X H w2 (blk p (rdO (bs r2)) :: blk w.heap.size (.cells #[.bool false, .string ⟨#[]⟩, .slice none 0 0] 76) :: ps.eraseIdx i)) := S2
    clear S2 HS1 hm hsub
    by_cases hn : n ≤ r2.length
    · have HN := Lib.hid hn
      clear hn
      go_wp2_with fail
      refine (take_bs HS2.out 0 rfl n HN.out).mono ?_
      rintro e w3 ⟨rfl, S3⟩
      have HS3 : Hid (St H0 w0 X H w3 (blk p (rdO (bs (r2.drop n))) :: blk w.heap.size (.cells #[.bool false, .string ⟨#[]⟩, .slice none 0 0] 76) :: ps.eraseIdx i)) := S3
      clear S3 HS2
      obtain ⟨t, ht⟩ : ∃ t, t = bs (r2.take n) := ⟨_, rfl⟩
      rw [← ht]
      have HT := Lib.hid ht
      clear ht
      by_cases hbad : t.size = 1 ∧ (∃ h : 0 < t.size, t[0].toNat < 128) ∧ b.toNat = 129
      · obtain ⟨h1, ⟨h0t, hlt⟩, h129⟩ := hbad
        have e1 : ((t.size : Int) != 1) = false := by rw [bne_eq_false_iff_eq]; omega
        have e2 : decide ((128 : Int) ≤ (t[0].toNat : Int)) = false := by simp; omega
        have e3 : ((b.toNat : Int) != 129) = false := by rw [bne_eq_false_iff_eq]; omega
        have HBAD := Lib.hid (And.intro h1 (And.intro hlt h129))
        have hlt' : (t[0].toNat : Int) < 128 := by omega
        clear h1 hlt h129
        go_wp2_with fail
        refine (need_no _).mono ?_
        rintro e w4 ⟨rfl, rfl⟩
        go_wp2_with fail
        refine bodyPost_pan rfl ⟨none, ?_, rfl, (HS3.out.drop 0).drop 0⟩
        obtain ⟨h1, hlt, h129⟩ := HBAD.out
        obtain ⟨c, hc⟩ : ∃ c, r2.take n = [c] := List.length_eq_one_iff.1 (by rw [← bs_size, ← HT.out]; exact h1)
        have htc : t = bs [c] := by rw [HT.out, hc]
        subst htc
        exact .bad h129 HM.out HN.out hc hlt
      · have HRD : Hid (RdI d (b :: r) (some (.text t, r2.drop n))) := by
          rw [HT.out]
          refine .text HD.out.1 HD.out.2.1 HD.out.2.2 HM.out HN.out ?_
          intro c hc hlt h129
          refine hbad ⟨by rw [HT.out, bs_size, hc]; rfl, ⟨by rw [HT.out, bs_size, hc]; simp, ?_⟩, h129⟩
          have htc : t = bs [c] := by rw [HT.out, hc]
          subst htc
          exact hlt
        have HG := Lib.hid hbad
        clear hbad
        by_cases h1 : t.size = 1
        · have h0t : 0 < t.size := by omega
          have e1 : ((t.size : Int) != 1) = false := by rw [bne_eq_false_iff_eq]; omega
          by_cases hlt : t[0].toNat < 128
          · have hlt' : (t[0].toNat : Int) < 128 := by omega
            have e3 : ((b.toNat : Int) != 129) = true := by rw [bne_iff_ne]; intro h; exact HG.out ⟨h1, ⟨h0t, hlt⟩, by omega⟩
            clear h1 hlt HG
            go_wp2_with fail
            refine (need_yes _).mono ?_
            rintro e w4 ⟨rfl, rfl⟩
            go_wp2_with fail
            refine (text_any _ _).mono ?_
            rintro e w5 ⟨rfl, hb5⟩
            have HS5 := Lib.hid (HS3.out.grow hb5)
            clear hb5 HS3
            go_wp2_with (first
              | (refine wpList_store_st (cs := #[.bool false, .string t, .slice none 0 0]) 1 HS5.out rfl rfl 76 (.tmp 4) (.tmp 46) rfl rfl rfl szItem rfl (oneItem _ _ _ _ _) ?_)
              | fail)
            intro w6 S6
            go_wp2_with fail
            exact post_cell 0 S6 rfl Tryd.results92 rfl _ Tryd.underlying76 rfl szItem rfl ⟨_, HRD.out, _, _, _, H, rfl, Le.refl _, by unfold It.d; exact .cons (.pl rfl) (.cons (.pl rfl) (.cons (.sl (Nat.le_refl _) (fun _ => rfl) rfl (.inl rfl) .nil) .nil)), S6.drop 0⟩
          · have hlt' : ¬ (t[0].toNat : Int) < 128 := by omega
            clear h1 hlt HG
            go_wp2_with fail
            refine (need_yes _).mono ?_
            rintro e w4 ⟨rfl, rfl⟩
            go_wp2_with fail
            refine (text_any _ _).mono ?_
            rintro e w5 ⟨rfl, hb5⟩
            have HS5 := Lib.hid (HS3.out.grow hb5)
            clear hb5 HS3
            go_wp2_with (first
              | (refine wpList_store_st (cs := #[.bool false, .string t, .slice none 0 0]) 1 HS5.out rfl rfl 76 (.tmp 4) (.tmp 46) rfl rfl rfl szItem rfl (oneItem _ _ _ _ _) ?_)
              | fail)
            intro w6 S6
            go_wp2_with fail
            exact post_cell 0 S6 rfl Tryd.results92 rfl _ Tryd.underlying76 rfl szItem rfl ⟨_, HRD.out, _, _, _, H, rfl, Le.refl _, by unfold It.d; exact .cons (.pl rfl) (.cons (.pl rfl) (.cons (.sl (Nat.le_refl _) (fun _ => rfl) rfl (.inl rfl) .nil) .nil)), S6.drop 0⟩
        · have e1 : ((t.size : Int) != 1) = true := by rw [bne_iff_ne]; omega
          clear h1 HG
          go_wp2_with fail
          refine (need_yes _).mono ?_
          rintro e w4 ⟨rfl, rfl⟩
          go_wp2_with fail
          refine (text_any _ _).mono ?_
          rintro e w5 ⟨rfl, hb5⟩
          have HS5 := Lib.hid (HS3.out.grow hb5)
          clear hb5 HS3
          go_wp2_with (first
            | (refine wpList_store_st (cs := #[.bool false, .string t, .slice none 0 0]) 1 HS5.out rfl rfl 76 (.tmp 4) (.tmp 46) rfl rfl rfl szItem rfl (oneItem _ _ _ _ _) ?_)
            | fail)
          intro w6 S6
          go_wp2_with fail
          exact post_cell 0 S6 rfl Tryd.results92 rfl _ Tryd.underlying76 rfl szItem rfl ⟨_, HRD.out, _, _, _, H, rfl, Le.refl _, by unfold It.d; exact .cons (.pl rfl) (.cons (.pl rfl) (.cons (.sl (Nat.le_refl _) (fun _ => rfl) rfl (.inl rfl) .nil) .nil)), S6.drop 0⟩
    · have HN := Lib.hid hn
      clear hn
      go_wp2_with fail
      refine (take_bs_no HS2.out 0 rfl n (Nat.lt_of_not_le HN.out)).mono ?_
      rintro e w3 ⟨rfl, S3⟩
      go_wp2_with fail
      exact bodyPost_pan rfl ⟨none, .cut HD.out.2.1 HD.out.2.2 HM.out (Nat.lt_of_not_le HN.out), rfl, S3.drop 0⟩
end
end Go.Proofs.YtfphlkkhpccpnaaDoor
