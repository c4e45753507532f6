/-
  Records: Add.
  Clients over a disk, plain: what is laid down, what is asked, what is there anew.
  Clients: keep.
  Clients: what a reply's closure tells.
  Clients: ask, of an account.
-/
import Derived.Test.YtdnpobjokajigaaGreatDoorPart13
import Derived.Test.YtdnpobjokajigaaGreatDoorPart11
import Derived.Test.YtdnpobjokajigaaGreatDoorTry
import Derived.Deep.RegionHeld3
import Derived.BigRegion
import Derived.StillTailTactics
namespace Go.Proofs.YtdnpobjokajigaaGreatDoor
open Go.RowKit Go.Proofs K
set_option linter.unusedVariables false
theorem frameB_size (s : ByteArray) : (frameB s).size = 8 + s.size := by
  unfold frameB
  rw [ByteArray.size_append, ByteArray.size_append, fourS_size, fourS_size]
section
variable {H0 H : Hs} {w0 w : World} {X : Nat → Prop} {ps : List Hp}
set_option maxRecDepth 100000 in
set_option maxHeartbeats 2000000 in
theorem addR_any {d : Nat} {D : Dk} (S : St H0 w0 X H w ps) (i : Nat) (hi : ps[i]? = some (diskP d D)) (hD : D.ok) (n s : ByteArray) (hs : s.size ≤ 140737488355328) :
    Calls Tryz.prog 177 #[.pointer (some ⟨d, 0, none⟩), .string n, .string s] w (RetS (.int .i64 (addD D n s).1) H0 H w0 X (diskP d (addD D n s).2 :: ps.eraseIdx i)) := by
  have HS := Lib.hid ((((S.pick i hi).alloc' (boxD d) w.heap.size rfl).alloc' (boxS n) (w.heap.size + 1) (by simp)))
  have HF := Lib.hid (frame_any s hs)
  have HD := Lib.hid hD
  have hmf : ∀ (fn : Fn) (first cap : Array Value) (w : World), (Instr.makeFunc fn first cap).run Tryz.prog w = .ok (.func fn first cap) w := fun _ _ _ _ => rfl
  clear S hs hD
  by_cases h : s.size ≤ 65536
  · rw [if_pos h, decide_eq_true h] at HF
    obtain ⟨f, hf⟩ : ∃ f, f = frameB s := ⟨_, rfl⟩
    have hfs : f.size ≤ 1048576 := by rw [hf, frameB_size]; omega
    rw [← hf] at HF
    have HP : Hid (addD D n s = untilR D n f) := Lib.hid (by unfold addD untilR; rw [if_neg (by omega), ← hf])
    have HFS := Lib.hid hfs
    clear hfs hf h
    go_enter Tryz.func177, Tryz.ntmps177
    go_wp2_with fail
    refine (HF.out _).mono ?_
    rintro e w1 ⟨rfl, hb1⟩
    have HS1 : Hid (St H0 w0 X H w1 (blk (w.heap.size + 1) (boxS n) :: blk w.heap.size (boxD d) :: diskP d D :: ps.eraseIdx i)) := Lib.hid (HS.out.grow hb1)
    obtain ⟨b7, h7⟩ : ∃ b7, b7 = w1.heap.size := ⟨_, rfl⟩
    have HS2 := Lib.hid ((((HS1.out.alloc' (boxS f) b7 h7).alloc' (fnsO w.heap.size (w.heap.size + 1) b7) (b7 + 1) (by simp [h7])).pick 4 rfl))
    clear hb1 HS
    subst h7
    have HC := Lib.hid (until_any HS2.out HD.out HFS.out)
    clear HS2
    go_wp2_with fail
    refine HC.out.mono ?_
    rintro e w2 ⟨rfl, S3⟩
    have HS3 := Lib.hid S3
    clear S3 HC
    go_wp2_with fail
    go_ret
    rw [HP.out]
    exact ⟨rfl, (((HS3.out.drop 1).drop 1).drop 1).drop 1⟩
  · rw [if_neg h, decide_eq_false h] at HF
    have HP : Hid (addD D n s = (3, D)) := Lib.hid (by unfold addD; rw [if_pos (by omega)])
    clear h
    go_enter Tryz.func177, Tryz.ntmps177
    go_wp2_with fail
    refine (HF.out _).mono ?_
    rintro e w1 ⟨rfl, hb1⟩
    have HS1 := Lib.hid (HS.out.grow hb1)
    obtain ⟨b7, h7⟩ : ∃ b7, b7 = w1.heap.size := ⟨_, rfl⟩
    have HS2 := Lib.hid (HS1.out.alloc' (boxS ⟨#[]⟩) b7 h7)
    clear hb1 HS
    go_wp2_with fail
    go_ret
    rw [HP.out]
    exact ⟨rfl, ((HS2.out.drop 0).drop 0).drop 0⟩
end
end Go.Proofs.YtdnpobjokajigaaGreatDoor

namespace Go.Proofs.YtdnpobjokajigaaGreatDoor
open Go.RowKit Go.Proofs K
set_option linter.unusedVariables false

theorem AskS.put_size (x : AskS) (n : Int) : (x.put n).size ≤ 65536 := by
  unfold AskS.put
  by_cases h : AskOk n x.addr x.a x.b x.c x.d x.kind
  · rw [putAskR_ok h]
    have := askTs_len (id := n) (a := x.a) (b := x.b) (c := x.c) (d := x.d) (kind := x.kind) h.1
    rw [sizeL] at this
    exact this
  · rw [putAskR_no h]
    exact Nat.zero_le _
theorem replyB_size (ts : List ByteArray) (h : (putL ts).data.toList.length ≤ 65536) : (replyB ts).size ≤ 65540 := by
  unfold replyB
  rw [sizeL] at h
  rw [ByteArray.size_append, sumS_size]
  omega
theorem ReplyS.put_size (r : ReplyS) (k : Int) : (r.put k).size ≤ 65540 := by
  unfold ReplyS.put putReplyR
  split
  · exact Nat.zero_le _
  · rename_i hc
    split
    · split
      · exact replyB_size _ (one_len (by omega))
      · exact Nat.zero_le _
    · split
      · split
        · exact replyB_size _ two_len
        · exact Nat.zero_le _
      · exact Nat.zero_le _
/-- What is laid down of an ask and its reply. -/
def recB (x : AskS) (r : ReplyS) : ByteArray := putL [x.put x.id, r.put x.kind]
theorem rec_small (x : AskS) (r : ReplyS) : ∀ s ∈ [x.put x.id, r.put x.kind], s.size ≤ 100000 := by
  intro s hs
  simp only [List.mem_cons, List.not_mem_nil, or_false] at hs
  rcases hs with rfl | rfl
  · exact Nat.le_trans (AskS.put_size _ _) (by decide)
  · exact Nat.le_trans (ReplyS.put_size _ _) (by decide)
theorem recB_size (x : AskS) (r : ReplyS) : (recB x r).size ≤ 2000000 := putL_size (by simp) (rec_small x r)
/-- What is asked and told: what is told, the error, the client, the disk. -/
structure Told where
  out : Option ReplyS
  err : Int
  c : Cl
  d : Dk
def ReplyS.zeroId (r : ReplyS) : ReplyS := { r with id := 0 }
def Cl.learn (C : Cl) (x : AskS) (r : ReplyS) : Cl := { C with known := putR C.known x r }
def askN : Nat → Cl → Dk → AskS → Told
  | 0, C, D, _ => ⟨none, 4, C, D⟩
  | n + 1, C, D, x =>
    if (C.try x).1.2 = true then
      (if (addD D C.name (recB x (C.try x).1.1.zeroId)).1 = 0 then ⟨some (C.try x).1.1.zeroId, 0, (C.try x).2.learn x (C.try x).1.1.zeroId, (addD D C.name (recB x (C.try x).1.1.zeroId)).2⟩
      else ⟨none, (addD D C.name (recB x (C.try x).1.1.zeroId)).1, (C.try x).2, (addD D C.name (recB x (C.try x).1.1.zeroId)).2⟩)
    else askN n (C.try x).2 D x
theorem askN_succ (n : Nat) (C : Cl) (D : Dk) (x : AskS) : askN (n + 1) C D x = if (C.try x).1.2 = true then
      (if (addD D C.name (recB x (C.try x).1.1.zeroId)).1 = 0 then ⟨some (C.try x).1.1.zeroId, 0, (C.try x).2.learn x (C.try x).1.1.zeroId, (addD D C.name (recB x (C.try x).1.1.zeroId)).2⟩
      else ⟨none, (addD D C.name (recB x (C.try x).1.1.zeroId)).1, (C.try x).2, (addD D C.name (recB x (C.try x).1.1.zeroId)).2⟩)
    else askN n (C.try x).2 D x := rfl
def askF0 (C : Cl) (D : Dk) (x : AskS) : Told :=
  if x.addr.size ≠ 20 then ⟨none, 1, C, D⟩ else match lookR C.known x with | some r => ⟨some r, 0, C, D⟩ | none => askN 3 C D x
theorem try_name (C : Cl) (x : AskS) : (C.try x).2.name = C.name ∧ (C.try x).2.known = C.known ∧ (C.try x).2.next = C.next + 1 ∧ (C.try x).2.asked.length = C.asked.length + 1 ∧ ∀ s ∈ (C.try x).2.script, s ∈ C.script := by
  unfold Cl.try
  split
  · rename_i h
    exact ⟨rfl, rfl, rfl, by simp, fun s hs => by simpa using hs⟩
  · rename_i h
    exact ⟨rfl, rfl, rfl, by simp, fun s hs => by rw [h]; exact List.mem_cons_of_mem _ hs⟩
/-- What a file's texts tell. -/
def learnOne (K : List (AskS × ReplyS)) (s : List UInt8) : List (AskS × ReplyS) :=
  match decF s with
  | some (.list [.text p, .text q]) =>
    match gotA p.data.toList with
    | some a => if a.id = 0 then (match gotF a.kind q.data.toList with | some r => if r.id = 0 then putR K a r else K | none => K) else K
    | none => K
  | _ => K
def learnL (K : List (AskS × ReplyS)) (l : List (List UInt8)) : List (AskS × ReplyS) := l.foldl learnOne K
def newC (D : Dk) (name : ByteArray) : Cl := ⟨name, learnL [] (framesL ((readF D.files name).getD [])), [], [], 1⟩
end Go.Proofs.YtdnpobjokajigaaGreatDoor

namespace Go.Proofs.YtdnpobjokajigaaGreatDoor
open Go.RowKit Go.Proofs K
set_option linter.unusedVariables false

def texts2 (p q : ByteArray) : Array Value := #[.bool false, .string p, .slice none 0 0, .bool false, .string q, .slice none 0 0]
theorem two_rep (w : World) (p q : ByteArray) : RepV (allOf (w.alloc (.cells (texts2 p q) 123))) (.slice (some ⟨w.heap.size, 0, none⟩) 2 2) (.sl 3 2 (itsD ([p, q].map It.text))) :=
  .sl (cs := textsC [p, q]) (Nat.le_refl _) (fun e => by cases e) (by rw [itsD_length]; rfl) (.inr ⟨w.heap.size, 0, texts2 p q, _, _, rfl, heap_alloc_new w _, fun j u hu => by
    rw [Nat.zero_add]
    rw [← hu]
    show _ = (texts2 p q).toList[j]?
    simp⟩) (texts_rep _ [p, q])
section
variable {H0 H : Hs} {w0 w : World} {X : Nat → Prop} {ps : List Hp}
set_option maxRecDepth 100000 in
set_option maxHeartbeats 8000000 in
theorem keep_any {c d : Nat} {C : Cl} {D : Dk} (S : St H0 w0 X H w (cliP c d C :: diskP d D :: ps)) (hD : D.ok) (x : AskS) (r : ReplyS) :
    Calls Tryz.prog 135 #[.pointer (some ⟨c, 0, none⟩), .agg (askC x.id x.addr x.a x.b x.c x.d x.kind), .agg (replyC r.id r.n r.a r.b r.c r.d r.code r.e r.f r.g r.h)] w (RetS (.int .i64 (addD D C.name (recB x r)).1) H0 H w0 X (cliP c d C :: diskP d (addD D C.name (recB x r)).2 :: ps)) := by
  obtain ⟨k, A1, n1, A2, n2, S1⟩ := openCli S 0 rfl
  obtain ⟨W, hW⟩ : ∃ W, W = (w.alloc (.cells (askC x.id x.addr x.a x.b x.c x.d x.kind) 45)).alloc (.cells (replyC r.id r.n r.a r.b r.c r.d r.code r.e r.f r.g r.h) 37) := ⟨_, rfl⟩
  have HS : Hid (St H0 w0 X H W (blk (w.heap.size + 1) (.cells (replyC r.id r.n r.a r.b r.c r.d r.code r.e r.f r.g r.h) 37) :: blk w.heap.size (.cells (askC x.id x.addr x.a x.b x.c x.d x.kind) 45) :: ownO 9 1 (.slice A1 C.script.length n1) C.script.length (strS C.script) :: own 9 1 (.slice A2 C.asked.length n2) C.asked.length (strS C.asked) :: mapP encA k (repM C.known) :: blk c (cliO d k C (.slice A1 C.script.length n1) (.slice A2 C.asked.length n2)) :: diskP d D :: ps)) := by
    rw [hW]
    exact Lib.hid ((S1.alloc' _ w.heap.size rfl).alloc' _ (w.heap.size + 1) (by simp))
  have HW := Lib.hid hW
  have HD := Lib.hid hD
  have a3 : W.cell? ⟨w.heap.size, 6, none⟩ = some (.int .i64 x.kind) := HS.out.cell 1 rfl rfl
  clear S S1 hW hD
  go_enter Tryz.func135, Tryz.ntmps135
  go_upto_region 1 with (fail)
  rw [← HW.out]
  go_wp2_with (first
    | (refine wpList_load_st (cs := askC x.id x.addr x.a x.b x.c x.d x.kind) 1 HS.out rfl rfl 45 (.tmp 4) rfl rfl _ Tryz.underlying45 rfl szAsk ?_)
    | fail)
  refine (putAsk_all _ _ _ _ _ _ _ _).mono ?_
  rintro e w3 ⟨rfl, hb3⟩
  obtain ⟨one, hone⟩ : ∃ one, one = x.put x.id := ⟨_, rfl⟩
  rw [show (putAskR x.id x.addr x.a x.b x.c x.d x.kind).1 = one from hone.symm]
  have HONE := Lib.hid hone
  have HS3 := Lib.hid (HS.out.grow hb3)
  clear hb3 HS hone a3 HW
  have a3 : w3.cell? ⟨w.heap.size, 6, none⟩ = some (.int .i64 x.kind) := HS3.out.cell 1 rfl rfl
  go_wp2_with (first
    | (refine wpList_load_st (cs := replyC r.id r.n r.a r.b r.c r.d r.code r.e r.f r.g r.h) 0 HS3.out rfl rfl 37 (.tmp 5) rfl rfl _ Tryz.underlying37 rfl szReply ?_)
    | fail)
  refine (putReply_all _ _ _ _ _ _ _ _ _ _ _ _ _).mono ?_
  rintro e w4 ⟨rfl, hb4⟩
  obtain ⟨two, htwo⟩ : ∃ two, two = r.put x.kind := ⟨_, rfl⟩
  rw [show (putReplyR x.kind r.id r.n r.a r.b r.c r.d r.code r.e r.f r.g r.h).1 = two from htwo.symm]
  have HTWO := Lib.hid htwo
  have HS4 := Lib.hid (HS3.out.grow hb4)
  clear hb4 HS3 htwo a3
  have c0 : w4.cell? ⟨c, 0, none⟩ = some (.pointer (some ⟨d, 0, none⟩)) := HS4.out.cell 5 rfl rfl
  have c1 : w4.cell? ⟨c, 1, none⟩ = some (.string C.name) := HS4.out.cell 5 rfl rfl
  have HSM : Hid (∀ s ∈ [one, two], s.size ≤ 100000) := Lib.hid (by rw [HONE.out, HTWO.out]; exact rec_small x r)
  obtain ⟨rb, hrb⟩ : ∃ rb, rb = recB x r := ⟨_, rfl⟩
  have HRB := Lib.hid hrb
  have HRB2 : Hid ((It.list ([one, two].map It.text)).bytes = rb) := Lib.hid (by rw [hrb, HONE.out, HTWO.out]; rfl)
  clear hrb
  go_wp2_with fail
  go_region_held3 (fun w' => w'.cell? ⟨c, 0, none⟩ = some (.pointer (some ⟨d, 0, none⟩)) ∧ w'.cell? ⟨c, 1, none⟩ = some (.string C.name)) (first
    | exact ⟨by assumption, by assumption⟩
    | (refine ⟨cell_later (?_ : Below w4.heap.size w4 _) c0, cell_later (?_ : Below w4.heap.size w4 _) c1⟩ <;> (repeat (first | assumption | exact Below.refl _ _ | apply Below.drew | (refine Below.alloc ?_ (by first | exact Nat.le_refl _ | exact Below.size (by assumption) | simp) _)))))
    (first
    | (go_at_call 66; refine (retFrom (W := w4) ?_ (text_any _ _)).mono ?_; (first | assumption | exact (Below.refl _ _).drew); rintro e w5 ⟨rfl, hb5⟩)
    | (go_at_call 67; refine (encode_any (.list ([one, two].map It.text)) (put_short (by simp)) (put_len (by simp) HSM.out) S6.ag _ _ _ hr5).mono ?_; rintro e w7 ⟨rfl, hb7⟩; rw [HRB2.out]; have hb8 : Below w4.heap.size w4 w7 := hb6.trans (hb7.mono (Below.size hb6)))
    | (go_at_call 177; refine (addR_any (HS4.out.grow hb8) 6 rfl HD.out C.name rb (by rw [HRB.out]; exact Nat.le_trans (recB_size x r) (by decide))).mono ?_; rintro e w9 ⟨rfl, S9⟩; have k0 : w9.cell? ⟨c, 0, none⟩ = some (.pointer (some ⟨d, 0, none⟩)) := S9.cell 6 rfl rfl; have k1 : w9.cell? ⟨c, 1, none⟩ = some (.string C.name) := S9.cell 6 rfl rfl)
    | (go_at_call 68; refine (list_any ([one, two].map It.text) (ag_allOf _) _ (two_rep _ _ _) (by simp)).mono ?_; rintro e w6 ⟨A5, c5, H5, rfl, hr5, S6⟩; have hb6 : Below w4.heap.size w4 w6 := (hb5.alloc (Below.size hb5) _).trans (S6.below.mono (Nat.le_trans (Below.size hb5) (by simp)))))
  have HS9 := Lib.hid S9
  clear S9 k0 k1 c0 c1 HS4 hb5 hb6 hb7 hb8 S6 hr5
  go_wp2_with fail
  go_ret
  rw [← HRB.out]
  have S10 := ((HS9.out.drop 1).drop 1)
  exact ⟨rfl, shutCli ((((S10.pick 4 rfl).pick 4 rfl).pick 4 rfl).pick 4 rfl)⟩
end
end Go.Proofs.YtdnpobjokajigaaGreatDoor

namespace Go.Proofs.YtdnpobjokajigaaGreatDoor
open Go.RowKit Go.Proofs K
set_option linter.unusedVariables false
theorem szWord4 : (Tryz.prog.info? 24).map (·.size) = some 4 := by kernel_rfl
def wrdC (a b c d : Int) : Array Value := #[.int .u64 a, .int .u64 b, .int .u64 c, .int .u64 d]
theorem oneWrd (a b c d : Int) : (wrdC a b c d).all (·.oneCell') = true := by simp [wrdC, Value.oneCell']
def ReplyS.acc (r : ReplyS) : Array Value := accC r.n r.a r.b r.c r.d r.code
def ReplyS.val (r : ReplyS) : Array Value := wrdC r.e r.f r.g r.h
section
variable {H0 H : Hs} {w0 w : World} {X : Nat → Prop} {ps : List Hp}
set_option maxRecDepth 100000 in
set_option maxHeartbeats 4000000 in
theorem accOf_any (r : ReplyS) (w : World) : Calls Tryz.prog 71 #[.agg (replyC r.id r.n r.a r.b r.c r.d r.code r.e r.f r.g r.h)] w (RetV (.agg r.acc) w) := by
  obtain ⟨W, hW⟩ : ∃ W, W = (w.alloc (.cells (replyC r.id r.n r.a r.b r.c r.d r.code r.e r.f r.g r.h) 37)).alloc (.cells (accC 0 0 0 0 0 ⟨#[]⟩) 26) := ⟨_, rfl⟩
  have HS : Hid (St empH w none_ empH W [blk (w.heap.size + 1) (.cells (accC 0 0 0 0 0 ⟨#[]⟩) 26), blk w.heap.size (.cells (replyC r.id r.n r.a r.b r.c r.d r.code r.e r.f r.g r.h) 37)]) := by
    rw [hW]
    exact Lib.hid (((St.start (ag_emp w)).alloc' _ w.heap.size rfl).alloc' _ (w.heap.size + 1) (by simp))
  have HW := Lib.hid hW
  have k1 : W.cell? ⟨w.heap.size, 1, none⟩ = some (.int .u64 r.n) := HS.out.cell 1 rfl rfl
  have k2 : W.cell? ⟨w.heap.size, 2, none⟩ = some (.int .u64 r.a) := HS.out.cell 1 rfl rfl
  have k3 : W.cell? ⟨w.heap.size, 3, none⟩ = some (.int .u64 r.b) := HS.out.cell 1 rfl rfl
  have k4 : W.cell? ⟨w.heap.size, 4, none⟩ = some (.int .u64 r.c) := HS.out.cell 1 rfl rfl
  have k5 : W.cell? ⟨w.heap.size, 5, none⟩ = some (.int .u64 r.d) := HS.out.cell 1 rfl rfl
  have k6 : W.cell? ⟨w.heap.size, 6, none⟩ = some (.string r.code) := HS.out.cell 1 rfl rfl
  clear hW
  go_enter Tryz.func71, Tryz.ntmps71
  go_upto_region 1 with (fail)
  have eW := HW.out
  simp only [accC] at eW
  rw [← eW]
  clear eW
  go_wp2_with (first
    | (refine wpList_store_st (cs := r.acc) 0 HS.out rfl rfl 26 (.tmp 2) (.tmp 4) rfl rfl rfl szAcc rfl (oneAcc _ _ _ _ _ _) ?_)
    | fail)
  intro w2 S2
  go_wp2_with fail
  exact post_cell 0 S2 rfl Tryz.results71 rfl _ Tryz.underlying26 rfl szAcc rfl ⟨rfl, S2.below⟩
set_option maxRecDepth 100000 in
set_option maxHeartbeats 4000000 in
theorem valOf_any (r : ReplyS) (w : World) : Calls Tryz.prog 77 #[.agg (replyC r.id r.n r.a r.b r.c r.d r.code r.e r.f r.g r.h)] w (RetV (.agg r.val) w) := by
  obtain ⟨W, hW⟩ : ∃ W, W = (w.alloc (.cells (replyC r.id r.n r.a r.b r.c r.d r.code r.e r.f r.g r.h) 37)).alloc (.cells (wrdC 0 0 0 0) 24) := ⟨_, rfl⟩
  have HS : Hid (St empH w none_ empH W [blk (w.heap.size + 1) (.cells (wrdC 0 0 0 0) 24), blk w.heap.size (.cells (replyC r.id r.n r.a r.b r.c r.d r.code r.e r.f r.g r.h) 37)]) := by
    rw [hW]
    exact Lib.hid (((St.start (ag_emp w)).alloc' _ w.heap.size rfl).alloc' _ (w.heap.size + 1) (by simp))
  have HW := Lib.hid hW
  have k7 : W.cell? ⟨w.heap.size, 7, none⟩ = some (.int .u64 r.e) := HS.out.cell 1 rfl rfl
  have k8 : W.cell? ⟨w.heap.size, 8, none⟩ = some (.int .u64 r.f) := HS.out.cell 1 rfl rfl
  have k9 : W.cell? ⟨w.heap.size, 9, none⟩ = some (.int .u64 r.g) := HS.out.cell 1 rfl rfl
  have k10 : W.cell? ⟨w.heap.size, 10, none⟩ = some (.int .u64 r.h) := HS.out.cell 1 rfl rfl
  clear hW
  go_enter Tryz.func77, Tryz.ntmps77
  go_upto_region 1 with (fail)
  have eW := HW.out
  simp only [wrdC] at eW
  rw [← eW]
  clear eW
  go_wp2_with (first
    | (refine wpList_store_st (cs := r.val) 0 HS.out rfl rfl 24 (.tmp 2) (.tmp 4) rfl rfl rfl szWord4 rfl (oneWrd _ _ _ _) ?_)
    | fail)
  intro w2 S2
  go_wp2_with fail
  exact post_cell 0 S2 rfl Tryz.results77 rfl _ Tryz.underlying24 rfl szWord4 rfl ⟨rfl, S2.below⟩
end
end Go.Proofs.YtdnpobjokajigaaGreatDoor

namespace Go.Proofs.YtdnpobjokajigaaGreatDoor
open Go.RowKit Go.Proofs K
set_option linter.unusedVariables false
def AskQ (f : ReplyS → Array Value) (z : Array Value) (H0 H : Hs) (w0 : World) (X : Nat → Prop) (c d : Nat) (ps : List Hp) (T : Told) (e : Ending) (w' : World) : Prop :=
  e = .returned (.tuple #[.agg ((T.out.map f).getD z), .int .i64 T.err]) ∧ St H0 w0 X H w' (cliP c d T.c :: diskP d T.d :: ps)
theorem zeroRep (w : World) : (zeroValue 37).run Tryz.prog w = .ok (.agg zReply) w := by kernel_rfl
/-- Ways that meet again. -/
theorem wp_meet {P : Program} {c : Code} {Q : Exit → Act → World → Prop} {a : Act} {w : World} (A : Act) (W : World) (h : c.wp P (fun e a' w' => e = .normal ∧ a' = A ∧ w' = W) a w) (hq : Q .normal A W) : c.wp P Q a w :=
  Code.wp_mono (fun e a w ⟨h1, h2, h3⟩ => by subst h1; subst h2; subst h3; exact hq) h
theorem callAccF : ∀ args w, (callFunc 71 args).run Tryz.prog w = .ok (.enter 71 args) w := fun _ _ => by kernel_rfl
def acc0 : Array Value := accC 0 0 0 0 0 ⟨#[]⟩
section
variable {H0 H : Hs} {w0 w : World} {X : Nat → Prop} {ps : List Hp}
set_option maxRecDepth 100000 in
set_option maxHeartbeats 8000000 in
theorem askA_any {c d : Nat} {C : Cl} {D : Dk} (S : St H0 w0 X H w (cliP c d C :: diskP d D :: ps)) (hD : D.ok) (x : AskS) (hn0 : 0 ≤ C.next) (hn1 : C.next + 3 ≤ 1000000) (ha : C.asked.length + 3 ≤ 1000000) (hs : ∀ s ∈ C.script, s.size ≤ 140737488355328) :
    Calls Tryz.prog 70 #[.pointer (some ⟨c, 0, none⟩), .agg (askC x.id x.addr x.a x.b x.c x.d x.kind), .func (.func 71) #[] #[]] w (AskQ ReplyS.acc acc0 H0 H w0 X c d ps (askF0 C D x)) := by
  obtain ⟨W, hW⟩ : ∃ W, W = (w.alloc (.cells (askC x.id x.addr x.a x.b x.c x.d x.kind) 45)).alloc (.cells acc0 26) := ⟨_, rfl⟩
  have HS : Hid (St H0 w0 X H W (blk (w.heap.size + 1) (.cells acc0 26) :: blk w.heap.size (.cells (askC x.id x.addr x.a x.b x.c x.d x.kind) 45) :: cliP c d C :: diskP d D :: ps)) := by
    rw [hW]
    exact Lib.hid ((S.alloc' _ w.heap.size rfl).alloc' _ (w.heap.size + 1) (by simp))
  have HW := Lib.hid hW
  have HD := Lib.hid hD
  have HN := Lib.hid (And.intro hn0 (And.intro hn1 (And.intro ha hs)))
  have a1 : W.cell? ⟨w.heap.size, 1, none⟩ = some (.string x.addr) := HS.out.cell 1 rfl rfl
  clear S hW hD hn0 hn1 ha hs
  go_enter Tryz.func70, Tryz.ntmps70
  go_upto_region 1 with (fail)
  have eW := HW.out
  simp only [acc0, accC] at eW
  rw [← eW]
  clear eW
  by_cases h20 : x.addr.size = 20
  · have h : ((x.addr.size : Int) != 20) = false := by rw [h20]; rfl
    obtain ⟨k, A1, n1, A2, n2, S1⟩ := openCli HS.out 2 rfl
    have c2 : ∀ w', Below W.heap.size W w' → w'.cell? ⟨c, 2, none⟩ = some (.map (some k)) := fun w' h => (S1.grow h).cell 3 rfl rfl
    have q0 : ∀ w', Below W.heap.size W w' → w'.cell? ⟨w.heap.size, 0, none⟩ = some (.int .u64 x.id) := fun w' h => (HS.out.grow h).cell 1 rfl rfl
    have q1 : ∀ w', Below W.heap.size W w' → w'.cell? ⟨w.heap.size, 1, none⟩ = some (.string x.addr) := fun w' h => (HS.out.grow h).cell 1 rfl rfl
    have q2 : ∀ w', Below W.heap.size W w' → w'.cell? ⟨w.heap.size, 2, none⟩ = some (.int .u64 x.a) := fun w' h => (HS.out.grow h).cell 1 rfl rfl
    have q3 : ∀ w', Below W.heap.size W w' → w'.cell? ⟨w.heap.size, 3, none⟩ = some (.int .u64 x.b) := fun w' h => (HS.out.grow h).cell 1 rfl rfl
    have q4 : ∀ w', Below W.heap.size W w' → w'.cell? ⟨w.heap.size, 4, none⟩ = some (.int .u64 x.c) := fun w' h => (HS.out.grow h).cell 1 rfl rfl
    have q5 : ∀ w', Below W.heap.size W w' → w'.cell? ⟨w.heap.size, 5, none⟩ = some (.int .u64 x.d) := fun w' h => (HS.out.grow h).cell 1 rfl rfl
    have q6 : ∀ w', Below W.heap.size W w' → w'.cell? ⟨w.heap.size, 6, none⟩ = some (.int .i64 x.kind) := fun w' h => (HS.out.grow h).cell 1 rfl rfl
    obtain ⟨g, hg⟩ : ∃ g, g = (lookR C.known x).getD zRep := ⟨_, rfl⟩
    obtain ⟨ok, hok⟩ : ∃ ok, ok = (lookR C.known x).isSome := ⟨_, rfl⟩
    obtain ⟨gc, hgc⟩ : ∃ gc, gc = g.cells := ⟨_, rfl⟩
    have fl : ∀ w', Below W.heap.size W w' → (Instr.lookup 117 (.map (some k)) (.agg #[.int .u64 x.id, .string x.addr, .int .u64 x.a, .int .u64 x.b, .int .u64 x.c, .int .u64 x.d, .int .i64 x.kind]) true).run Tryz.prog w' = .ok (.tuple #[.agg gc, .bool ok]) w' := fun w' h => by
      obtain ⟨F2, ⟨_, o, ho, hm⟩, _⟩ := (S1.grow h).step (i := 2) rfl
      have := lookup_run keyA Tryz.underlying117 ho hm (zeroRep w') x true
      rw [repM_look] at this
      rw [hgc, hok, hg]
      cases hl : lookR C.known x with
      | none => rw [hl] at this; exact this
      | some r => rw [hl] at this; exact this
    have gsz : gc.size = 11 := by rw [hgc]; rfl
    have gone : gc.all (·.oneCell') = true := by rw [hgc]; exact oneReply _ _ _ _ _ _ _ _ _ _ _
    have HS1 := Lib.hid (S1.pick 3 rfl)
    have st2 : ∀ X : World, (storeCells ⟨X.heap.size, 0, none⟩ gc.toList 0).run Tryz.prog ((X.alloc (.cells zReply 37)).drew) = .ok () ((X.alloc (.cells gc 37)).drew) :=
      fun X => run_storeCells_new (P := Tryz.prog) X.drew 37 zReply gc (by rw [gsz]; kernel_rfl) (by rw [gsz]; rfl) gone
    simp only [zReply, replyC] at st2
    have HG := Lib.hid hg
    have HOK := Lib.hid hok
    have HGC := Lib.hid hgc
    clear S1 hg hok hgc gone
    go_wp2_with fail
    have b0 : Below W.heap.size W W.drew := (Below.refl _ _).drew
    have b1 : ∀ o, Below W.heap.size W (W.alloc o).drew := fun o => ((Below.refl _ W).alloc (Nat.le_refl _) _).drew
    go_region
    obtain ⟨w3, hw3⟩ : ∃ w3, w3 = (W.alloc (.cells gc 37)).drew := ⟨_, rfl⟩
    have HS3 : Hid (St H0 w0 X H w3 (blk W.heap.size (.cells gc 37) :: blk (w.heap.size + 1) (.cells acc0 26) :: blk w.heap.size (.cells (askC x.id x.addr x.a x.b x.c x.d x.kind) 45) :: cliP c d C :: diskP d D :: ps)) := by
      rw [hw3]
      exact Lib.hid ((HS.out.alloc' _ W.heap.size rfl).drew)
    rw [← hw3]
    clear b0 b1 hw3 HS HS1 c2 q0 q1 q2 q3 q4 q5 q6 fl st2 a1 h
    have hca := callAccF
    cases ok with
    | true =>
      have HR : Hid (askF0 C D x = ⟨some g, 0, C, D⟩) := Lib.hid (by
        unfold askF0
        rw [if_neg (by omega), HG.out]
        have := HOK.out
        cases hl : lookR C.known x with
        | none => rw [hl] at this; cases this
        | some r => rfl)
      rw [HGC.out] at HS3
      rw [HGC.out]
      clear HG HOK HGC gsz HN HD
      simp only [ReplyS.cells] at HS3 ⊢
      go_wp2_with (first
        | (refine wpList_load_st 0 HS3.out rfl rfl 37 (.tmp 8) rfl rfl _ Tryz.underlying37 rfl szReply ?_)
        | fail)
      refine (accOf_any g _).mono ?_
      rintro e w4 ⟨rfl, hb4⟩
      have HS4 := Lib.hid (HS3.out.grow hb4)
      clear hb4 HS3
      go_wp2_with (first
        | (refine wpList_store_st (cs := g.acc) 1 HS4.out rfl rfl 26 (.tmp 6) (.tmp 30) rfl rfl rfl szAcc rfl (oneAcc _ _ _ _ _ _) ?_)
        | fail)
      intro w5 S5
      go_wp2_with fail
      refine post_cell2 0 S5 rfl Tryz.results70 rfl _ Tryz.underlying26 rfl szAcc rfl ?_
      rw [HR.out]
      exact ⟨rfl, (((S5.drop 0).drop 0).drop 0)⟩
    | false =>
      have HR : Hid (askF0 C D x = askN 3 C D x) := Lib.hid (by
        unfold askF0
        rw [if_neg (by omega)]
        have := HOK.out
        cases hl : lookR C.known x with
        | none => rfl
        | some r => rw [hl] at this; cases this)
      have HS4 := Lib.hid (HS3.out.drop 0)
      clear HG HOK HGC gsz HS3
      go_wp2_with fail
      go_loopw [31] (fun i wr => ∃ (n : Nat) (E : Cl), i = .int .i64 n ∧ n ≤ 3 ∧ Hid (askF0 C D x = askN (3 - n) E D x ∧ 0 ≤ E.next ∧ E.next + (3 - n : Nat) ≤ 1000000 ∧ E.asked.length + (3 - n) ≤ 1000000 ∧ (∀ s ∈ E.script, s.size ≤ 140737488355328) ∧ E.name = C.name ∧
        St H0 w0 X H wr (blk (w.heap.size + 1) (.cells acc0 26) :: blk w.heap.size (.cells (askC x.id x.addr x.a x.b x.c x.d x.kind) 45) :: cliP c d E :: diskP d D :: ps))) (fun i _ => 3 - (intOf i).toNat)
      case atStart => exact ⟨0, C, rfl, by decide, Lib.hid ⟨HR.out, HN.out.1, HN.out.2.1, HN.out.2.2.1, HN.out.2.2.2, rfl, HS4.out⟩⟩
      case round =>
        clear HS4 HR HN
        obtain ⟨n, E, rfl, hn, HI⟩ := hrel
        obtain ⟨r1, r2, r3, r4, r5, r6, S0⟩ := HI.out
        have HR := Lib.hid r1
        have HN := Lib.hid (And.intro r2 (And.intro r3 (And.intro r4 (And.intro r5 r6))))
        have HS0 := Lib.hid S0
        clear r1 r2 r3 r4 r5 r6 S0 HI
        by_cases hn3 : n = 3
        · subst hn3
          go_wp2_with (first
            | (refine wpList_load_st 0 HS0.out rfl rfl 26 (.tmp 6) rfl rfl _ Tryz.underlying26 rfl szAcc ?_)
            | (refine wpList_store_st (cs := acc0) 0 HS0.out rfl rfl 26 (.tmp 6) (.tmp 60) rfl rfl rfl szAcc rfl (oneAcc _ _ _ _ _ _) ?_)
            | fail)
          intro w2 S2
          go_wp2_with fail
          refine post_cell2 0 S2 rfl Tryz.results70 rfl _ Tryz.underlying26 rfl szAcc rfl ?_
          rw [HR.out]
          exact ⟨rfl, (S2.drop 0).drop 0⟩
        · have hlt : (n : Int) < 3 := by omega
          have HC := Lib.hid (try_any (ps := blk (w.heap.size + 1) (.cells acc0 26) :: blk w.heap.size (.cells (askC x.id x.addr x.a x.b x.c x.d x.kind) 45) :: cliP c d E :: diskP d D :: ps) HS0.out 2 rfl x HN.out.1 (by have := HN.out.2.1; omega) (by have := HN.out.2.2.1; omega) HN.out.2.2.2.1)
          have HST := Lib.hid (show askN (3 - n) E D x = askN ((2 - n) + 1) E D x by rw [show 3 - n = (2 - n) + 1 by omega])
          have HNM := Lib.hid (try_name E x)
          obtain ⟨p, hp⟩ : ∃ p, p = E.try x := ⟨_, rfl⟩
          rw [← hp] at HC HNM
          have HP := Lib.hid hp
          clear hp
          obtain ⟨⟨g, ok⟩, E2⟩ := p
          go_wp2_with (first
            | (refine wpList_load_st 1 HS0.out rfl rfl 45 (.tmp 4) rfl rfl _ Tryz.underlying45 rfl szAsk ?_)
            | fail)
          refine HC.out.mono ?_
          rintro e w4 ⟨rfl, S4⟩
          have HS5 : Hid (St H0 w0 X H (w4.alloc (.cells zReply 37)) (blk w4.heap.size (.cells zReply 37) :: cliP c d E2 :: blk (w.heap.size + 1) (.cells acc0 26) :: blk w.heap.size (.cells (askC x.id x.addr x.a x.b x.c x.d x.kind) 45) :: diskP d D :: ps)) := Lib.hid (S4.alloc' _ w4.heap.size rfl)
          clear S4 HC HS0
          simp only [ReplyS.cells]
          go_upto_region 9 with (first
            | (refine wpList_store_st (cs := replyC g.id g.n g.a g.b g.c g.d g.code g.e g.f g.g g.h) 0 HS5.out rfl rfl 37 (.tmp 10) (.tmp 37) rfl rfl rfl szReply rfl (oneReply _ _ _ _ _ _ _ _ _ _ _) ?_)
            | fail)
          intro w6 S6
          have HS6 := Lib.hid S6
          clear S6 HS5
          cases ok with
          | false =>
            go_wp2_with fail
            go_roundw
            case rel => exact ⟨n + 1, E2, by go_num, by omega, Lib.hid (by
              obtain ⟨m1, m2, m3, m4, m5⟩ := HNM.out
              obtain ⟨n1, n2, n3, n4, n5⟩ := HN.out
              refine ⟨?_, ?_, ?_, ?_, ?_, ?_, ?_⟩
              · rw [HR.out, HST.out, askN_succ, ← HP.out, if_neg Bool.false_ne_true, show 3 - (n + 1) = 2 - n by omega]
              · show 0 ≤ E2.next
                have : E2.next = E.next + 1 := m3
                omega
              · have : E2.next = E.next + 1 := m3
                omega
              · have : E2.asked.length = E.asked.length + 1 := m4
                omega
              · exact fun s hs => n4 s (m5 s hs)
              · exact m1.trans n5
              · have S7 := HS6.out.drop 0
                exact (S7.pick 2 rfl).pick 2 rfl)⟩
            case measure => simp [intOf]; omega
          | true =>
            have k0 : w6.cell? ⟨w4.heap.size, 0, none⟩ = some (.int .u64 g.id) := HS6.out.cell 0 rfl rfl
            have k1 : w6.frozen? ⟨w4.heap.size, 0, none⟩ = false := HS6.out.frozen 0 rfl 0
            go_upto_region 11 with (fail)
            obtain ⟨w7, hw7⟩ : ∃ w7, w7 = w6.setCell ⟨w4.heap.size, 0, none⟩ (.int .u64 0) := ⟨_, rfl⟩
            have HS7 : Hid (St H0 w0 X H w7 (cliP c d E2 :: diskP d D :: blk w4.heap.size (.cells (replyC 0 g.n g.a g.b g.c g.d g.code g.e g.f g.g g.h) 37) :: blk (w.heap.size + 1) (.cells acc0 26) :: blk w.heap.size (.cells (askC x.id x.addr x.a x.b x.c x.d x.kind) 45) :: ps)) := by
              rw [hw7]
              have S7 := HS6.out.setCell (j := 0) 0 rfl (.int .u64 0)
              exact Lib.hid ((S7.pick 4 rfl).pick 2 rfl)
            rw [← hw7]
            clear hw7 HS6 k0 k1
            have HK := keep_any HS7.out HD.out x g.zeroId
            obtain ⟨q, hq⟩ : ∃ q, q = addD D E2.name (recB x g.zeroId) := ⟨_, rfl⟩
            rw [← hq] at HK
            have HK := Lib.hid HK
            have HRES : Hid (askF0 C D x = if q.1 = 0 then ⟨some g.zeroId, 0, E2.learn x g.zeroId, q.2⟩ else ⟨none, q.1, E2, q.2⟩) := Lib.hid (by
              rw [HR.out, HST.out, askN_succ, ← HP.out, if_pos (by rfl), hq, show E2.name = E.name from HNM.out.1])
            have HQ := Lib.hid hq
            clear hq
            go_wp2_with (first
              | (refine wpList_load_st 4 HS7.out rfl rfl 45 (.tmp 4) rfl rfl _ Tryz.underlying45 rfl szAsk ?_)
              | (refine wpList_load_st 2 HS7.out rfl rfl 37 (.tmp 10) rfl rfl _ Tryz.underlying37 rfl szReply ?_)
              | fail)
            refine HK.out.mono ?_
            rintro e w8 ⟨rfl, S8⟩
            have HS8 := Lib.hid S8
            clear S8 HK HS7 HP HST HR HNM HN
            by_cases hq0 : q.1 = 0
            · have hz : (q.1 != 0) = false := by rw [hq0]; rfl
              have HR : Hid (askF0 C D x = ⟨some g.zeroId, 0, E2.learn x g.zeroId, q.2⟩) := Lib.hid (by rw [HRES.out, if_pos hq0])
              clear HRES
              obtain ⟨k', A3, n3, A4, n4, S9⟩ := openCli HS8.out 0 rfl
              have c2 : w8.cell? ⟨c, 2, none⟩ = some (.map (some k')) := S9.cell 3 rfl rfl
              have q0 : w8.cell? ⟨w.heap.size, 0, none⟩ = some (.int .u64 x.id) := S9.cell 7 rfl rfl
              have q1 : w8.cell? ⟨w.heap.size, 1, none⟩ = some (.string x.addr) := S9.cell 7 rfl rfl
              have q2 : w8.cell? ⟨w.heap.size, 2, none⟩ = some (.int .u64 x.a) := S9.cell 7 rfl rfl
              have q3 : w8.cell? ⟨w.heap.size, 3, none⟩ = some (.int .u64 x.b) := S9.cell 7 rfl rfl
              have q4 : w8.cell? ⟨w.heap.size, 4, none⟩ = some (.int .u64 x.c) := S9.cell 7 rfl rfl
              have q5 : w8.cell? ⟨w.heap.size, 5, none⟩ = some (.int .u64 x.d) := S9.cell 7 rfl rfl
              have q6 : w8.cell? ⟨w.heap.size, 6, none⟩ = some (.int .i64 x.kind) := S9.cell 7 rfl rfl
              have r0 : w8.cell? ⟨w4.heap.size, 0, none⟩ = some (.int .u64 0) := S9.cell 5 rfl rfl
              have r1 : w8.cell? ⟨w4.heap.size, 1, none⟩ = some (.int .u64 g.n) := S9.cell 5 rfl rfl
              have r2 : w8.cell? ⟨w4.heap.size, 2, none⟩ = some (.int .u64 g.a) := S9.cell 5 rfl rfl
              have r3 : w8.cell? ⟨w4.heap.size, 3, none⟩ = some (.int .u64 g.b) := S9.cell 5 rfl rfl
              have r4 : w8.cell? ⟨w4.heap.size, 4, none⟩ = some (.int .u64 g.c) := S9.cell 5 rfl rfl
              have r5 : w8.cell? ⟨w4.heap.size, 5, none⟩ = some (.int .u64 g.d) := S9.cell 5 rfl rfl
              have r6 : w8.cell? ⟨w4.heap.size, 6, none⟩ = some (.string g.code) := S9.cell 5 rfl rfl
              have r7 : w8.cell? ⟨w4.heap.size, 7, none⟩ = some (.int .u64 g.e) := S9.cell 5 rfl rfl
              have r8 : w8.cell? ⟨w4.heap.size, 8, none⟩ = some (.int .u64 g.f) := S9.cell 5 rfl rfl
              have r9 : w8.cell? ⟨w4.heap.size, 9, none⟩ = some (.int .u64 g.g) := S9.cell 5 rfl rfl
              have r10 : w8.cell? ⟨w4.heap.size, 10, none⟩ = some (.int .u64 g.h) := S9.cell 5 rfl rfl
              have HS9 := Lib.hid S9
              clear S9 HS8
              go_wp2_with fail
              go_still_tail 6, (by kernel_rfl)
              clear c2 q0 q1 q2 q3 q4 q5 q6 r0 r1 r2 r3 r4 r5 r6 r7 r8 r9 r10
              have HS10 := Lib.hid HS9.out.drew
              change wpList _ _ _ _ _ w8.drew
              generalize w8.drew = w9 at HS10 ⊢
              clear HS9
              go_wp2_with (first
                | (refine wpList_update_st 2 HS10.out rfl keyA Tryz.underlying117 x rfl (.tmp 53) (.tmp 54) (.tmp 55) rfl rfl rfl ?_)
                | fail)
              intro w10 S10
              have HS11 : Hid (St H0 w0 X H w10 (mapP encA k' (repM (putR E2.known x g.zeroId)) :: ownO 9 1 (.slice A3 E2.script.length n3) E2.script.length (strS E2.script) :: own 9 1 (.slice A4 E2.asked.length n4) E2.asked.length (strS E2.asked) :: blk c (cliO d k' E2 (.slice A3 E2.script.length n3) (.slice A4 E2.asked.length n4)) :: diskP d q.2 :: blk w4.heap.size (.cells (replyC 0 g.n g.a g.b g.c g.d g.code g.e g.f g.g g.h) 37) :: blk (w.heap.size + 1) (.cells acc0 26) :: blk w.heap.size (.cells (askC x.id x.addr x.a x.b x.c x.d x.kind) 45) :: ps)) := Lib.hid (by
                rw [← repM_put]
                exact S10)
              clear S10 HS10
              go_wp2_with (first
                | (refine wpList_load_st 5 HS11.out rfl rfl 37 (.tmp 10) rfl rfl _ Tryz.underlying37 rfl szReply ?_)
                | fail)
              refine (accOf_any g.zeroId _).mono ?_
              rintro e w11 ⟨rfl, hb11⟩
              have HS12 := Lib.hid (HS11.out.grow hb11)
              clear hb11 HS11
              go_wp2_with (first
                | (refine wpList_store_st (cs := g.zeroId.acc) 6 HS12.out rfl rfl 26 (.tmp 6) (.tmp 58) rfl rfl rfl szAcc rfl (oneAcc _ _ _ _ _ _) ?_)
                | fail)
              intro w12 S12
              go_wp2_with fail
              refine post_cell2 0 S12 rfl Tryz.results70 rfl _ Tryz.underlying26 rfl szAcc rfl ?_
              rw [HR.out]
              refine ⟨rfl, ?_⟩
              have S13 := S12.drop 0
              have S14 := ((S13.drop 5).drop 5)
              exact shutCli (C := E2.learn x g.zeroId) ((S14.pick 2 rfl).pick 2 rfl)
            · have hz : (q.1 != 0) = true := by simpa using hq0
              have HR : Hid (askF0 C D x = ⟨none, q.1, E2, q.2⟩) := Lib.hid (by rw [HRES.out, if_neg hq0])
              clear HRES
              go_wp2_with (first
                | (refine wpList_load_st 3 HS8.out rfl rfl 26 (.tmp 6) rfl rfl _ Tryz.underlying26 rfl szAcc ?_)
                | (refine wpList_store_st (cs := acc0) 3 HS8.out rfl rfl 26 (.tmp 6) (.tmp 48) rfl rfl rfl szAcc rfl (oneAcc _ _ _ _ _ _) ?_)
                | fail)
              intro w9 S9
              go_wp2_with fail
              refine post_cell2 0 S9 rfl Tryz.results70 rfl _ Tryz.underlying26 rfl szAcc rfl ?_
              rw [HR.out]
              exact ⟨rfl, ((S9.drop 0).drop 2).drop 2⟩
  · have h : ((x.addr.size : Int) != 20) = true := by
      rw [bne_iff_ne]
      omega
    go_wp2_with (first
      | (refine wpList_load_st 0 HS.out rfl rfl 26 (.tmp 6) rfl rfl _ Tryz.underlying26 rfl szAcc ?_)
      | (refine wpList_store_st (cs := acc0) 0 HS.out rfl rfl 26 (.tmp 6) (.tmp 17) rfl rfl rfl szAcc rfl (oneAcc _ _ _ _ _ _) ?_)
      | fail)
    intro w2 S2
    go_wp2_with fail
    refine post_cell2 0 S2 rfl Tryz.results70 rfl _ Tryz.underlying26 rfl szAcc rfl ?_
    unfold askF0
    rw [if_pos h20]
    exact ⟨rfl, (S2.drop 0).drop 0⟩
end
end Go.Proofs.YtdnpobjokajigaaGreatDoor
