/-
  Asks and replies, plain: what is told by which replies; what is laid down where there is room.
  Statements of chapter 9: the examples.
  Statements of chapter 9: address; the examples, walked.
  ForkNumbers, walked.
  Clients over a disk, plain: what an ask leaves; what is laid down is there anew.
-/
import Derived.Test.YtdnpobjokajigaaGreatDoorPart16
import Derived.Test.YtdnpobjokajigaaGreatDoorScr
namespace Go.Proofs.YtdnpobjokajigaaGreatDoor
open Go.RowKit Go.Proofs K
set_option linter.unusedVariables false

theorem gotF_put {kind : Int} {ts : List ByteArray} {o : Option ReplyS} (hk : kind = 1 ∨ kind = 2) (h : replyF kind (putL ts).data.toList = o.map ReplyS.cells) : gotF kind (replyB ts).data.toList = o := by
  unfold gotF
  rw [if_pos ⟨sealed_put _, hk⟩, replyB_drop, h]
  cases o with
  | none => rfl
  | some G => simp [asRep_cells]
theorem put_one {id n a b c d : Int} {code : ByteArray} (hl : code.size ≤ 24576) : (putReplyR 1 id n a b c d code 0 0 0 0).1 = replyB [numS id, numS n, wordS a b c d, code] := by
  unfold putReplyR
  rw [if_neg (by omega), if_pos rfl, if_pos ⟨rfl, rfl, rfl, rfl⟩]
theorem put_two {id e f g h : Int} : (putReplyR 2 id 0 0 0 0 0 ⟨#[]⟩ e f g h).1 = replyB [numS id, wordS e f g h] := by
  unfold putReplyR
  rw [if_neg (by decide), if_neg (by decide), if_pos rfl, if_pos ⟨rfl, ⟨rfl, rfl, rfl, rfl⟩, by rw [ByteArray.toList_eq]⟩]
theorem gotF_one {id n a b c d : Int} {code : ByteArray} (hid : W64 id) (hn : W64 n) (ha : W64 a) (hb : W64 b) (hc : W64 c) (hd : W64 d) (hl : code.size ≤ 24576) : gotF 1 (putReplyR 1 id n a b c d code 0 0 0 0).1.data.toList = some ⟨id, n, a, b, c, d, code, 0, 0, 0, 0⟩ := by
  rw [put_one hl]
  refine gotF_put (.inl rfl) ?_
  unfold replyF
  rw [decF_put (one_len hl)]
  simp only
  rw [replyR_one hid hn ha hb hc hd hl]
  rfl
theorem gotF_two {id e f g h : Int} (hid : W64 id) (he : W64 e) (hf : W64 f) (hg : W64 g) (hh : W64 h) : gotF 2 (putReplyR 2 id 0 0 0 0 0 ⟨#[]⟩ e f g h).1.data.toList = some ⟨id, 0, 0, 0, 0, 0, ⟨#[]⟩, e, f, g, h⟩ := by
  rw [put_two]
  refine gotF_put (.inr rfl) ?_
  unfold replyF
  rw [decF_put two_len]
  simp only
  rw [replyR_two hid he hf hg hh]
  rfl
/-- A reply of a slot is none of an account. -/
theorem gotF_cross {id e f g h : Int} (hid : W64 id) : gotF 1 (putReplyR 2 id 0 0 0 0 0 ⟨#[]⟩ e f g h).1.data.toList = none := by
  rw [put_two]
  refine gotF_put (.inl rfl) ?_
  unfold replyF
  rw [decF_put two_len]
  simp only
  have h8 : smallOk (wordS e f g h) = false := by
    unfold smallOk
    rw [wordS_size]
    rfl
  have : replyR 1 ([numS id, wordS e f g h].map It.text) = none := by
    simp only [List.map_cons, List.map_nil]
    unfold replyR
    rw [numR_num hid, Option.bind_some]
    simp only
    rw [if_neg (by decide)]
    unfold numR
    simp only [h8]
    rfl
  rw [this]
  rfl
/-! ### Asks -/
def Cl.asks (C : Cl) (x : AskS) (r : List ByteArray) : Cl := { C with next := C.next + 1, asked := C.asked ++ [x.put C.next], script := r }
theorem try_nil {C : Cl} (x : AskS) (h : C.script = []) : C.try x = ((zRep, false), C.asks x []) := by
  unfold Cl.try Cl.asks
  rw [h]
theorem try_cons {C : Cl} (x : AskS) {s : ByteArray} {r : List ByteArray} (h : C.script = s :: r) : C.try x = (((gotF x.kind s.data.toList).getD zRep, (gotF x.kind s.data.toList).isSome && decide (((gotF x.kind s.data.toList).getD zRep).id = C.next)), C.asks x r) := by
  unfold Cl.try Cl.asks
  rw [h]
theorem ask_empty {C : Cl} {D : Dk} {x : AskS} {n : Nat} (h : C.script = []) : askN (n + 1) C D x = askN n (C.asks x []) D x := by
  rw [askN_succ, try_nil x h, if_neg Bool.false_ne_true]
theorem ask_miss {C : Cl} {D : Dk} {x : AskS} {n : Nat} {s : ByteArray} {r : List ByteArray} (h : C.script = s :: r) (hm : ∀ G, gotF x.kind s.data.toList = some G → G.id ≠ C.next) : askN (n + 1) C D x = askN n (C.asks x r) D x := by
  rw [askN_succ, try_cons x h]
  rw [if_neg]
  cases hg : gotF x.kind s.data.toList with
  | none => simp
  | some G => simpa using hm G hg
theorem ask_hit {C : Cl} {D : Dk} {x : AskS} {n : Nat} {s : ByteArray} {r : List ByteArray} {G : ReplyS} (h : C.script = s :: r) (hg : gotF x.kind s.data.toList = some G) (hid : G.id = C.next) :
    askN (n + 1) C D x = if (addD D C.name (recB x G.zeroId)).1 = 0 then ⟨some G.zeroId, 0, (C.asks x r).learn x G.zeroId, (addD D C.name (recB x G.zeroId)).2⟩ else ⟨none, (addD D C.name (recB x G.zeroId)).1, C.asks x r, (addD D C.name (recB x G.zeroId)).2⟩ := by
  rw [askN_succ, try_cons x h, hg]
  simp only [Option.getD_some, Option.isSome_some, Bool.true_and]
  rw [if_pos (by simpa using hid)]
theorem ask_new {C : Cl} {D : Dk} {x : AskS} (h20 : x.addr.size = 20) (hk : lookR C.known x = none) : askF0 C D x = askN 3 C D x := by
  unfold askF0
  rw [if_neg (by omega), hk]
theorem ask_known {C : Cl} {D : Dk} {x : AskS} {r : ReplyS} (h20 : x.addr.size = 20) (hk : lookR C.known x = some r) : askF0 C D x = ⟨some r, 0, C, D⟩ := by
  unfold askF0
  rw [if_neg (by omega), hk]
/-! ### What is laid down -/
theorem layF_read (n : ByteArray) (s : List UInt8) : ∀ l : List FileS, readF (layF l n s) n = some ((readF l n).getD [] ++ s)
  | [] => by simp [layF, readF]
  | f :: l => by
    have ih := layF_read n s l
    unfold layF
    by_cases h : f.name = n
    · simp [h, readF]
    · simp only [h, if_false, readF]
      exact ih
theorem syncF_read (n m : ByteArray) : ∀ l : List FileS, readF (syncF l n) m = readF l m
  | [] => rfl
  | f :: l => by
    have ih := syncF_read n m l
    unfold syncF
    by_cases h : f.name = n
    · simp [h, readF]
    · simp only [h, if_false, readF]
      rw [ih]
/-- A disk that does not crash. -/
structure Dk.calm (D : Dk) : Prop where
  dead : D.dead = false
  after : D.after = -1
theorem Dk.calm.tick {D : Dk} (h : D.calm) : D.tick = D := by
  have := h.after
  unfold Dk.tick
  rw [if_neg (by omega)]
theorem frame_len (s : ByteArray) : (frameB s).data.toList.length = 8 + s.size := by rw [sizeL, frameB_size]
def addedD (D : Dk) (n s : ByteArray) : Dk := { D with files := syncF (layF D.files n (frameB s).data.toList) n }
theorem add_fits {D : Dk} (h : D.calm) {n s : ByteArray} (hs : s.size ≤ 65536) (hf : (used D.files : Int) + 8 + (s.size : Int) ≤ D.room) : addD D n s = (0, addedD D n s) := by
  have hfit : D.fits (frameB s).data.toList = true := by
    unfold Dk.fits
    rw [frame_len]
    exact decide_eq_true (by omega)
  have e1 : appendD D n (frameB s).data.toList = (0, { D with files := layF D.files n (frameB s).data.toList }) := by
    unfold appendD
    rw [if_neg (by rw [h.dead]; decide), if_neg (by rw [h.after]; decide), if_pos hfit, h.tick]
  unfold addD
  rw [if_neg (by omega), e1]
  simp only [ne_eq, not_true_eq_false, if_false]
  unfold syncD
  rw [if_neg (by show ¬ D.dead = true; rw [h.dead]; decide), if_neg (by show ¬ D.after = 0; rw [h.after]; decide)]
  have e2 : (readF (layF D.files n (frameB s).data.toList) n).isSome = true := by rw [layF_read]; rfl
  simp only [e2, if_true]
  have : ({ D with files := layF D.files n (frameB s).data.toList } : Dk).tick = { D with files := layF D.files n (frameB s).data.toList } := Dk.calm.tick ⟨h.dead, h.after⟩
  rw [this]
  rfl
theorem add_full {D : Dk} (h : D.calm) {n s : ByteArray} (hs : s.size ≤ 65536) (hf : D.room < (used D.files : Int) + 8 + (s.size : Int)) : addD D n s = (5, D) := by
  have hfit : D.fits (frameB s).data.toList = false := by
    unfold Dk.fits
    rw [frame_len]
    exact decide_eq_false (by omega)
  have e1 : appendD D n (frameB s).data.toList = (5, D) := by
    unfold appendD
    rw [if_neg (by rw [h.dead]; decide), if_neg (by rw [h.after]; decide), if_neg (by rw [hfit]; decide), h.tick]
  unfold addD
  rw [if_neg (by omega), e1]
  rfl
theorem added_calm {D : Dk} (h : D.calm) (n s : ByteArray) : (addedD D n s).calm := ⟨h.dead, h.after⟩
theorem added_used (D : Dk) (n s : ByteArray) : used (addedD D n s).files = used D.files + (8 + s.size) := by
  unfold addedD
  rw [used_syncF, used_layF, frame_len]
theorem added_read (D : Dk) (n s : ByteArray) : readF (addedD D n s).files n = some ((readF D.files n).getD [] ++ (frameB s).data.toList) := by
  unfold addedD
  rw [syncF_read, layF_read]
end Go.Proofs.YtdnpobjokajigaaGreatDoor

namespace Go.Proofs.YtdnpobjokajigaaGreatDoor
open Go.RowKit Go.Proofs K
set_option linter.unusedVariables false
def a0S : ByteArray := ⟨#[48, 49, 50, 51, 52, 53, 54, 55, 56, 57, 48, 49, 50, 51, 52, 53, 54, 55, 56, 57]⟩
def a9S : ByteArray := ⟨#[57, 57, 57, 57, 57, 57, 57, 57, 57, 57, 57, 57, 57, 57, 57, 57, 57, 57, 57, 57]⟩
def nameC : ByteArray := ⟨#[99]⟩
def tell1 : TellS := ⟨0, 5, 0, 0, 0, 0, ⟨#[]⟩, 0, 0, 0, 0, 1, false, ⟨#[]⟩⟩
def r5 : ReplyS := ⟨0, 5, 0, 0, 0, 0, ⟨#[]⟩, 0, 0, 0, 0⟩
def freshC : Cl := ⟨nameC, [], [], [], 1⟩
theorem w64_lit {n : Nat} (h : n < 18446744073709551616) : W64 (n : Int) := ⟨by omega, by omega⟩
theorem scr1 : scriptL [tell1] = [(putReplyR 1 1 5 0 0 0 0 ⟨#[]⟩ 0 0 0 0).1] := by
  have e : cut60 ⟨#[]⟩ = ⟨#[]⟩ := rfl
  simp [scriptL, TellS.text, tell1, e]
theorem new_fresh (room : Int) : newC (freshD room) nameC = freshC := rfl
theorem freshD_calm (room : Int) : (freshD room).calm := ⟨rfl, rfl⟩
theorem freshD_ok {room : Int} (h : room ≤ 1048576) : (freshD room).ok := ⟨by show (-1 : Int) ≤ -1; omega, by show (-1 : Int) < _; omega, h, by show 0 ≤ _; omega⟩
/-- What is laid down is small. -/
theorem ask_len {id : Int} {addr : ByteArray} {a b c d k : Int} (h : addr.size = 20) : (putAskR id addr a b c d k).1.size ≤ 120 := by
  unfold putAskR
  rw [if_neg (fun h' => h' h)]
  have h1 := numS_size id
  split
  · have h3 := putL_sum [numS id, numS (IntKind.u64.wrap 2), addr, wordS a b c d]
    have h2 := numS_size (IntKind.u64.wrap 2)
    have h4 := wordS_size a b c d
    rw [sizeL] at h3
    simp only [List.map_cons, List.map_nil, List.sum_cons, List.sum_nil] at h3
    show (putL _).size ≤ _
    omega
  · split
    · have h3 := putL_sum [numS id, numS (IntKind.u64.wrap 1), addr]
      have h2 := numS_size (IntKind.u64.wrap 1)
      rw [sizeL] at h3
      simp only [List.map_cons, List.map_nil, List.sum_cons, List.sum_nil] at h3
      show (putL _).size ≤ _
      omega
    · exact Nat.zero_le _
theorem one_size {id n a b c d : Int} {code : ByteArray} (hl : code.size ≤ 24576) : (putReplyR 1 id n a b c d code 0 0 0 0).1.size ≤ 100 + code.size := by
  rw [put_one hl]
  have h3 := putL_sum [numS id, numS n, wordS a b c d, code]
  have h1 := numS_size id
  have h2 := numS_size n
  have h4 := wordS_size a b c d
  rw [sizeL] at h3
  simp only [List.map_cons, List.map_nil, List.sum_cons, List.sum_nil] at h3
  unfold replyB
  rw [ByteArray.size_append, sumS_size]
  omega
theorem two_size {id e f g h : Int} : (putReplyR 2 id 0 0 0 0 0 ⟨#[]⟩ e f g h).1.size ≤ 100 := by
  rw [put_two]
  have h3 := putL_sum [numS id, wordS e f g h]
  have h1 := numS_size id
  have h4 := wordS_size e f g h
  rw [sizeL] at h3
  simp only [List.map_cons, List.map_nil, List.sum_cons, List.sum_nil] at h3
  unfold replyB
  rw [ByteArray.size_append, sumS_size]
  omega
theorem rec_size {x : AskS} {r : ReplyS} {m : Nat} (h20 : x.addr.size = 20) (hm : (r.put x.kind).size ≤ m) : (recB x r).size ≤ m + 150 := by
  have h3 := putL_sum [x.put x.id, r.put x.kind]
  have h1 : (x.put x.id).size ≤ 120 := ask_len h20
  rw [sizeL] at h3
  simp only [List.map_cons, List.map_nil, List.sum_cons, List.sum_nil] at h3
  unfold recB
  omega
theorem ex_plain : ∃ C2 D2, askF0 { freshC with script := scriptL [tell1] } (freshD 10000) (accX a0S) = ⟨some r5, 0, C2, D2⟩ ∧ C2.known = [(accX a0S, r5)] ∧ C2.script = [] ∧ C2.next = 2 ∧ C2.asked.length = 1 ∧ D2.ok := by
  have hs : ({ freshC with script := scriptL [tell1] } : Cl).script = (putReplyR 1 1 5 0 0 0 0 ⟨#[]⟩ 0 0 0 0).1 :: [] := scr1
  have hg := gotF_one (id := 1) (n := 5) (a := 0) (b := 0) (c := 0) (d := 0) (code := ⟨#[]⟩) ⟨by decide, by decide⟩ ⟨by decide, by decide⟩ ⟨by decide, by decide⟩ ⟨by decide, by decide⟩ ⟨by decide, by decide⟩ ⟨by decide, by decide⟩ (by decide)
  have hadd := add_fits (D := freshD 10000) (freshD_calm _) (n := nameC) (s := recB (accX a0S) r5) (by
    have := rec_size (x := accX a0S) (r := r5) (m := 100) rfl (one_size (by decide))
    omega) (by
    have := rec_size (x := accX a0S) (r := r5) (m := 100) rfl (one_size (by decide))
    show ((0 : Nat) : Int) + 8 + _ ≤ 10000
    omega)
  rw [ask_new rfl rfl, ask_hit (x := accX a0S) (G := ⟨1, 5, 0, 0, 0, 0, ⟨#[]⟩, 0, 0, 0, 0⟩) hs hg rfl]
  rw [show (({ freshC with script := scriptL [tell1] } : Cl).name) = nameC from rfl, show (⟨1, 5, 0, 0, 0, 0, ⟨#[]⟩, 0, 0, 0, 0⟩ : ReplyS).zeroId = r5 from rfl, hadd, if_pos rfl]
  refine ⟨_, _, rfl, rfl, rfl, rfl, rfl, ?_⟩
  have := add_ok (freshD_ok (room := 10000) (by decide)) nameC (recB (accX a0S) r5)
  rw [hadd] at this
  exact this
theorem ex_third {C : Cl} {D : Dk} (hk : C.known = [(accX a0S, r5)]) (hs : C.script = []) (ha : C.asked.length = 1) : ∃ C3, askF0 C D (accX a9S) = ⟨none, 4, C3, D⟩ ∧ C3.asked.length = 4 ∧ C3.known.length = 1 := by
  rw [ask_new rfl (by rw [hk]; rfl), ask_empty hs, ask_empty rfl, ask_empty rfl]
  refine ⟨_, rfl, ?_, ?_⟩
  · simp [Cl.asks, ha]
  · simp [Cl.asks, hk]
end Go.Proofs.YtdnpobjokajigaaGreatDoor

namespace Go.Proofs.YtdnpobjokajigaaGreatDoor
open Go.RowKit Go.Proofs K
set_option linter.unusedVariables false
/-- The addresses. -/
def addrB : Int → ByteArray
  | 0 => ⟨#[97, 97, 97, 97, 97, 97, 97, 97, 97, 97, 97, 97, 97, 97, 97, 97, 97, 97, 97, 97]⟩
  | 1 => ⟨#[98, 98, 98, 98, 98, 98, 98, 98, 98, 98, 98, 98, 98, 98, 98, 98, 98, 98, 98, 98]⟩
  | 2 => ⟨#[99, 99, 99, 99, 99, 99, 99, 99, 99, 99, 99, 99, 99, 99, 99, 99, 99, 99, 99, 99]⟩
  | 3 => ⟨#[115, 104, 111, 114, 116]⟩
  | _ => ⟨#[100, 100, 100, 100, 100, 100, 100, 100, 100, 100, 100, 100, 100, 100, 100, 100, 100, 100, 100, 100]⟩
set_option maxRecDepth 100000 in
theorem address_any (n : Int) (h0 : 0 ≤ n) (w : World) : Calls Tryz.prog 20 #[.int .u8 n] w (RetV (.string (addrB (n % 5))) w) := by
  have htm : n.tmod 5 = n % 5 := Int.tmod_eq_emod_of_nonneg h0
  have hlt : n % 5 < 5 := Int.emod_lt_of_pos n (by decide)
  have hge : 0 ≤ n % 5 := Int.emod_nonneg n (by decide)
  have HB : Hid (∀ o, Below w.heap.size w (w.alloc o)) := Lib.hid fun o => (Below.refl _ w).alloc (Nat.le_refl _) o
  rcases (by omega : n % 5 = 0 ∨ n % 5 = 1 ∨ n % 5 = 2 ∨ n % 5 = 3 ∨ n % 5 = 4) with h | h | h | h | h
  all_goals
    rw [h] at htm ⊢
    clear hlt hge h h0
    simp only [addrB]
    go_enter Tryz.func20, Tryz.ntmps20
    go_wp2_with fail
    go_ret
    exact ⟨rfl, HB.out _⟩
theorem new6_at {H0 H : Hs} {w0 w : World} {X : Nat → Prop} {ps : List Hp} (S : St H0 w0 X H w ps) (room : Int) (h0 : 0 ≤ room) (h1 : room ≤ 1048576) : Calls Tryz.prog 15 #[.int .i64 room] w (fun e w' => ∃ d, e = .returned (.tuple #[ptr d, .int .i64 0]) ∧ St H0 w0 X H w' (diskP d (freshD room) :: ps)) := by
  refine (new6_any S room).mono ?_
  rintro e w1 (⟨_, _, h⟩ | ⟨h, _⟩)
  · exact h
  · exact absurd ⟨h0, h1⟩ h
set_option maxRecDepth 100000 in
set_option maxHeartbeats 8000000 in
theorem examples9 (w : World) : Calls Tryz.prog 14 #[] w (RetV (.bool true) w) := by
  have HS := Lib.hid (St.start (ag_emp w))
  go_enter Tryz.func14, Tryz.ntmps14
  go_wp2_with fail
  refine (new6_at HS.out 10000 (by decide) (by decide)).mono ?_
  rintro e w1 ⟨d, rfl, S1⟩
  have HS1 := Lib.hid S1
  clear S1 HS
  simp only [ptr]
  go_wp2_with fail
  refine (newC_any HS1.out (freshD_ok (by decide)) nameC).mono ?_
  rintro e w2 ⟨c, rfl, S2⟩
  rw [new_fresh] at S2
  have HS2 := Lib.hid S2
  clear S2 HS1
  obtain ⟨w3, hw3⟩ : ∃ w3, w3 = w2.alloc (.cells tell1.cells.toArray 115) := ⟨_, rfl⟩
  obtain ⟨H1, hle, hb, S3⟩ := (HS2.out.alloc' (.cells tell1.cells.toArray 115) w2.heap.size rfl).keep 0 rfl
  rw [← hw3] at S3
  have HS3 := Lib.hid S3
  have HROW : Hid (Row H1 (some ⟨w2.heap.size, 0, none⟩) ([tell1].flatMap TellS.cells)) := Lib.hid (.inr ⟨w2.heap.size, 0, _, _, _, rfl, hb, fun j u hu => by
    rw [Nat.zero_add]
    simpa using hu⟩)
  have HW3 := Lib.hid hw3
  have hok : ∀ t ∈ [tell1], t.ok := by
    intro t ht
    rw [List.mem_singleton.1 ht]
    exact ⟨⟨by decide, by decide⟩, ⟨by decide, by decide⟩, ⟨by decide, by decide⟩, ⟨by decide, by decide⟩, ⟨by decide, by decide⟩, ⟨by decide, by decide⟩, ⟨by decide, by decide⟩, ⟨by decide, by decide⟩, ⟨by decide, by decide⟩, ⟨by decide, by decide⟩, by decide, by decide, by decide⟩
  have HSC := Lib.hid (script_of HS3.out _ 1 [tell1] HROW.out (by decide) hok)
  clear S3 hw3 hok hb
  go_wp2_with fail
  have eW := HW3.out
  simp only [TellS.cells, tell1] at eW
  rw [← eW]
  clear eW HW3
  refine HSC.out.mono ?_
  rintro e w4 ⟨A4, c4, rfl, S4⟩
  obtain ⟨l, hl⟩ : ∃ l, l = scriptL [tell1] := ⟨_, rfl⟩
  rw [← hl] at S4 ⊢
  have hA : A4 = none → l.length = 0 ∧ c4 = 0 := by
    obtain ⟨A', c', e, _, h⟩ := own_form (S4.own_at 0 rfl)
    cases e
    exact h
  have HL := Lib.hid hl
  have hl1 : l.length = 1 := by rw [hl, scr1]; rfl
  have HSC2 := Lib.hid (script_any (C := freshC) S4 1 rfl A4 c4 l hA (fun ad e j u h => by subst e; exact (rowO_of (S4.own_at 0 rfl)).cells j u h) (by rw [hl1]; decide))
  clear S4 HSC HS3 HROW HS2 hA hl hl1
  go_wp2_with fail
  refine HSC2.out.mono ?_
  rintro e w5 ⟨rfl, S5⟩
  obtain ⟨C2, D2, e1, k1, s1, n1, a1, o1⟩ := ex_plain
  obtain ⟨C3, e3, a3, k3⟩ := ex_third k1 s1 a1
  have e2 : askF0 C2 D2 (accX a0S) = ⟨some r5, 0, C2, D2⟩ := ask_known rfl (by rw [k1]; rfl)
  have hC1 : ({ freshC with script := freshC.script ++ l } : Cl) = { freshC with script := scriptL [tell1] } := by rw [HL.out]; rfl
  rw [hC1] at S5
  have HA1 := account_any ((S5.pick 2 rfl).pick 1 rfl) (freshD_ok (by decide)) a0S ⟨by show (0 : Int) ≤ 1; omega, by show (1 : Int) + 3 ≤ _; omega, by show 0 + 3 ≤ _; omega, fun s hs => by
    have hs : s ∈ scriptL [tell1] := hs
    rw [scr1, List.mem_singleton] at hs
    rw [hs]
    exact Nat.le_trans (one_size (by decide)) (by decide)⟩
  rw [e1] at HA1
  have HA1 := Lib.hid HA1
  have HE : Hid (askF0 C2 D2 (accX a0S) = ⟨some r5, 0, C2, D2⟩ ∧ askF0 C2 D2 (accX a9S) = ⟨none, 4, C3, D2⟩ ∧ C3.asked.length = 4 ∧ C3.known.length = 1 ∧ C2.next = 2 ∧ C2.script = [] ∧ C2.asked.length = 1 ∧ D2.ok ∧ C2.known = [(accX a0S, r5)]) := Lib.hid ⟨e2, e3, a3, k3, n1, s1, a1, o1, k1⟩
  clear S5 HSC2 e1 k1 s1 n1 a1 o1 e2 e3 a3 k3 hC1
  simp only [a0S] at HA1
  go_wp2_with fail
  refine HA1.out.mono ?_
  rintro e w6 ⟨rfl, S6⟩
  have HS7 := Lib.hid (S6.alloc' (.cells acc0 26) w6.heap.size rfl)
  clear S6 HA1
  simp only [Option.map_some, Option.getD_some, ReplyS.acc, r5, accC, acc0] at HS7 ⊢
  go_wp2_with (first
    | (refine wpList_store_st (cs := accC 5 0 0 0 0 ⟨#[]⟩) 0 HS7.out rfl rfl 26 (.tmp 4) (.tmp 33) rfl rfl rfl szAcc rfl (oneAcc _ _ _ _ _ _) ?_)
    | fail)
  intro w7 S7
  have HA2 := account_any ((S7.pick 2 rfl).pick 2 rfl) HE.out.2.2.2.2.2.2.2.1 a0S ⟨by rw [HE.out.2.2.2.2.1]; decide, by rw [HE.out.2.2.2.2.1]; decide, by rw [HE.out.2.2.2.2.2.2.1]; decide, fun s hs => by rw [HE.out.2.2.2.2.2.1] at hs; cases hs⟩
  rw [HE.out.1] at HA2
  have HA2 := Lib.hid HA2
  clear S7 HS7
  simp only [a0S] at HA2
  go_wp2_with fail
  refine HA2.out.mono ?_
  rintro e w8 ⟨rfl, S8⟩
  have HS9 := Lib.hid (S8.alloc' (.cells acc0 26) w8.heap.size rfl)
  clear S8 HA2
  simp only [Option.map_some, Option.getD_some, ReplyS.acc, r5, accC, acc0] at HS9 ⊢
  go_wp2_with (first
    | (refine wpList_store_st (cs := accC 5 0 0 0 0 ⟨#[]⟩) 0 HS9.out rfl rfl 26 (.tmp 6) (.tmp 38) rfl rfl rfl szAcc rfl (oneAcc _ _ _ _ _ _) ?_)
    | fail)
  intro w9 S9
  have HA3 := account_any ((S9.pick 2 rfl).pick 2 rfl) HE.out.2.2.2.2.2.2.2.1 a9S ⟨by rw [HE.out.2.2.2.2.1]; decide, by rw [HE.out.2.2.2.2.1]; decide, by rw [HE.out.2.2.2.2.2.2.1]; decide, fun s hs => by rw [HE.out.2.2.2.2.2.1] at hs; cases hs⟩
  rw [HE.out.2.1] at HA3
  have HA3 := Lib.hid HA3
  clear S9 HS9
  simp only [a9S] at HA3
  go_wp2_with fail
  refine HA3.out.mono ?_
  rintro e w10 ⟨rfl, S10⟩
  have HS11 := Lib.hid (S10.alloc' (.cells acc0 26) w10.heap.size rfl)
  clear S10 HA3
  simp only [Option.map_none, Option.getD_none, accC, acc0] at HS11 ⊢
  go_wp2_with (first
    | (refine wpList_store_st (cs := accC 0 0 0 0 0 ⟨#[]⟩) 0 HS11.out rfl rfl 26 (.tmp 8) (.tmp 43) rfl rfl rfl szAcc rfl (oneAcc _ _ _ _ _ _) ?_)
    | fail)
  intro w11 S11
  have p0 : w11.cell? ⟨w6.heap.size, 0, none⟩ = some (.int .u64 5) := S11.cell 4 rfl rfl
  have p1 : w11.cell? ⟨w6.heap.size, 1, none⟩ = some (.int .u64 0) := S11.cell 4 rfl rfl
  have p2 : w11.cell? ⟨w6.heap.size, 2, none⟩ = some (.int .u64 0) := S11.cell 4 rfl rfl
  have p3 : w11.cell? ⟨w6.heap.size, 3, none⟩ = some (.int .u64 0) := S11.cell 4 rfl rfl
  have p4 : w11.cell? ⟨w6.heap.size, 4, none⟩ = some (.int .u64 0) := S11.cell 4 rfl rfl
  have p5 : w11.cell? ⟨w6.heap.size, 5, none⟩ = some (.string ⟨#[]⟩) := S11.cell 4 rfl rfl
  have q0 : w11.cell? ⟨w8.heap.size, 0, none⟩ = some (.int .u64 5) := S11.cell 3 rfl rfl
  have q1 : w11.cell? ⟨w8.heap.size, 1, none⟩ = some (.int .u64 0) := S11.cell 3 rfl rfl
  have q2 : w11.cell? ⟨w8.heap.size, 2, none⟩ = some (.int .u64 0) := S11.cell 3 rfl rfl
  have q3 : w11.cell? ⟨w8.heap.size, 3, none⟩ = some (.int .u64 0) := S11.cell 3 rfl rfl
  have q4 : w11.cell? ⟨w8.heap.size, 4, none⟩ = some (.int .u64 0) := S11.cell 3 rfl rfl
  have q5 : w11.cell? ⟨w8.heap.size, 5, none⟩ = some (.string ⟨#[]⟩) := S11.cell 3 rfl rfl
  have HS12 := Lib.hid S11
  have HAS := Lib.hid (asked_any S11 1 rfl (by rw [HE.out.2.2.1]; decide))
  clear S11 HS11
  go_wp2_with fail
  refine HAS.out.mono ?_
  rintro e w12 ⟨A12, n12, rfl, S12⟩
  have HK := known_any S12 1 rfl
  rw [HE.out.2.2.2.1] at HK
  rw [HE.out.2.2.1]
  have HK := Lib.hid HK
  clear S12 HAS HS12 p0 p1 p2 p3 p4 p5 q0 q1 q2 q3 q4 q5
  go_wp2_with fail
  refine HK.out.mono ?_
  rintro e w13 ⟨rfl, S13⟩
  have HB := Lib.hid S13.below
  clear S13 HK
  go_wp2_with fail
  go_ret
  exact ⟨rfl, HB.out⟩
end Go.Proofs.YtdnpobjokajigaaGreatDoor

namespace Go.Proofs.YtdnpobjokajigaaGreatDoor
open Go.RowKit Go.Proofs K
set_option linter.unusedVariables false
theorem gotA_put {x : AskS} {n : Int} (hid : W64 n) (ha : W64 x.a) (hb : W64 x.b) (hc : W64 x.c) (hd : W64 x.d) (h : AskOk n x.addr x.a x.b x.c x.d x.kind) : gotA (x.put n).data.toList = some { x with id := n } := by
  have e : x.put n = putL (askTs n x.addr x.a x.b x.c x.d x.kind) := by unfold AskS.put; rw [putAskR_ok h]
  rw [e]
  unfold gotA
  rw [askF_put hid ha hb hc hd h]
  simp only [Option.map_some]
  have e2 : asAsk (askC n x.addr x.a x.b x.c x.d x.kind) = { x with id := n } := rfl
  rw [e2, putAskR_ok h, if_pos (bs_list _).symm]
def nrS (id n a b c d : Int) : ByteArray := (putReplyR 1 id n a b c d ⟨#[]⟩ 0 0 0 0).1
def nrO : ByteArray := (putReplyR 2 2 0 0 0 0 0 ⟨#[]⟩ 0 0 0 0).1
def askedN (x : AskS) (m : Nat) : List ByteArray := (List.range m).map fun i : Nat => x.put ((i : Int) + 1)
theorem askedN1 (x : AskS) : askedN x 1 = [x.put 1] := rfl
theorem askedN3 (x : AskS) : askedN x 3 = [x.put 1, x.put 2, x.put 3] := rfl
def Nbs (id n a b c d : Int) (x : AskS) (T : Told) : Prop :=
  ∃ m, T.c.asked = askedN x m ∧ (((id = 1 ∧ m = 1 ∨ id = 3 ∧ m = 3) ∧ T.out = some ⟨0, n, a, b, c, d, ⟨#[]⟩, 0, 0, 0, 0⟩ ∧ T.err = 0) ∨ (id ≠ 1 ∧ id ≠ 3 ∧ m = 3 ∧ T.out = none ∧ T.err = 4))
theorem nbs_plain {id n a b c d : Int} (hid : W64 id) (hn : W64 n) (ha : W64 a) (hb : W64 b) (hc : W64 c) (hd : W64 d) :
    Nbs id n a b c d (accX (addrB 1)) (askF0 { freshC with script := [nrS id n a b c d, nrO, nrS id n a b c d] } (freshD 100000) (accX (addrB 1))) := by
  obtain ⟨C0, hC0⟩ : ∃ C0 : Cl, C0 = { freshC with script := [nrS id n a b c d, nrO, nrS id n a b c d] } := ⟨_, rfl⟩
  obtain ⟨x, hx⟩ : ∃ x, x = accX (addrB 1) := ⟨_, rfl⟩
  have hk : x.kind = 1 := by rw [hx]; rfl
  have h20 : x.addr.size = 20 := by rw [hx]; rfl
  rw [← hC0, ← hx]
  have hs : C0.script = nrS id n a b c d :: [nrO, nrS id n a b c d] := by rw [hC0]
  have hg : gotF x.kind (nrS id n a b c d).data.toList = some ⟨id, n, a, b, c, d, ⟨#[]⟩, 0, 0, 0, 0⟩ := by rw [hk]; exact gotF_one hid hn ha hb hc hd (Nat.zero_le _)
  have hcr : gotF x.kind nrO.data.toList = none := by rw [hk]; exact gotF_cross ⟨by decide, by decide⟩
  obtain ⟨R, hR⟩ : ∃ R : ReplyS, R = ⟨0, n, a, b, c, d, ⟨#[]⟩, 0, 0, 0, 0⟩ := ⟨_, rfl⟩
  have hz : (⟨id, n, a, b, c, d, ⟨#[]⟩, 0, 0, 0, 0⟩ : ReplyS).zeroId = R := by rw [hR]; rfl
  have hrs : (R.put x.kind).size ≤ 100 := by
    rw [hk, hR]
    exact one_size (Nat.zero_le _)
  have hadd : addD (freshD 100000) nameC (recB x R) = (0, addedD (freshD 100000) nameC (recB x R)) := add_fits (freshD_calm _) (by have := rec_size h20 hrs; omega) (by
    have := rec_size h20 hrs
    show ((0 : Nat) : Int) + 8 + _ ≤ 100000
    omega)
  have hn1 : C0.next = 1 := by rw [hC0]; rfl
  have ha1 : C0.asked = [] := by rw [hC0]; rfl
  have hnm : C0.name = nameC := by rw [hC0]; rfl
  have hkn : lookR C0.known x = none := by rw [hC0]; rfl
  rw [ask_new h20 hkn]
  by_cases h1 : id = 1
  · rw [ask_hit (x := x) hs hg (by rw [hn1]; exact h1), hz, hnm, hadd, if_pos rfl]
    refine ⟨1, ?_, .inl ⟨.inl ⟨h1, rfl⟩, by rw [hR], rfl⟩⟩
    simp [Cl.learn, Cl.asks, ha1, hn1, askedN1]
  · rw [ask_miss (x := x) hs (fun G hG => by rw [hg] at hG; cases hG; rw [hn1]; exact h1)]
    rw [ask_miss (x := x) (C := C0.asks x [nrO, nrS id n a b c d]) rfl (fun G hG => by rw [hcr] at hG; cases hG)]
    by_cases h3 : id = 3
    · rw [ask_hit (x := x) (C := (C0.asks x [nrO, nrS id n a b c d]).asks x [nrS id n a b c d]) rfl hg (by simp only [Cl.asks, hn1]; exact h3), hz]
      rw [show ((C0.asks x [nrO, nrS id n a b c d]).asks x [nrS id n a b c d]).name = nameC from hnm, hadd, if_pos rfl]
      refine ⟨3, ?_, .inl ⟨.inr ⟨h3, rfl⟩, by rw [hR], rfl⟩⟩
      simp [Cl.learn, Cl.asks, ha1, hn1, askedN3]
    · rw [ask_miss (x := x) (C := (C0.asks x [nrO, nrS id n a b c d]).asks x [nrS id n a b c d]) rfl (fun G hG => by rw [hg] at hG; cases hG; simp only [Cl.asks, hn1]; exact h3)]
      refine ⟨3, ?_, .inr ⟨h1, h3, rfl, rfl, rfl⟩⟩
      show Cl.asked (askN 0 _ _ x).c = _
      simp [askN, Cl.asks, ha1, hn1, askedN3]
end Go.Proofs.YtdnpobjokajigaaGreatDoor

namespace Go.Proofs.YtdnpobjokajigaaGreatDoor
open Go.RowKit Go.Proofs K
set_option linter.unusedVariables false

/-- What an ask leaves. -/
structure After (C : Cl) (T : Told) : Prop where
  d : T.d.ok
  name : T.c.name = C.name
  lo : C.next ≤ T.c.next
  hi : T.c.next ≤ C.next + 3
  asked : T.c.asked.length ≤ C.asked.length + 3
  script : ∀ s ∈ T.c.script, s ∈ C.script
theorem askN_after : ∀ (n : Nat) (C : Cl) (D : Dk) (x : AskS), D.ok → (askN n C D x).d.ok ∧ (askN n C D x).c.name = C.name ∧ C.next ≤ (askN n C D x).c.next ∧ (askN n C D x).c.next ≤ C.next + n ∧ (askN n C D x).c.asked.length ≤ C.asked.length + n ∧ ∀ s ∈ (askN n C D x).c.script, s ∈ C.script
  | 0, C, D, x, h => ⟨h, rfl, Int.le_refl _, by show C.next ≤ _; omega, Nat.le_refl _, fun _ hs => hs⟩
  | n + 1, C, D, x, h => by
    obtain ⟨m1, m2, m3, m4, m5⟩ := try_name C x
    rw [askN_succ]
    have hd := add_ok h C.name (recB x (C.try x).1.1.zeroId)
    split
    · split
      · exact ⟨hd, m1, by show C.next ≤ (C.try x).2.next; omega, by show (C.try x).2.next ≤ _; omega, by show (C.try x).2.asked.length ≤ _; omega, m5⟩
      · exact ⟨hd, m1, by show C.next ≤ (C.try x).2.next; omega, by show (C.try x).2.next ≤ _; omega, by show (C.try x).2.asked.length ≤ _; omega, m5⟩
    · obtain ⟨k1, k2, k3, k4, k5, k6⟩ := askN_after n (C.try x).2 D x h
      exact ⟨k1, k2.trans m1, by omega, by omega, by omega, fun s hs => m5 s (k6 s hs)⟩
theorem ask_after (C : Cl) (D : Dk) (x : AskS) (h : D.ok) : After C (askF0 C D x) := by
  unfold askF0
  split
  · exact ⟨h, rfl, Int.le_refl _, by show C.next ≤ _; omega, by show C.asked.length ≤ _; omega, fun _ hs => hs⟩
  · split
    · exact ⟨h, rfl, Int.le_refl _, by show C.next ≤ _; omega, by show C.asked.length ≤ _; omega, fun _ hs => hs⟩
    · obtain ⟨k1, k2, k3, k4, k5, k6⟩ := askN_after 3 C D x h
      exact ⟨k1, k2, k3, k4, k5, k6⟩
/-- A client that may ask on k times. -/
structure Cl.may (C : Cl) (k : Nat) : Prop where
  lo : 0 ≤ C.next
  hi : C.next + 3 * k ≤ 1000000
  asked : C.asked.length + 3 * k ≤ 1000000
  script : ∀ s ∈ C.script, s.size ≤ 140737488355328
theorem Cl.may.ok {C : Cl} {k : Nat} (h : C.may (k + 1)) : C.ok := ⟨h.lo, by have := h.hi; omega, by have := h.asked; omega, h.script⟩
theorem Cl.may.next {C : Cl} {k : Nat} (h : C.may (k + 1)) {T : Told} (a : After C T) : T.c.may k := ⟨by have := h.lo; have := a.lo; omega, by have := h.hi; have := a.hi; omega, by have := h.asked; have := a.asked; omega, fun s hs => h.script s (a.script s hs)⟩
/-! ### ForkFull -/
def FullP (R : ReplyS) (T1 T2 T3 : Told) : Prop :=
  (T1.err = 5 ∧ T1.c.known.length = 0 ∧ used T1.d.files = 0 ∧ (T2.err = 0 ∨ T2.err = 5) ∧ T3.err = 4) ∨
  (T1.err = 0 ∧ T1.c.known.length = 1 ∧ T3.err = 0 ∧ T3.out = some R ∧ ((T2.err = 0 ∧ T3.c.known.length = 2) ∨ (T2.err = 5 ∧ T3.c.known.length = 1 ∧ used T3.d.files = used T1.d.files)))
theorem recB_65536 {x : AskS} {r : ReplyS} (h20 : x.addr.size = 20) (hm : (r.put x.kind).size ≤ 1000) : (recB x r).size ≤ 65536 := by
  have := rec_size h20 hm
  omega
theorem full_plain {room n a b c d n' a' b' c' d' : Int} (hr : room ≤ 300) (hn : W64 n) (ha : W64 a) (hb : W64 b) (hc : W64 c) (hd : W64 d) (hn' : W64 n') (ha' : W64 a') (hb' : W64 b') (hc' : W64 c') (hd' : W64 d') (T1 T2 T3 : Told)
    (h1 : T1 = askF0 { freshC with script := [nrS 1 n a b c d, nrS 2 n' a' b' c' d'] } (freshD room) (accX (addrB 0))) (h2 : T2 = askF0 T1.c T1.d (accX (addrB 1))) (h3 : T3 = askF0 T2.c T2.d (accX (addrB 0))) : FullP ⟨0, n, a, b, c, d, ⟨#[]⟩, 0, 0, 0, 0⟩ T1 T2 T3 := by
  obtain ⟨C0, hC0⟩ : ∃ C0 : Cl, C0 = { freshC with script := [nrS 1 n a b c d, nrS 2 n' a' b' c' d'] } := ⟨_, rfl⟩
  obtain ⟨D0, hD0⟩ : ∃ D0 : Dk, D0 = freshD room := ⟨_, rfl⟩
  obtain ⟨x, hx⟩ : ∃ x, x = accX (addrB 0) := ⟨_, rfl⟩
  obtain ⟨y, hy⟩ : ∃ y, y = accX (addrB 1) := ⟨_, rfl⟩
  have hxk : x.kind = 1 := by rw [hx]; rfl
  have hyk : y.kind = 1 := by rw [hy]; rfl
  have hxs : x.addr.size = 20 := by rw [hx]; rfl
  have hys : y.addr.size = 20 := by rw [hy]; rfl
  have hxy : x ≠ y := by rw [hx, hy]; decide
  rw [← hC0, ← hD0, ← hx] at h1
  rw [← hy] at h2
  rw [← hx] at h3
  have hs : C0.script = nrS 1 n a b c d :: [nrS 2 n' a' b' c' d'] := by rw [hC0]
  have hg : gotF x.kind (nrS 1 n a b c d).data.toList = some ⟨1, n, a, b, c, d, ⟨#[]⟩, 0, 0, 0, 0⟩ := by rw [hxk]; exact gotF_one ⟨by decide, by decide⟩ hn ha hb hc hd (Nat.zero_le _)
  have hg' : gotF y.kind (nrS 2 n' a' b' c' d').data.toList = some ⟨2, n', a', b', c', d', ⟨#[]⟩, 0, 0, 0, 0⟩ := by rw [hyk]; exact gotF_one ⟨by decide, by decide⟩ hn' ha' hb' hc' hd' (Nat.zero_le _)
  obtain ⟨R, hR⟩ : ∃ R : ReplyS, R = ⟨0, n, a, b, c, d, ⟨#[]⟩, 0, 0, 0, 0⟩ := ⟨_, rfl⟩
  obtain ⟨Q, hQ⟩ : ∃ Q : ReplyS, Q = ⟨0, n', a', b', c', d', ⟨#[]⟩, 0, 0, 0, 0⟩ := ⟨_, rfl⟩
  have hz : (⟨1, n, a, b, c, d, ⟨#[]⟩, 0, 0, 0, 0⟩ : ReplyS).zeroId = R := by rw [hR]; rfl
  have hz' : (⟨2, n', a', b', c', d', ⟨#[]⟩, 0, 0, 0, 0⟩ : ReplyS).zeroId = Q := by rw [hQ]; rfl
  rw [← hR]
  have hrs := recB_65536 (x := x) (r := R) hxs (by rw [hxk, hR]; exact Nat.le_trans (one_size (Nat.zero_le _)) (by show 100 + 0 ≤ _; omega))
  have hqs := recB_65536 (x := y) (r := Q) hys (by rw [hyk, hQ]; exact Nat.le_trans (one_size (Nat.zero_le _)) (by show 100 + 0 ≤ _; omega))
  have hn1 : C0.next = 1 := by rw [hC0]; rfl
  have hk0 : C0.known = [] := by rw [hC0]; rfl
  have hdc : D0.calm := by rw [hD0]; exact freshD_calm _
  have hdu : used D0.files = 0 := by rw [hD0]; rfl
  rw [ask_new hxs (by rw [hk0]; rfl), ask_hit (x := x) hs hg (by rw [hn1]), hz] at h1
  by_cases f1 : D0.room < (used D0.files : Int) + 8 + ((recB x R).size : Int)
  · rw [add_full hdc hrs f1, if_neg (show ¬ ((5 : Int) = 0) by decide)] at h1
    subst h1
    have hl2 : lookR (C0.asks x [nrS 2 n' a' b' c' d']).known y = none := by show lookR C0.known y = none; rw [hk0]; rfl
    rw [ask_new hys hl2, ask_hit (x := y) (C := C0.asks x [nrS 2 n' a' b' c' d']) rfl hg' (by simp only [Cl.asks, hn1]; rfl), hz'] at h2
    left
    refine ⟨rfl, by show C0.known.length = 0; rw [hk0]; rfl, hdu, ?_⟩
    by_cases f2 : D0.room < (used D0.files : Int) + 8 + ((recB y Q).size : Int)
    · rw [add_full hdc hqs f2, if_neg (show ¬ ((5 : Int) = 0) by decide)] at h2
      subst h2
      refine ⟨.inr rfl, ?_⟩
      rw [h3, ask_new hxs (by show lookR C0.known x = none; rw [hk0]; rfl), ask_empty rfl, ask_empty rfl, ask_empty rfl]
      rfl
    · rw [add_fits hdc hqs (by omega), if_pos rfl] at h2
      subst h2
      refine ⟨.inl rfl, ?_⟩
      rw [h3, ask_new hxs (by show lookR (putR C0.known y Q) x = none; rw [hk0]; simp [putR, lookR, Ne.symm hxy]), ask_empty rfl, ask_empty rfl, ask_empty rfl]
      rfl
  · rw [add_fits hdc hrs (by omega), if_pos rfl] at h1
    obtain ⟨D1, hD1⟩ : ∃ D1, D1 = addedD D0 C0.name (recB x R) := ⟨_, rfl⟩
    have hdc1 : D1.calm := by rw [hD1]; exact added_calm hdc _ _
    rw [← hD1] at h1
    have hk1 : ((C0.asks x [nrS 2 n' a' b' c' d']).learn x R).known = [(x, R)] := by show putR C0.known x R = _; rw [hk0]; rfl
    subst h1
    have hl2 : lookR ((C0.asks x [nrS 2 n' a' b' c' d']).learn x R).known y = none := by rw [hk1]; simp [lookR, hxy]
    rw [ask_new hys hl2, ask_hit (x := y) (C := (C0.asks x [nrS 2 n' a' b' c' d']).learn x R) rfl hg' (by simp only [Cl.learn, Cl.asks, hn1]; rfl), hz'] at h2
    right
    refine ⟨rfl, by rw [hk1]; rfl, ?_⟩
    by_cases f2 : D1.room < (used D1.files : Int) + 8 + ((recB y Q).size : Int)
    · rw [add_full hdc1 hqs f2, if_neg (show ¬ ((5 : Int) = 0) by decide)] at h2
      subst h2
      have hk2 : lookR ((((C0.asks x [nrS 2 n' a' b' c' d']).learn x R).asks y []).known) x = some R := by show lookR ((C0.asks x [nrS 2 n' a' b' c' d']).learn x R).known x = _; rw [hk1]; simp [lookR]
      rw [ask_known hxs hk2] at h3
      subst h3
      exact ⟨rfl, rfl, .inr ⟨rfl, by show ((C0.asks x [nrS 2 n' a' b' c' d']).learn x R).known.length = 1; rw [hk1]; rfl, rfl⟩⟩
    · rw [add_fits hdc1 hqs (by omega), if_pos rfl] at h2
      subst h2
      have hk3 : ((((C0.asks x [nrS 2 n' a' b' c' d']).learn x R).asks y []).learn y Q).known = [(x, R), (y, Q)] := by show putR ((C0.asks x [nrS 2 n' a' b' c' d']).learn x R).known y Q = _; rw [hk1]; simp [putR, hxy]
      rw [ask_known (r := R) hxs (by rw [hk3]; simp [lookR])] at h3
      subst h3
      exact ⟨rfl, rfl, .inl ⟨rfl, by rw [hk3]; rfl⟩⟩
end Go.Proofs.YtdnpobjokajigaaGreatDoor
