/-
  A reply that was put is got: plain.
  Clients: what is told, as functions; what a client knows, plain.
  Parts put together: two apart, a list of them apart, one of many, one with a fact.
  Disks: what they hold, plain; and as parts of memory.
  The disk's functions, walked: fresh, New, lay, step, sync.
-/
import Derived.Test.YtdnpobjokajigaaGreatDoorPart7
import Derived.Test.YtdnpobjokajigaaGreatDoorGetRep
import Derived.Test.YtdnpobjokajigaaGreatDoorPart3
import Derived.Test.YtdnpobjokajigaaGreatDoorK
import Derived.Test.YtdnpobjokajigaaGreatDoorPart2
import Derived.Test.YtdnpobjokajigaaGreatDoorPart1
namespace Go.Proofs.YtdnpobjokajigaaGreatDoor
open Go.RowKit Go.Proofs K

def replyF (kind : Int) (l : List UInt8) : Option (Array Value) := match decF l with
  | some (.list k) => (match replyR kind k with | some (a, []) => some a | _ => none)
  | _ => none
theorem replyD_of {kind : Int} {l : List UInt8} {o : Option (Array Value)} (h : ReplyD kind l o) : replyF kind l = o := by
  unfold replyF
  cases h with
  | bad h => rw [decF_of h]
  | text h => rw [decF_of h]
  | none h ha => rw [decF_of h]; simp only; rw [ha]
  | @more k k' a h ha hk =>
    rw [decF_of h]
    simp only
    rw [ha]
    cases k' with
    | nil => exact absurd rfl hk
    | cons => rfl
  | good h ha => rw [decF_of h]; simp only; rw [ha]
/-- What GetReply answers, by plain words. -/
theorem getReply_is {kind : Int} {l : List UInt8} {w w' : World} {e : Ending} (h : GetReplyP kind l w e w') :
    (Sealed l ∧ (kind = 1 ∨ kind = 2) ∧ e = .returned (.tuple #[.agg ((replyF kind (l.drop 4)).getD zReply), .bool (replyF kind (l.drop 4)).isSome])) ∨
    (¬ (Sealed l ∧ (kind = 1 ∨ kind = 2)) ∧ e = .returned (.tuple #[.agg zReply, .bool false])) := by
  obtain ⟨o, hG, he, _⟩ := h
  cases hG with
  | torn h => exact .inr ⟨fun h2 => h h2.1, he⟩
  | kind h h2 => exact .inr ⟨fun h3 => h3.2.elim h h2, he⟩
  | read h hk hD => exact .inl ⟨h, hk, by rw [he, replyD_of hD]⟩
theorem encL_sum : ∀ ts : List ByteArray, (encL (ts.map It.text)).length ≤ (ts.map fun s => s.size + 9).sum
  | [] => by simp [encL]
  | s :: ts => by
    have h2 := encL_sum ts
    have h4 : (textL s).length ≤ s.size + 9 := by
      have h5 := sizeL s
      unfold textL
      split
      · rename_i c hc
        rw [hc] at h5
        split
        · simp
        · rw [List.length_append, show aheadL 128 1 = [UInt8.ofNat 129] from rfl]; simp
      · rw [List.length_append]
        have := aheadL_len 128 s.data.toList.length
        omega
    rw [List.map_cons, encL, It.enc, List.length_append, List.map_cons, List.sum_cons]
    omega
theorem putL_sum (ts : List ByteArray) : (putL ts).data.toList.length ≤ (ts.map fun s => s.size + 9).sum + 9 := by
  have e : (putL ts).data.toList = aheadL 192 (encL (ts.map It.text)).length ++ encL (ts.map It.text) := by simp [putL, It.bytes, It.enc]
  have h2 := encL_sum ts
  have h4 := aheadL_len 192 (encL (ts.map It.text)).length
  rw [e, List.length_append]
  omega
theorem one_len {id n a b c d : Int} {code : ByteArray} (hc : code.size ≤ 24576) : (putL [numS id, numS n, wordS a b c d, code]).data.toList.length ≤ 65536 := by
  have h := putL_sum [numS id, numS n, wordS a b c d, code]
  have h1 := numS_size id
  have h2 := numS_size n
  have h3 := wordS_size a b c d
  simp only [List.map_cons, List.map_nil, List.sum_cons, List.sum_nil] at h
  omega
theorem two_len {id a b c d : Int} : (putL [numS id, wordS a b c d]).data.toList.length ≤ 65536 := by
  have h := putL_sum [numS id, wordS a b c d]
  have h1 := numS_size id
  have h3 := wordS_size a b c d
  simp only [List.map_cons, List.map_nil, List.sum_cons, List.sum_nil] at h
  omega
theorem replyR_one {id n a b c d : Int} {code : ByteArray} (hid : W64 id) (hn : W64 n) (ha : W64 a) (hb : W64 b) (hc : W64 c) (hd : W64 d) (hl : code.size ≤ 24576) :
    replyR 1 ([numS id, numS n, wordS a b c d, code].map It.text) = some (replyC id n a b c d code 0 0 0 0, []) := by
  obtain ⟨e1, e2, e3, e4⟩ := word_back ha hb hc hd
  simp only [List.map_cons, List.map_nil]
  unfold replyR
  rw [numR_num hid, Option.bind_some]
  simp only
  rw [if_neg (by decide), numR_num hn, Option.bind_some, txtR_size (by rw [wordS_size]; rfl), Option.bind_some]
  simp only
  rw [txtR_any (by decide), Option.bind_some]
  simp only
  rw [if_neg (by omega), e1, e2, e3, e4]
theorem replyR_two {id a b c d : Int} (hid : W64 id) (ha : W64 a) (hb : W64 b) (hc : W64 c) (hd : W64 d) :
    replyR 2 ([numS id, wordS a b c d].map It.text) = some (replyC id 0 0 0 0 0 ⟨#[]⟩ a b c d, []) := by
  obtain ⟨e1, e2, e3, e4⟩ := word_back ha hb hc hd
  simp only [List.map_cons, List.map_nil]
  unfold replyR
  rw [numR_num hid, Option.bind_some]
  simp only
  rw [if_pos trivial, txtR_size (by rw [wordS_size]; rfl), Option.map_some, e1, e2, e3, e4]
/-- A reply of an account is none of a slot. -/
theorem replyR_wrong {id n a b c d : Int} {code : ByteArray} (hid : W64 id) : replyR 2 ([numS id, numS n, wordS a b c d, code].map It.text) = none := by
  have h := numS_size n
  simp only [List.map_cons, List.map_nil]
  unfold replyR
  rw [numR_num hid, Option.bind_some]
  simp only
  rw [if_pos trivial]
  unfold txtR
  simp only
  rw [if_neg (by omega)]
  rfl
theorem replyB_list (ts : List ByteArray) : (replyB ts).data.toList = (sumS (putL ts)).data.toList ++ (putL ts).data.toList := by simp [replyB]
theorem sum4 (s : ByteArray) : (sumS s).data.toList.length = 4 := by rw [sizeL, sumS_size]
theorem replyB_drop (ts : List ByteArray) : (replyB ts).data.toList.drop 4 = (putL ts).data.toList := by rw [replyB_list, List.drop_left' (sum4 _)]
theorem replyB_take (ts : List ByteArray) : (replyB ts).data.toList.take 4 = (sumS (putL ts)).data.toList := by rw [replyB_list, List.take_left' (sum4 _)]
theorem sealed_put (ts : List ByteArray) : Sealed (replyB ts).data.toList := by
  refine ⟨by rw [replyB_list, List.length_append, sum4]; omega, ?_⟩
  rw [replyB_drop, replyB_take, bs_list, bs_list]
theorem getReply_one {id n a b c d : Int} {code : ByteArray} (hid : W64 id) (hn : W64 n) (ha : W64 a) (hb : W64 b) (hc : W64 c) (hd : W64 d) (hl : code.size ≤ 24576) {w w' : World} {e : Ending}
    (hG : GetReplyP 1 (replyB [numS id, numS n, wordS a b c d, code]).data.toList w e w') : e = .returned (.tuple #[.agg (replyC id n a b c d code 0 0 0 0), .bool true]) := by
  rcases getReply_is hG with ⟨_, _, he⟩ | ⟨hn, _⟩
  · rw [he, replyB_drop]
    unfold replyF
    rw [decF_put (one_len hl)]
    simp only
    rw [replyR_one hid hn ha hb hc hd hl]
    rfl
  · exact absurd ⟨sealed_put _, .inl rfl⟩ hn
theorem getReply_wrong {id n a b c d : Int} {code : ByteArray} (hid : W64 id) (hl : code.size ≤ 24576) {w w' : World} {e : Ending}
    (hG : GetReplyP 2 (replyB [numS id, numS n, wordS a b c d, code]).data.toList w e w') : e = .returned (.tuple #[.agg zReply, .bool false]) := by
  rcases getReply_is hG with ⟨_, _, he⟩ | ⟨_, he⟩
  · rw [he, replyB_drop]
    unfold replyF
    rw [decF_put (one_len hl)]
    simp only
    rw [replyR_wrong hid]
    rfl
  · exact he
theorem getReply_two {id a b c d : Int} (hid : W64 id) (ha : W64 a) (hb : W64 b) (hc : W64 c) (hd : W64 d) {w w' : World} {e : Ending}
    (hG : GetReplyP 2 (replyB [numS id, wordS a b c d]).data.toList w e w') : e = .returned (.tuple #[.agg (replyC id 0 0 0 0 0 ⟨#[]⟩ a b c d), .bool true]) := by
  rcases getReply_is hG with ⟨_, _, he⟩ | ⟨hn, _⟩
  · rw [he, replyB_drop]
    unfold replyF
    rw [decF_put two_len]
    simp only
    rw [replyR_two hid ha hb hc hd]
    rfl
  · exact absurd ⟨sealed_put _, .inr rfl⟩ hn
end Go.Proofs.YtdnpobjokajigaaGreatDoor

namespace Go.Proofs.YtdnpobjokajigaaGreatDoor
open Go.RowKit Go.Proofs K
set_option linter.unusedVariables false

/-- A reply. -/
structure ReplyS where
  id : Int
  n : Int
  a : Int
  b : Int
  c : Int
  d : Int
  code : ByteArray
  e : Int
  f : Int
  g : Int
  h : Int
def ReplyS.cells (r : ReplyS) : Array Value := replyC r.id r.n r.a r.b r.c r.d r.code r.e r.f r.g r.h
def zRep : ReplyS := ⟨0, 0, 0, 0, 0, 0, ⟨#[]⟩, 0, 0, 0, 0⟩
theorem zRep_cells : zRep.cells = zReply := rfl
def asRep (x : Array Value) : ReplyS := match x.toList with
  | [.int _ id, .int _ n, .int _ a, .int _ b, .int _ c, .int _ d, .string code, .int _ e, .int _ f, .int _ g, .int _ h] => ⟨id, n, a, b, c, d, code, e, f, g, h⟩
  | _ => zRep
theorem asRep_cells (r : ReplyS) : asRep r.cells = r := rfl
def asAsk (x : Array Value) : AskS := match x.toList with
  | [.int _ id, .string s, .int _ a, .int _ b, .int _ c, .int _ d, .int _ k] => ⟨id, s, a, b, c, d, k⟩
  | _ => ⟨0, ⟨#[]⟩, 0, 0, 0, 0, 0⟩
theorem asAsk_cells (x : AskS) : asAsk x.cells = x := rfl
def zAskS : AskS := ⟨0, ⟨#[]⟩, 0, 0, 0, 0, 0⟩
theorem replyF_form {kind : Int} {l : List UInt8} {x : Array Value} (h : replyF kind l = some x) : (asRep x).cells = x := by
  unfold replyF at h
  split at h
  · split at h
    · rename_i h2
      obtain ⟨id, nn, a, b, c, d, code, e, f, g, h, rfl⟩ := replyR_form h2
      cases h
      rfl
    · cases h
  · cases h
theorem askF_form {l : List UInt8} {x : Array Value} (h : askF l = some x) : (asAsk x).cells = x := by
  unfold askF at h
  split at h
  · split at h
    · rename_i h2
      obtain ⟨id, s, a, b, c, d, k, rfl⟩ := askR_form h2
      cases h
      rfl
    · cases h
  · cases h
instance (l : List UInt8) : Decidable (Sealed l) := inferInstanceAs (Decidable (_ ∧ _))
/-- What GetReply answers. -/
def gotF (kind : Int) (l : List UInt8) : Option ReplyS := if Sealed l ∧ (kind = 1 ∨ kind = 2) then (replyF kind (l.drop 4)).map asRep else none
theorem got_any (kind : Int) (l : List UInt8) (hn : l.length ≤ 140737488355328) (w : World) : Calls Tryz.prog 63 #[.int .i64 kind, .string (bs l)] w (RetV (.tuple #[.agg ((gotF kind l).getD zRep).cells, .bool (gotF kind l).isSome]) w) := by
  have key : Calls Tryz.prog 63 #[.int .i64 kind, .string (bs l)] w (GetReplyP kind l w) := by
    by_cases h : l.length < 4
    · exact getReply_short kind l h w
    · exact getReply_long kind l (by omega) hn w
  refine key.mono ?_
  intro e w' hG
  refine ⟨?_, ?_⟩
  · rcases getReply_is hG with ⟨h1, h2, rfl⟩ | ⟨h1, rfl⟩
    · unfold gotF
      rw [if_pos ⟨h1, h2⟩]
      cases hf : replyF kind (l.drop 4) with
      | none => rfl
      | some x => simp only [Option.getD_some, Option.map_some, Option.isSome_some, replyF_form hf]
    · unfold gotF
      rw [if_neg h1]
      rfl
  · obtain ⟨o, _, _, hb⟩ := hG
    exact hb
/-- What GetAsk answers. -/
def gotA (l : List UInt8) : Option AskS := match (askF l).map asAsk with
  | some x => if (putAskR x.id x.addr x.a x.b x.c x.d x.kind).1 = bs l then some x else none
  | none => none
theorem gotAsk_any (l : List UInt8) (w : World) : Calls Tryz.prog 22 #[.string (bs l)] w (RetV (.tuple #[.agg ((gotA l).getD zAskS).cells, .bool (gotA l).isSome]) w) := by
  refine (getAsk_any l w).mono ?_
  intro e w' hG
  refine ⟨?_, hG.2⟩
  rcases getAsk_is hG with ⟨id, addr, a, b, c, d, k, h1, h2, rfl⟩ | ⟨rfl, h1⟩
  · unfold gotA
    rw [h1]
    simp only [Option.map_some]
    rw [if_pos (by exact h2)]
    rfl
  · unfold gotA
    cases hf : askF l with
    | none => rfl
    | some x =>
      simp only [Option.map_some]
      have h2 := askF_form hf
      rw [if_neg (h1 _ _ _ _ _ _ _ (by rw [hf, ← h2]; rfl))]
      rfl

/-- A client. -/
structure Cl where
  name : ByteArray
  known : List (AskS × ReplyS)
  script : List ByteArray
  asked : List ByteArray
  next : Int
def lookR : List (AskS × ReplyS) → AskS → Option ReplyS
  | [], _ => none
  | (y, q) :: l, x => if y = x then some q else lookR l x
def putR : List (AskS × ReplyS) → AskS → ReplyS → List (AskS × ReplyS)
  | [], x, r => [(x, r)]
  | (y, q) :: l, x, r => if y = x then (x, r) :: l else (y, q) :: putR l x r
def repM (l : List (AskS × ReplyS)) : List (AskS × Value) := l.map fun p => (p.1, .agg p.2.cells)
theorem repM_look (x : AskS) : ∀ l : List (AskS × ReplyS), mlook (repM l) x = (lookR l x).map fun r => Value.agg r.cells
  | [] => rfl
  | (y, q) :: l => by
    have ih := repM_look x l
    unfold lookR
    by_cases h : y = x
    · simp [mlook, repM, h]
    · simp only [mlook, repM, List.map_cons, List.find?_cons, h, decide_false, if_false] at ih ⊢
      exact ih
theorem repM_put (x : AskS) (r : ReplyS) : ∀ l : List (AskS × ReplyS), put (repM l) x (.agg r.cells) = repM (putR l x r)
  | [] => rfl
  | (y, q) :: l => by
    have ih := repM_put x r l
    unfold putR
    by_cases h : y = x
    · simp [put, repM, h, List.findIdx?_cons]
    · simp only [put, repM, List.map_cons, List.findIdx?_cons, h, decide_false, Bool.false_eq_true, if_false] at ih ⊢
      cases hq : List.findIdx? (fun p : AskS × Value => decide (p.1 = x)) (l.map fun p => (p.1, Value.agg p.2.cells)) with
      | none => rw [hq] at ih; simpa using ih
      | some i => rw [hq] at ih; simpa using ih
theorem repM_len (l : List (AskS × ReplyS)) : (repM l).length = l.length := by simp [repM]
def AskS.put (x : AskS) (n : Int) : ByteArray := (putAskR n x.addr x.a x.b x.c x.d x.kind).1
def ReplyS.put (r : ReplyS) (kind : Int) : ByteArray := (putReplyR kind r.id r.n r.a r.b r.c r.d r.code r.e r.f r.g r.h).1
/-- One ask: what is told, and the client behind it. -/
def Cl.try (C : Cl) (x : AskS) : (ReplyS × Bool) × Cl :=
  match C.script with
  | [] => ((zRep, false), { C with next := C.next + 1, asked := C.asked ++ [x.put C.next] })
  | s :: r => (((gotF x.kind s.data.toList).getD zRep, (gotF x.kind s.data.toList).isSome && decide (((gotF x.kind s.data.toList).getD zRep).id = C.next)), { C with next := C.next + 1, asked := C.asked ++ [x.put C.next], script := r })
end Go.Proofs.YtdnpobjokajigaaGreatDoor

namespace Go.Proofs.YtdnpobjokajigaaGreatDoor.K
open Go.RowKit
set_option linter.unusedVariables false

/-- Nothing. -/
def empP : Hp := ⟨fun _ _ => True, fun _ h => h⟩
/-- Two, apart. -/
def star (p q : Hp) : Hp := ⟨fun F w => ∃ F1 F2, p.holds F1 w ∧ q.holds F2 w ∧ (∀ b, F1 b → F b) ∧ (∀ b, F2 b → F b) ∧ ∀ b, F1 b → ¬ F2 b,
  fun h ⟨F1, F2, h1, h2, s1, s2, d⟩ => ⟨F1, F2, p.loc (fun b hb => h b (s1 b hb)) h1, q.loc (fun b hb => h b (s2 b hb)) h2, s1, s2, d⟩⟩
/-- A list of them, apart. -/
def starL : List Hp → Hp
  | [] => empP
  | p :: r => star p (starL r)
/-- One of many. -/
def exP {α : Type} (p : α → Hp) : Hp := ⟨fun F w => ∃ a, (p a).holds F w, fun h ⟨a, ha⟩ => ⟨a, (p a).loc h ha⟩⟩
/-- One, with a fact. -/
def factP (φ : Prop) (p : Hp) : Hp := ⟨fun F w => φ ∧ p.holds F w, fun h ⟨a, ha⟩ => ⟨a, p.loc h ha⟩⟩
section
variable {H0 H : Hs} {w0 w : World} {X : Nat → Prop} {ps : List Hp}
theorem St.unstar {p q : Hp} (h : St H0 w0 X H w ps) (i : Nat) (hi : ps[i]? = some (star p q)) : St H0 w0 X H w (p :: q :: ps.eraseIdx i) :=
  h.split i hi fun F ⟨F1, F2, h1, h2, s1, s2, d⟩ => ⟨F1, F2, h1, h2, s1, s2, d⟩
theorem St.mkstar {p q : Hp} (h : St H0 w0 X H w (p :: q :: ps)) : St H0 w0 X H w (star p q :: ps) :=
  h.join fun F1 F2 h1 h2 d => ⟨F1, F2, h1, h2, fun b hb => .inl hb, fun b hb => .inr hb, d⟩
theorem St.mkemp (h : St H0 w0 X H w ps) : St H0 w0 X H w (empP :: ps) :=
  h.more (qs := [empP]) ⟨rfl, rfl, rfl, Nat.le_refl _, fun _ _ _ => rfl, Le.refl _, fun _ _ h => .inl h, h.ag, none_, none_, trivial, fun _ h => h.elim, fun _ h => h.elim, fun _ h => h.elim, trivial⟩
theorem St.unex {α : Type} {p : α → Hp} (h : St H0 w0 X H w ps) (i : Nat) (hi : ps[i]? = some (exP p)) : ∃ a, St H0 w0 X H w (p a :: ps.eraseIdx i) := by
  obtain ⟨F, ⟨a, hp⟩, hF, k⟩ := h.step hi
  exact ⟨a, k H w [p a] (St.begin h.ag hp hF)⟩
theorem St.mkex {α : Type} {p : α → Hp} (a : α) (h : St H0 w0 X H w (p a :: ps)) : St H0 w0 X H w (exP p :: ps) := h.see 0 rfl fun F hp => ⟨a, hp⟩
theorem St.unfact {φ : Prop} {p : Hp} (h : St H0 w0 X H w ps) (i : Nat) (hi : ps[i]? = some (factP φ p)) : φ ∧ St H0 w0 X H w (p :: ps.eraseIdx i) := by
  obtain ⟨F, ⟨a, hp⟩, hF, k⟩ := h.step hi
  exact ⟨a, k H w [p] (St.begin h.ag hp hF)⟩
theorem St.mkfact {φ : Prop} {p : Hp} (hφ : φ) (h : St H0 w0 X H w (p :: ps)) : St H0 w0 X H w (factP φ p :: ps) := h.see 0 rfl fun F hp => ⟨hφ, hp⟩
/-- One out of a list, and the others. -/
theorem starL_take {w : World} : ∀ {l : List Hp} {j : Nat} {p : Hp} {F : Nat → Prop}, l[j]? = some p → (starL l).holds F w → (star p (starL (l.eraseIdx j))).holds F w
  | q :: l, 0, p, F, hj, ⟨F1, F2, h1, h2, s1, s2, d⟩ => by
    cases hj
    exact ⟨F1, F2, h1, h2, s1, s2, d⟩
  | q :: l, j + 1, p, F, hj, ⟨F1, F2, h1, h2, s1, s2, d⟩ => by
    obtain ⟨G1, G2, g1, g2, t1, t2, e⟩ := starL_take (l := l) (j := j) (p := p) (by simpa using hj) h2
    exact ⟨G1, fun b => F1 b ∨ G2 b, g1, ⟨F1, G2, h1, g2, fun b hb => .inl hb, fun b hb => .inr hb, fun b hb hg => d b hb (t2 b hg)⟩, fun b hb => s2 b (t1 b hb), fun b hb => hb.elim (s1 b) (fun hb => s2 b (t2 b hb)), fun b hb hg => hg.elim (fun hg => d b hg (t1 b hb)) (e b hb)⟩
theorem starL_put {w : World} : ∀ {l : List Hp} {j : Nat} {p : Hp} {F : Nat → Prop}, l[j]? = some p → (star p (starL (l.eraseIdx j))).holds F w → (starL l).holds F w
  | q :: l, 0, p, F, hj, ⟨F1, F2, h1, h2, s1, s2, d⟩ => by
    cases hj
    exact ⟨F1, F2, h1, h2, s1, s2, d⟩
  | q :: l, j + 1, p, F, hj, ⟨F1, F2, h1, ⟨G1, G2, g1, g2, t1, t2, e⟩, s1, s2, d⟩ =>
    ⟨G1, fun b => F1 b ∨ G2 b, g1, starL_put (l := l) (j := j) (p := p) (by simpa using hj) ⟨F1, G2, h1, g2, fun b hb => .inl hb, fun b hb => .inr hb, fun b hb hg => d b hb (t2 b hg)⟩, fun b hb => s2 b (t1 b hb), fun b hb => hb.elim (s1 b) (fun hb => s2 b (t2 b hb)), fun b hb hg => hg.elim (fun hg => d b hg (t1 b hb)) (e b hb)⟩
theorem St.takeL {l : List Hp} {p : Hp} (h : St H0 w0 X H w ps) (i : Nat) (hi : ps[i]? = some (starL l)) (j : Nat) (hj : l[j]? = some p) : St H0 w0 X H w (p :: starL (l.eraseIdx j) :: ps.eraseIdx i) :=
  (h.see i hi fun F hF => starL_take hj hF).unstar 0 rfl
/-- .. and back, another one in its place. -/
theorem St.putL {l l' : List Hp} {p : Hp} (j : Nat) (hj : l'[j]? = some p) (he : l'.eraseIdx j = l) (h : St H0 w0 X H w (p :: starL l :: ps)) : St H0 w0 X H w (starL l' :: ps) := by
  subst he
  exact h.mkstar.see 0 rfl fun F hF => starL_put hj hF
theorem St.consL {l : List Hp} {p : Hp} (h : St H0 w0 X H w (p :: starL l :: ps)) : St H0 w0 X H w (starL (p :: l) :: ps) := h.mkstar
theorem starL_app {w : World} : ∀ {l : List Hp} {p : Hp} {F : Nat → Prop}, (star p (starL l)).holds F w → (starL (l ++ [p])).holds F w
  | [], p, F, h => h
  | q :: l, p, F, ⟨F1, F2, h1, ⟨G1, G2, g1, g2, t1, t2, e⟩, s1, s2, d⟩ =>
    ⟨G1, fun b => F1 b ∨ G2 b, g1, starL_app (l := l) ⟨F1, G2, h1, g2, fun b hb => .inl hb, fun b hb => .inr hb, fun b hb hg => d b hb (t2 b hg)⟩, fun b hb => s2 b (t1 b hb), fun b hb => hb.elim (s1 b) (fun hb => s2 b (t2 b hb)), fun b hb hg => hg.elim (fun hg => d b hg (t1 b hb)) (e b hb)⟩
theorem St.snocL {l : List Hp} {p : Hp} (h : St H0 w0 X H w (p :: starL l :: ps)) : St H0 w0 X H w (starL (l ++ [p]) :: ps) := h.mkstar.see 0 rfl fun F hF => starL_app hF
end
end Go.Proofs.YtdnpobjokajigaaGreatDoor.K

namespace Go.Proofs.YtdnpobjokajigaaGreatDoor
open Go.RowKit Go.Proofs K
set_option linter.unusedVariables false

/-- A file. -/
structure FileS where
  name : ByteArray
  s : List UInt8
  synced : Nat
/-- A disk. -/
structure Dk where
  files : List FileS
  room : Int
  after : Int
  torn : Int
  dead : Bool
def used (l : List FileS) : Nat := (l.map fun f => f.s.length).sum
/-- Bytes are laid behind a file's. -/
def layF : List FileS → ByteArray → List UInt8 → List FileS
  | [], n, s => [⟨n, s, 0⟩]
  | f :: l, n, s => if f.name = n then { f with s := f.s ++ s } :: l else f :: layF l n s
def syncF : List FileS → ByteArray → List FileS
  | [], _ => []
  | f :: l, n => if f.name = n then { f with synced := f.s.length } :: l else f :: syncF l n
def readF : List FileS → ByteArray → Option (List UInt8)
  | [], _ => none
  | f :: l, n => if f.name = n then some f.s else readF l n
def Dk.tick (D : Dk) : Dk := { D with after := if 0 < D.after then D.after - 1 else D.after }
def Dk.fits (D : Dk) (s : List UInt8) : Bool := decide ((used D.files : Int) + (s.length : Int) ≤ D.room)
def tornN (t : Int) (n : Nat) : Nat := (min t (n : Int)).toNat
/-- Append, Sync: what is told, and the disk behind it. -/
def appendD (D : Dk) (n : ByteArray) (s : List UInt8) : Int × Dk :=
  if D.dead then (19, D)
  else if D.after = 0 then (19, { D with dead := true, files := if D.fits s ∧ 0 < tornN D.torn s.length then layF D.files n (s.take (tornN D.torn s.length)) else D.files })
  else if D.fits s then (0, { D.tick with files := layF D.files n s }) else (5, D.tick)
def syncD (D : Dk) (n : ByteArray) : Int × Dk :=
  if D.dead then (19, D)
  else if D.after = 0 then (19, { D with dead := true })
  else if (readF D.files n).isSome then (0, { D.tick with files := syncF D.files n }) else (6, D.tick)

/-! ### In memory -/
abbrev bytesL (l : List UInt8) : List Value := Lib.byteCells l
def fileO (v : Value) (n : Nat) : Obj := .cells #[v, .int .i64 n] 146
def fileP (x : Nat × FileS) : Hp := exP fun v : Value => star (blk x.1 (fileO v x.2.synced)) (own 5 1 v x.2.s.length (bytesL x.2.s))
def ptr (b : Nat) : Value := .pointer (some ⟨b, 0, none⟩)
def filesM (fs : List (Nat × FileS)) : List (ByteArray × Value) := fs.map fun x => (x.2.name, ptr x.1)
def diskO (c : Nat) (D : Dk) : Obj := .cells #[.map (some c), .int .i64 D.room, .int .i64 D.after, .int .i64 D.torn, .bool D.dead] 142
def diskP (d : Nat) (D : Dk) : Hp := exP fun x : Nat × List (Nat × FileS) => factP (x.2.map (·.2) = D.files) (star (blk d (diskO x.1 D)) (star (mapP Value.string x.1 (filesM x.2)) (starL (x.2.map fileP))))

theorem own_form {w : World} {base e size n : Nat} {v : Value} {xs : List Value} (h : w.ownsRow base e size v n xs) : ∃ A c, v = .slice A n c ∧ n ≤ c ∧ (A = none → n = 0 ∧ c = 0) := by
  rcases h.2 with ⟨rfl, rfl⟩ | ⟨g, cap, cur, rfl, _, _, hnc, _⟩
  · exact ⟨none, 0, rfl, Nat.le_refl _, fun _ => ⟨rfl, rfl⟩⟩
  · exact ⟨_, cap, rfl, hnc, fun e => by cases e⟩
section
variable {H0 H : Hs} {w0 w : World} {X : Nat → Prop} {ps : List Hp}
theorem openDisk {d : Nat} {D : Dk} (h : St H0 w0 X H w ps) (i : Nat) (hi : ps[i]? = some (diskP d D)) :
    ∃ c fs, fs.map (·.2) = D.files ∧ St H0 w0 X H w (mapP Value.string c (filesM fs) :: starL (fs.map fileP) :: blk d (diskO c D) :: ps.eraseIdx i) := by
  obtain ⟨⟨c, fs⟩, h1⟩ := h.unex i hi
  obtain ⟨hf, h2⟩ := h1.unfact 0 rfl
  exact ⟨c, fs, hf, (h2.unstar 0 rfl).unstar 1 rfl⟩
theorem shutDisk {d c : Nat} {D : Dk} {fs : List (Nat × FileS)} (hf : fs.map (·.2) = D.files) (h : St H0 w0 X H w (mapP Value.string c (filesM fs) :: starL (fs.map fileP) :: blk d (diskO c D) :: ps)) : St H0 w0 X H w (diskP d D :: ps) :=
  St.mkex (c, fs) (St.mkfact hf ((h.mkstar.pick 1 rfl).mkstar))
theorem openFile {fs : List (Nat × FileS)} {j b : Nat} {f : FileS} (h : St H0 w0 X H w ps) (i : Nat) (hi : ps[i]? = some (starL (fs.map fileP))) (hj : fs[j]? = some (b, f)) :
    ∃ A c, St H0 w0 X H w (blk b (fileO (.slice A f.s.length c) f.synced) :: own 5 1 (.slice A f.s.length c) f.s.length (bytesL f.s) :: starL ((fs.map fileP).eraseIdx j) :: ps.eraseIdx i) := by
  have h1 := h.takeL i hi j (p := fileP (b, f)) (by rw [List.getElem?_map, hj]; rfl)
  obtain ⟨v, h2⟩ := h1.unex 0 rfl
  have h3 := h2.unstar 0 rfl
  obtain ⟨A, c, rfl, _⟩ := own_form (h3.own_at 1 rfl)
  exact ⟨A, c, h3⟩
theorem shutFile {fs : List (Nat × FileS)} {j b : Nat} {f f' : FileS} {v : Value} (hj : fs[j]? = some (b, f)) (h : St H0 w0 X H w (blk b (fileO v f'.synced) :: own 5 1 v f'.s.length (bytesL f'.s) :: starL ((fs.map fileP).eraseIdx j) :: ps)) :
    St H0 w0 X H w (starL ((fs.set j (b, f')).map fileP) :: ps) := by
  have hlt := (List.getElem?_eq_some_iff.1 hj).1
  refine St.putL (p := fileP (b, f')) (l := (fs.map fileP).eraseIdx j) j ?_ ?_ (St.mkex v h.mkstar)
  · rw [List.map_set, List.getElem?_set_self (by simpa using hlt)]
  · rw [List.map_set]
    exact List.eraseIdx_set_eq ..
theorem shutSame {fs : List (Nat × FileS)} {j b : Nat} {f : FileS} {v : Value} (hj : fs[j]? = some (b, f)) (h : St H0 w0 X H w (blk b (fileO v f.synced) :: own 5 1 v f.s.length (bytesL f.s) :: starL ((fs.map fileP).eraseIdx j) :: ps)) :
    St H0 w0 X H w (starL (fs.map fileP) :: ps) := by
  refine St.putL (p := fileP (b, f)) (l := (fs.map fileP).eraseIdx j) j ?_ rfl (St.mkex v h.mkstar)
  rw [List.getElem?_map, hj]; rfl
theorem newFile {fs : List (Nat × FileS)} {b : Nat} {f : FileS} {v : Value} (h : St H0 w0 X H w (blk b (fileO v f.synced) :: own 5 1 v f.s.length (bytesL f.s) :: starL (fs.map fileP) :: ps)) :
    St H0 w0 X H w (starL ((fs ++ [(b, f)]).map fileP) :: ps) := by
  rw [List.map_append]
  exact St.snocL (p := fileP (b, f)) (St.mkex v h.mkstar)
end

/-! ### What the map tells -/
theorem find_file (n : ByteArray) : ∀ fs : List (Nat × FileS),
    (∃ (j b : Nat) (f : FileS), fs[j]? = some (b, f) ∧ mlook (filesM fs) n = some (ptr b) ∧ (∀ s, layF (fs.map (·.2)) n s = (fs.set j (b, { f with s := f.s ++ s })).map (·.2)) ∧ (∀ g : FileS, g.name = f.name → filesM (fs.set j (b, g)) = filesM fs) ∧ readF (fs.map (·.2)) n = some f.s ∧ syncF (fs.map (·.2)) n = (fs.set j (b, { f with synced := f.s.length })).map (·.2)) ∨
    (mlook (filesM fs) n = none ∧ readF (fs.map (·.2)) n = none ∧ (∀ s, layF (fs.map (·.2)) n s = fs.map (·.2) ++ [⟨n, s, 0⟩]) ∧ ∀ v, put (filesM fs) n v = filesM fs ++ [(n, v)])
  | [] => .inr ⟨rfl, rfl, fun _ => rfl, fun _ => rfl⟩
  | (b, f) :: fs => by
    by_cases h : f.name = n
    · left
      refine ⟨0, b, f, rfl, ?_, fun s => ?_, fun g hg => ?_, ?_, ?_⟩
      · simp [mlook, filesM, h]
      · simp [layF, h]
      · simp [filesM, hg]
      · simp [readF, h]
      · simp [syncF, h]
    · rcases find_file n fs with ⟨j, b', f', h1, h2, h3, h4, h5, h6⟩ | ⟨h1, h2, h3, h4⟩
      · left
        refine ⟨j + 1, b', f', h1, ?_, fun s => ?_, fun g hg => ?_, ?_, ?_⟩
        · simp only [mlook, filesM, List.map_cons, List.find?_cons, h, decide_false] at h2 ⊢
          exact h2
        · simp only [List.map_cons, layF, h, if_false, List.set_cons_succ, h3 s]
        · simp only [filesM, List.set_cons_succ, List.map_cons] at h4 ⊢
          rw [h4 g hg]
        · simp only [List.map_cons, readF, h, if_false, h5]
        · simp only [List.map_cons, syncF, h, if_false, List.set_cons_succ, h6]
      · right
        refine ⟨?_, ?_, fun s => ?_, fun v => ?_⟩
        · simp only [mlook, filesM, List.map_cons, List.find?_cons, h, decide_false] at h1 ⊢
          exact h1
        · simp only [List.map_cons, readF, h, if_false, h2]
        · simp only [List.map_cons, layF, h, if_false, h3 s, List.cons_append]
        · have h5 := h4 v
          simp only [put, filesM, List.map_cons, List.findIdx?_cons, h, decide_false, Bool.false_eq_true, if_false] at h5 ⊢
          cases hq : List.findIdx? (fun x : ByteArray × Value => decide (x.1 = n)) (fs.map fun x => (x.2.name, ptr x.1)) with
          | none => simp
          | some i =>
            have h7 : mlook (filesM fs) n ≠ none := by
              rw [← idxOf_look]
              obtain ⟨x, hx, _⟩ := find_key hq
              unfold idxOf filesM
              rw [hq]
              simp only [Option.bind_some, hx, Option.map_some]
              exact fun e => by cases e
            exact absurd h1 h7
end Go.Proofs.YtdnpobjokajigaaGreatDoor

namespace Go.Proofs.YtdnpobjokajigaaGreatDoor
open Go.RowKit Go.Proofs K
set_option linter.unusedVariables false

theorem zeroFile (w : World) : (zeroValue 143).run Tryz.prog w = .ok (.pointer none) w := by kernel_rfl
def freshD (room : Int) : Dk := ⟨[], room, -1, 0, false⟩
section
variable {H0 H : Hs} {w0 w : World} {X : Nat → Prop} {ps : List Hp}
def NewS (H0 H : Hs) (w0 : World) (X : Nat → Prop) (ps : List Hp) (D : Dk) (e : Ending) (w' : World) : Prop := ∃ d, e = .returned (ptr d) ∧ St H0 w0 X H w' (diskP d D :: ps)
set_option maxRecDepth 100000 in
theorem fresh_any (S : St H0 w0 X H w ps) (room : Int) : Calls Tryz.prog 60 #[.int .i64 room] w (NewS H0 H w0 X ps (freshD room)) := by
  have HS := Lib.hid S
  clear S
  have hmm := @run_makeMap Tryz.prog
  have HS2 : Hid (St H0 w0 X H ((w.alloc (.map #[] 0)).alloc (diskO w.heap.size (freshD room))) (blk (w.heap.size + 1) (diskO w.heap.size (freshD room)) :: blk w.heap.size (.map #[] 0) :: ps)) := Lib.hid ((HS.out.alloc (.map #[] 0)).alloc' (diskO w.heap.size (freshD room)) (w.heap.size + 1) (by simp))
  clear HS
  go_enter Tryz.func60, Tryz.ntmps60
  go_wp2_with fail
  go_ret
  refine ⟨w.heap.size + 1, rfl, ?_⟩
  have S2 := HS2.out.see 1 rfl (q := mapP Value.string w.heap.size []) fun F ⟨a, b⟩ => ⟨a, _, b, isMap_new 0⟩
  exact shutDisk (c := w.heap.size) (fs := []) rfl ((S2.mkemp.pick 1 rfl))
/-- A file's bytes have more behind them. -/
theorem used_layF (n : ByteArray) (s : List UInt8) : ∀ l : List FileS, used (layF l n s) = used l + s.length
  | [] => by simp [used, layF]
  | f :: l => by
    have ih := used_layF n s l
    unfold layF
    by_cases h : f.name = n
    · simp only [h, if_true, used, List.map_cons, List.sum_cons, List.length_append]; omega
    · simp only [h, if_false, used, List.map_cons, List.sum_cons] at ih ⊢; omega
theorem used_at {fs : List (Nat × FileS)} {j b : Nat} {f : FileS} (hj : fs[j]? = some (b, f)) : f.s.length ≤ used (fs.map (·.2)) := by
  induction fs generalizing j with
  | nil => simp at hj
  | cons x fs ih =>
    cases j with
    | zero =>
      cases hj
      simp [used]
    | succ j =>
      have := ih (j := j) (by simpa using hj)
      simp only [used, List.map_cons, List.sum_cons] at this ⊢
      omega
set_option maxRecDepth 100000 in
set_option maxHeartbeats 1000000 in
theorem lay_any {d : Nat} {D : Dk} (S : St H0 w0 X H w ps) (i : Nat) (hi : ps[i]? = some (diskP d D)) (n s : ByteArray) (hn : used D.files + s.size ≤ 140737488355328) :
    Calls Tryz.prog 246 #[.pointer (some ⟨d, 0, none⟩), .string n, .string s] w (RetS (.tuple #[]) H0 H w0 X (diskP d { D with files := layF D.files n s.data.toList } :: ps.eraseIdx i)) := by
  obtain ⟨c, fs, hf, S1⟩ := openDisk S i hi
  have HF := Lib.hid hf
  clear S hf
  rcases find_file n fs with ⟨j, b, f, h1, h2, h3, h4, h5, h6⟩ | ⟨h1, h2, h3, h4⟩
  · obtain ⟨A, k, S2⟩ := openFile S1 1 rfl h1
    have hlen : f.s.length + s.size ≤ 140737488355328 := by
      have := used_at h1
      rw [HF.out] at this
      omega
    have HS2 := Lib.hid S2
    have c0 : w.cell? ⟨d, 0, none⟩ = some (.map (some c)) := S2.cell 4 rfl rfl
    have c1 : w.cell? ⟨b, 0, none⟩ = some (.slice A f.s.length k) := S2.cell 0 rfl rfl
    have HL := Lib.hid h2
    have HJ := Lib.hid h1
    have HLF := Lib.hid h3
    have HM := Lib.hid h4
    clear S1 S2 h1 h2 h3 h4 h5 h6
    go_enter Tryz.func246, Tryz.ntmps246
    go_wp2_with (first
      | (refine wpList_lookup_st 3 HS2.out rfl keyS Tryz.underlying140 (zeroFile _) n rfl _ _ true rfl rfl rfl ?_; rw [HL.out]; simp only [if_true, Option.getD_some, Option.isSome_some, ptr])
      | (at_builtin; refine wpList_appendStr_st 1 HS2.out rfl rfl _ _ rfl rfl s rfl hlen ?_)
      | fail)
    intro v' w2 S3 hiff
    obtain ⟨A', k', rfl, _⟩ := own_form (S3.own_at 0 rfl)
    have HS3 := Lib.hid S3
    have d1 : w2.cell? ⟨b, 0, none⟩ = some (.slice A f.s.length k) := S3.cell 1 rfl rfl
    have f1 : w2.frozen? ⟨b, 0, none⟩ = false := S3.frozen 1 rfl 0
    clear S3 hiff HS2 c0 c1
    go_wp2_with fail
    go_end0
    refine ⟨rfl, ?_⟩
    have S4 := HS3.out.setCell (j := 0) 1 rfl (.slice A' (f.s.length + s.size) k')
    have e1 : f.s.length + s.size = ({ f with s := f.s ++ s.data.toList } : FileS).s.length := by
      show _ = (f.s ++ s.data.toList).length
      rw [List.length_append, Array.length_toList]
      rfl
    have S5 : St H0 w0 X H (w2.setCell ⟨b, 0, none⟩ (.slice A' (f.s.length + s.size) k')) (starL ((fs.set j (b, { f with s := f.s ++ s.data.toList })).map fileP) :: mapP Value.string c (filesM fs) :: blk d (diskO c D) :: ps.eraseIdx i) := by
      refine shutFile (v := .slice A' (f.s.length + s.size) k') HJ.out ?_
      rw [← e1]
      simpa [Lib.byteCells_append, Lib.strCells_eq, fileO] using S4
    refine shutDisk (c := c) (fs := fs.set j (b, { f with s := f.s ++ s.data.toList })) ?_ ?_
    · show _ = layF D.files n s.data.toList
      rw [← HF.out, HLF.out]
    · rw [HM.out { f with s := f.s ++ s.data.toList } rfl]
      exact S5.pick 1 rfl
  · have hlen : 0 + s.size ≤ 140737488355328 := by omega
    have HS1 := Lib.hid S1
    have HS2 := Lib.hid (S1.alloc (.cells #[.slice none 0 0, .int .i64 0] 146))
    have HL := Lib.hid h1
    have HLF := Lib.hid h3
    have HM := Lib.hid h4
    have c0 : w.cell? ⟨d, 0, none⟩ = some (.map (some c)) := S1.cell 2 rfl rfl
    have c1 : (w.alloc (.cells #[.slice none 0 0, .int .i64 0] 146)).cell? ⟨d, 0, none⟩ = some (.map (some c)) := HS2.out.cell 3 rfl rfl
    clear S1 h1 h2 h3 h4
    go_enter Tryz.func246, Tryz.ntmps246
    go_wp2_with (first
      | (refine wpList_lookup_st 0 HS1.out rfl keyS Tryz.underlying140 (zeroFile _) n rfl _ _ true rfl rfl rfl ?_; rw [HL.out]; simp only [if_true, Option.getD_none, Option.isSome_none])
      | (refine wpList_update_st 1 HS2.out rfl keyS Tryz.underlying140 n rfl _ _ _ rfl rfl rfl ?_)
      | fail)
    intro w3 S3
    obtain ⟨b, hb⟩ : ∃ b, b = w.heap.size := ⟨_, rfl⟩
    have HS3 : Hid (St H0 w0 X H w3 (own 5 1 (.slice none 0 0) 0 [] :: mapP Value.string c (filesM (fs ++ [(b, ⟨n, s.data.toList, 0⟩)])) :: blk b (.cells #[.slice none 0 0, .int .i64 0] 146) :: starL (fs.map fileP) :: blk d (diskO c D) :: ps.eraseIdx i)) := by
      have S4 : St H0 w0 X H w3 (own 5 1 (.slice none 0 0) 0 [] :: mapP Value.string c (put (filesM fs) n (.pointer (some ⟨w.heap.size, 0, none⟩))) :: blk w.heap.size (.cells #[.slice none 0 0, .int .i64 0] 146) :: starL (fs.map fileP) :: blk d (diskO c D) :: ps.eraseIdx i) := S3.own_nil
      rw [HM.out, ← hb] at S4
      have e : filesM (fs ++ [(b, ⟨n, s.data.toList, 0⟩)]) = filesM fs ++ [(n, .pointer (some ⟨b, 0, none⟩))] := by simp [filesM, ptr]
      rw [e]
      exact Lib.hid S4
    subst hb
    have d1 : w3.cell? ⟨w.heap.size, 0, none⟩ = some (.slice none 0 0) := HS3.out.cell 2 rfl rfl
    clear S3 HS2 HS1 c0 c1
    go_wp2_with (first
      | (at_builtin; refine wpList_appendStr_st 0 HS3.out rfl rfl _ _ rfl rfl s rfl hlen ?_)
      | fail)
    intro v' w4 S4 hiff
    obtain ⟨A', k', rfl, _⟩ := own_form (S4.own_at 0 rfl)
    have HS4 := Lib.hid S4
    have d1 : w4.cell? ⟨w.heap.size, 0, none⟩ = some (.slice none 0 0) := S4.cell 2 rfl rfl
    have f1 : w4.frozen? ⟨w.heap.size, 0, none⟩ = false := S4.frozen 2 rfl 0
    clear S4 hiff HS3
    go_wp2_with fail
    go_end0
    refine ⟨rfl, ?_⟩
    have S5 := HS4.out.setCell (j := 0) 2 rfl (.slice A' s.size k')
    have e1 : s.size = s.data.toList.length := by
      rw [Array.length_toList]
      rfl
    have S6 : St H0 w0 X H (w4.setCell ⟨w.heap.size, 0, none⟩ (.slice A' s.size k')) (starL ((fs ++ [(w.heap.size, (⟨n, s.data.toList, 0⟩ : FileS))]).map fileP) :: mapP Value.string c (filesM (fs ++ [(w.heap.size, ⟨n, s.data.toList, 0⟩)])) :: blk d (diskO c D) :: ps.eraseIdx i) := by
      refine newFile (v := .slice A' s.size k') ?_
      show St H0 w0 X H (w4.setCell ⟨w.heap.size, 0, none⟩ (.slice A' s.size k')) (blk w.heap.size (fileO (.slice A' s.size k') 0) :: own 5 1 (.slice A' s.size k') s.data.toList.length (bytesL s.data.toList) :: starL (fs.map fileP) :: mapP Value.string c (filesM (fs ++ [(w.heap.size, (⟨n, s.data.toList, 0⟩ : FileS))])) :: blk d (diskO c D) :: ps.eraseIdx i)
      rw [← e1]
      have S7 : St H0 w0 X H (w4.setCell ⟨w.heap.size, 0, none⟩ (.slice A' s.size k')) (blk w.heap.size (fileO (.slice A' s.size k') 0) :: own 5 1 (.slice A' s.size k') s.size (bytesL s.data.toList) :: mapP Value.string c (filesM (fs ++ [(w.heap.size, ⟨n, s.data.toList, 0⟩)])) :: starL (fs.map fileP) :: blk d (diskO c D) :: ps.eraseIdx i) := by
        simpa [Lib.strCells_eq, fileO] using S5
      exact ((S7.pick 3 rfl).pick 2 rfl).pick 2 rfl
    refine shutDisk (c := c) (fs := fs ++ [(w.heap.size, ⟨n, s.data.toList, 0⟩)]) ?_ ?_
    · show _ = layF D.files n s.data.toList
      rw [← HF.out, HLF.out]
      simp
    · exact S6.pick 1 rfl
/-- One step of the disk. -/
def StepS (Q : Int → World → Prop) (e : Ending) (w' : World) : Prop := ∃ n, e = .returned (.int .i64 n) ∧ Q n w'
set_option maxRecDepth 100000 in
set_option maxHeartbeats 1000000 in
theorem dstep_any (fd ft : FuncId) (hcd : ∀ args w, (callFunc fd args).run Tryz.prog w = .ok (.enter fd args) w) (hct : ∀ args w, (callFunc ft args).run Tryz.prog w = .ok (.enter ft args) w) (cd ct : Array Value)
    {d : Nat} {D : Dk} (S : St H0 w0 X H w ps) (i : Nat) (hi : ps[i]? = some (diskP d D)) (ha : -1 ≤ D.after) (ha2 : D.after < 9223372036854775808) (Q : Int → World → Prop)
    (hdo : D.dead = false → D.after ≠ 0 → ∀ w', St H0 w0 X H w' (diskP d D.tick :: ps.eraseIdx i) → Calls Tryz.prog fd cd w' (StepS Q))
    (htorn : D.dead = false → D.after = 0 → ∀ w', St H0 w0 X H w' (diskP d { D with dead := true } :: ps.eraseIdx i) → Calls Tryz.prog ft ct w' (fun e w'' => e = .returned (.tuple #[]) ∧ Q 19 w''))
    (hdead : D.dead = true → ∀ w', St H0 w0 X H w' (diskP d D :: ps.eraseIdx i) → Q 19 w') :
    Calls Tryz.prog 244 #[.pointer (some ⟨d, 0, none⟩), .func (.func fd) #[] cd, .func (.func ft) #[] ct] w (StepS Q) := by
  obtain ⟨c, fs, hf, S1⟩ := openDisk S i hi
  have HF := Lib.hid hf
  have HS1 := Lib.hid S1
  have HDO := Lib.hid hdo
  have HT := Lib.hid htorn
  have HX := Lib.hid hdead
  clear S S1 hf hdo htorn hdead
  obtain ⟨files, room, after, torn, dead⟩ := D
  have c4 : w.cell? ⟨d, 4, none⟩ = some (.bool dead) := HS1.out.cell 2 rfl rfl
  have c2 : w.cell? ⟨d, 2, none⟩ = some (.int .i64 after) := HS1.out.cell 2 rfl rfl
  have f4 : w.frozen? ⟨d, 4, none⟩ = false := HS1.out.frozen 2 rfl 4
  have f2 : w.frozen? ⟨d, 2, none⟩ = false := HS1.out.frozen 2 rfl 2
  simp only at ha ha2
  cases dead with
  | true =>
    have HC := Lib.hid (HX.out rfl w (shutDisk (D := ⟨files, room, after, torn, true⟩) HF.out HS1.out))
    clear HX HT HDO
    go_enter Tryz.func244, Tryz.ntmps244
    go_wp2_with fail
    go_ret
    exact ⟨19, rfl, HC.out⟩
  | false =>
    by_cases h0 : after = 0
    · subst h0
      have HC := Lib.hid (HT.out rfl rfl (w.setCell ⟨d, 4, none⟩ (.bool true)) (shutDisk (D := ⟨files, room, 0, torn, true⟩) HF.out ((((HS1.out.setCell (j := 4) 2 rfl (.bool true))).pick 2 rfl).pick 2 rfl)))
      clear HT HDO HX
      go_enter Tryz.func244, Tryz.ntmps244
      go_wp2_with fail
      refine HC.out.mono ?_
      rintro e w2 ⟨rfl, hq⟩
      have HQ := Lib.hid hq
      clear hq
      go_wp2_with fail
      go_ret
      exact ⟨19, rfl, HQ.out⟩
    · have hz : (after == 0) = false := beq_eq_false_iff_ne.2 h0
      by_cases hp : 0 < after
      · have HC := Lib.hid (HDO.out rfl h0 (w.setCell ⟨d, 2, none⟩ (.int .i64 (after - 1))) (shutDisk (D := Dk.tick ⟨files, room, after, torn, false⟩) HF.out (by
          have S2 := ((HS1.out.setCell (j := 2) 2 rfl (.int .i64 (after - 1))).pick 2 rfl).pick 2 rfl
          simpa [Dk.tick, diskO, hp] using S2)))
        clear HT HDO HX
        go_enter Tryz.func244, Tryz.ntmps244
        go_wp2_with fail
        refine HC.out.mono ?_
        rintro e w2 ⟨n, rfl, hq⟩
        have HQ := Lib.hid hq
        clear hq
        go_wp2_with fail
        go_ret
        exact ⟨n, rfl, HQ.out⟩
      · have HC := Lib.hid (HDO.out rfl h0 w (shutDisk (D := Dk.tick ⟨files, room, after, torn, false⟩) HF.out (by simpa [Dk.tick, diskO, hp] using HS1.out)))
        clear HT HDO HX
        go_enter Tryz.func244, Tryz.ntmps244
        go_wp2_with fail
        refine HC.out.mono ?_
        rintro e w2 ⟨n, rfl, hq⟩
        have HQ := Lib.hid hq
        clear hq
        go_wp2_with fail
        go_ret
        exact ⟨n, rfl, HQ.out⟩
end
end Go.Proofs.YtdnpobjokajigaaGreatDoor
