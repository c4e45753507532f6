/-
  A reply that was put is got: plain.
-/
import Derived.Test.YtfphlkkhpccpnaaDoorPlAsk
import Derived.Test.YtfphlkkhpccpnaaDoorGetRep
namespace Go.Proofs.YtfphlkkhpccpnaaDoor
open Go.RowKit Go.Proofs K

def replyF (kind : Int) (l : List UInt8) : Option (Array Value) := match decF l with
  | some (.list k) => (match replyR kind k with | some (a, []) => some a | _ => none)
  | _ => none
theorem replyD_of {kind : Int} {l : List UInt8} {o : Option (Array Value)} (h : ReplyD kind l o) : replyF kind l = o := by
  unfold replyF
  cases h with
  | bad h => rw [decF_of h]
  | text h => rw [decF_of h]
  | none h ha => rw [decF_of h]; simp only; rw [ha]
  | @more k k' a h ha hk =>
    rw [decF_of h]
    simp only
    rw [ha]
    cases k' with
    | nil => exact absurd rfl hk
    | cons => rfl
  | good h ha => rw [decF_of h]; simp only; rw [ha]
/-- What GetReply answers, by plain words. -/
theorem getReply_is {kind : Int} {l : List UInt8} {w w' : World} {e : Ending} (h : GetReplyP kind l w e w') :
    (Sealed l ∧ (kind = 1 ∨ kind = 2) ∧ e = .returned (.tuple #[.agg ((replyF kind (l.drop 4)).getD zReply), .bool (replyF kind (l.drop 4)).isSome])) ∨
    (¬ (Sealed l ∧ (kind = 1 ∨ kind = 2)) ∧ e = .returned (.tuple #[.agg zReply, .bool false])) := by
  obtain ⟨o, hG, he, _⟩ := h
  cases hG with
  | torn h => exact .inr ⟨fun h2 => h h2.1, he⟩
  | kind h h2 => exact .inr ⟨fun h3 => h3.2.elim h h2, he⟩
  | read h hk hD => exact .inl ⟨h, hk, by rw [he, replyD_of hD]⟩
theorem encL_sum : ∀ ts : List ByteArray, (encL (ts.map It.text)).length ≤ (ts.map fun s => s.size + 9).sum
  | [] => by simp [encL]
  | s :: ts => by
    have h2 := encL_sum ts
    have h4 : (textL s).length ≤ s.size + 9 := by
      have h5 := sizeL s
      unfold textL
      split
      · rename_i c hc
        rw [hc] at h5
        split
        · simp
        · rw [List.length_append, show aheadL 128 1 = [UInt8.ofNat 129] from rfl]; simp
      · rw [List.length_append]
        have := aheadL_len 128 s.data.toList.length
        omega
    rw [List.map_cons, encL, It.enc, List.length_append, List.map_cons, List.sum_cons]
    omega
theorem putL_sum (ts : List ByteArray) : (putL ts).data.toList.length ≤ (ts.map fun s => s.size + 9).sum + 9 := by
  have e : (putL ts).data.toList = aheadL 192 (encL (ts.map It.text)).length ++ encL (ts.map It.text) := by simp [putL, It.bytes, It.enc]
  have h2 := encL_sum ts
  have h4 := aheadL_len 192 (encL (ts.map It.text)).length
  rw [e, List.length_append]
  omega
theorem one_len {id n a b c d : Int} {code : ByteArray} (hc : code.size ≤ 24576) : (putL [numS id, numS n, wordS a b c d, code]).data.toList.length ≤ 65536 := by
  have h := putL_sum [numS id, numS n, wordS a b c d, code]
  have h1 := numS_size id
  have h2 := numS_size n
  have h3 := wordS_size a b c d
  simp only [List.map_cons, List.map_nil, List.sum_cons, List.sum_nil] at h
  omega
theorem two_len {id a b c d : Int} : (putL [numS id, wordS a b c d]).data.toList.length ≤ 65536 := by
  have h := putL_sum [numS id, wordS a b c d]
  have h1 := numS_size id
  have h3 := wordS_size a b c d
  simp only [List.map_cons, List.map_nil, List.sum_cons, List.sum_nil] at h
  omega
theorem replyR_one {id n a b c d : Int} {code : ByteArray} (hid : W64 id) (hn : W64 n) (ha : W64 a) (hb : W64 b) (hc : W64 c) (hd : W64 d) (hl : code.size ≤ 24576) :
    replyR 1 ([numS id, numS n, wordS a b c d, code].map It.text) = some (replyC id n a b c d code 0 0 0 0, []) := by
  obtain ⟨e1, e2, e3, e4⟩ := word_back ha hb hc hd
  simp only [List.map_cons, List.map_nil]
  unfold replyR
  rw [numR_num hid, Option.bind_some]
  simp only
  rw [if_neg (by decide), numR_num hn, Option.bind_some, txtR_size (by rw [wordS_size]; rfl), Option.bind_some]
  simp only
  rw [txtR_any (by decide), Option.bind_some]
  simp only
  rw [if_neg (by omega), e1, e2, e3, e4]
theorem replyR_two {id a b c d : Int} (hid : W64 id) (ha : W64 a) (hb : W64 b) (hc : W64 c) (hd : W64 d) :
    replyR 2 ([numS id, wordS a b c d].map It.text) = some (replyC id 0 0 0 0 0 ⟨#[]⟩ a b c d, []) := by
  obtain ⟨e1, e2, e3, e4⟩ := word_back ha hb hc hd
  simp only [List.map_cons, List.map_nil]
  unfold replyR
  rw [numR_num hid, Option.bind_some]
  simp only
  rw [if_pos trivial, txtR_size (by rw [wordS_size]; rfl), Option.map_some, e1, e2, e3, e4]
/-- A reply of an account is none of a slot. -/
theorem replyR_wrong {id n a b c d : Int} {code : ByteArray} (hid : W64 id) : replyR 2 ([numS id, numS n, wordS a b c d, code].map It.text) = none := by
  have h := numS_size n
  simp only [List.map_cons, List.map_nil]
  unfold replyR
  rw [numR_num hid, Option.bind_some]
  simp only
  rw [if_pos trivial]
  unfold txtR
  simp only
  rw [if_neg (by omega)]
  rfl
theorem replyB_list (ts : List ByteArray) : (replyB ts).data.toList = (sumS (putL ts)).data.toList ++ (putL ts).data.toList := by simp [replyB]
theorem sum4 (s : ByteArray) : (sumS s).data.toList.length = 4 := by rw [sizeL, sumS_size]
theorem replyB_drop (ts : List ByteArray) : (replyB ts).data.toList.drop 4 = (putL ts).data.toList := by rw [replyB_list, List.drop_left' (sum4 _)]
theorem replyB_take (ts : List ByteArray) : (replyB ts).data.toList.take 4 = (sumS (putL ts)).data.toList := by rw [replyB_list, List.take_left' (sum4 _)]
theorem sealed_put (ts : List ByteArray) : Sealed (replyB ts).data.toList := by
  refine ⟨by rw [replyB_list, List.length_append, sum4]; omega, ?_⟩
  rw [replyB_drop, replyB_take, bs_list, bs_list]
theorem getReply_one {id n a b c d : Int} {code : ByteArray} (hid : W64 id) (hn : W64 n) (ha : W64 a) (hb : W64 b) (hc : W64 c) (hd : W64 d) (hl : code.size ≤ 24576) {w w' : World} {e : Ending}
    (hG : GetReplyP 1 (replyB [numS id, numS n, wordS a b c d, code]).data.toList w e w') : e = .returned (.tuple #[.agg (replyC id n a b c d code 0 0 0 0), .bool true]) := by
  rcases getReply_is hG with ⟨_, _, he⟩ | ⟨hn, _⟩
  · rw [he, replyB_drop]
    unfold replyF
    rw [decF_put (one_len hl)]
    simp only
    rw [replyR_one hid hn ha hb hc hd hl]
    rfl
  · exact absurd ⟨sealed_put _, .inl rfl⟩ hn
theorem getReply_wrong {id n a b c d : Int} {code : ByteArray} (hid : W64 id) (hl : code.size ≤ 24576) {w w' : World} {e : Ending}
    (hG : GetReplyP 2 (replyB [numS id, numS n, wordS a b c d, code]).data.toList w e w') : e = .returned (.tuple #[.agg zReply, .bool false]) := by
  rcases getReply_is hG with ⟨_, _, he⟩ | ⟨_, he⟩
  · rw [he, replyB_drop]
    unfold replyF
    rw [decF_put (one_len hl)]
    simp only
    rw [replyR_wrong hid]
    rfl
  · exact he
theorem getReply_two {id a b c d : Int} (hid : W64 id) (ha : W64 a) (hb : W64 b) (hc : W64 c) (hd : W64 d) {w w' : World} {e : Ending}
    (hG : GetReplyP 2 (replyB [numS id, wordS a b c d]).data.toList w e w') : e = .returned (.tuple #[.agg (replyC id 0 0 0 0 0 ⟨#[]⟩ a b c d), .bool true]) := by
  rcases getReply_is hG with ⟨_, _, he⟩ | ⟨hn, _⟩
  · rw [he, replyB_drop]
    unfold replyF
    rw [decF_put two_len]
    simp only
    rw [replyR_two hid ha hb hc hd]
    rfl
  · exact absurd ⟨sealed_put _, .inr rfl⟩ hn
end Go.Proofs.YtfphlkkhpccpnaaDoor
