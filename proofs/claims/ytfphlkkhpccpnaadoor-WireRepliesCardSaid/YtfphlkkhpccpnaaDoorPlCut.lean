/-
  What is cut, or has something behind, is none: plain.
-/
import Derived.Test.YtfphlkkhpccpnaaDoorPlRep
namespace Go.Proofs.YtfphlkkhpccpnaaDoor
open Go.RowKit Go.Proofs K

theorem notDec_cut {ts : List ByteArray} (hl : (putL ts).data.toList.length ≤ 65536) {j : Nat} (hj : j < (putL ts).data.toList.length) : ∀ i, ¬ DecR ((putL ts).data.toList.take j) (some i) := fun i h => by
  refine decR_cut hl (List.take_append_drop j _) (fun h0 => ?_) h
  have := congrArg List.length h0
  rw [List.length_drop, List.length_nil] at this
  omega
theorem notDec_more {ts : List ByteArray} (hl : (putL ts).data.toList.length ≤ 65536) {x : List UInt8} (hx : x ≠ []) : ∀ i, ¬ DecR ((putL ts).data.toList ++ x) (some i) := fun i h => by
  have h1 := decF_of h
  rw [decF_more hl hx] at h1
  cases h1
theorem getAsk_no {l : List UInt8} (hn : ∀ i, ¬ DecR l (some i)) {w w' : World} {e : Ending} (hG : GetAskP l w e w') : e = .returned (.tuple #[.agg zAsk, .bool false]) := by
  rcases hG.1 with ⟨_, _, _, _, _, _, _, hD, _, _⟩ | ⟨he, _⟩
  · cases hD with
    | good h _ => exact absurd h (hn _)
  · exact he
theorem getReply_no {kind : Int} {l : List UInt8} (hn : ∀ i, ¬ DecR (l.drop 4) (some i)) {w w' : World} {e : Ending} (hG : GetReplyP kind l w e w') : e = .returned (.tuple #[.agg zReply, .bool false]) := by
  obtain ⟨o, hR, he, _⟩ := hG
  have ho : o = none := by
    cases hR with
    | torn h => rfl
    | kind h h2 => rfl
    | read h hk hD =>
      cases hD with
      | good h _ => exact absurd h (hn _)
      | _ => rfl
  rw [he, ho]
  rfl
theorem getReply_any (kind : Int) (l : List UInt8) (hn : l.length ≤ 140737488355328) (w : World) : Calls Tryd.prog 20 #[.int .i64 kind, .string (bs l)] w (GetReplyP kind l w) := by
  by_cases h : l.length < 4
  · exact getReply_short kind l h w
  · exact getReply_long kind l (by omega) hn w
theorem replyB_cut (ts : List ByteArray) (j : Nat) : ((replyB ts).data.toList.take j).drop 4 = (putL ts).data.toList.take (j - 4) := by rw [List.drop_take, replyB_drop]
theorem replyB_more (ts : List ByteArray) (x : List UInt8) : ((replyB ts).data.toList ++ x).drop 4 = (putL ts).data.toList ++ x := by
  rw [replyB_list, List.append_assoc, List.drop_left' (sum4 _)]
theorem replyB_len (ts : List ByteArray) : (replyB ts).data.toList.length = 4 + (putL ts).data.toList.length := by rw [replyB_list, List.length_append, sum4]
theorem sizes_askCut {id a b c d : Int} {addr : ByteArray} (h20 : addr.size = 20) {j : Nat} (hj : j < (putL (askTs id addr a b c d 2)).data.toList.length) (w : World) :
    Calls Tryd.prog 15 #[.string (bs ((putL (askTs id addr a b c d 2)).data.toList.take j))] w (RetV (.tuple #[.agg zAsk, .bool false]) w) :=
  (getAsk_any _ w).mono fun _ _ h => ⟨getAsk_no (notDec_cut (askTs_len h20) hj) h, h.2⟩
theorem sizes_askMore {id a b c d : Int} {addr : ByteArray} (h20 : addr.size = 20) (x : UInt8) (w : World) :
    Calls Tryd.prog 15 #[.string (bs ((putL (askTs id addr a b c d 2)).data.toList ++ [x]))] w (RetV (.tuple #[.agg zAsk, .bool false]) w) :=
  (getAsk_any _ w).mono fun _ _ h => ⟨getAsk_no (notDec_more (askTs_len h20) (by simp)) h, h.2⟩
theorem sizes_replyCut {id a b c d : Int} {j : Nat} (hj : j < (replyB [numS id, wordS a b c d]).data.toList.length) (w : World) :
    Calls Tryd.prog 20 #[.int .i64 2, .string (bs ((replyB [numS id, wordS a b c d]).data.toList.take j))] w (RetV (.tuple #[.agg zReply, .bool false]) w) := by
  have h2 := two_len (id := id) (a := a) (b := b) (c := c) (d := d)
  have h1 := putL_len [numS id, wordS a b c d]
  rw [replyB_len] at hj
  refine (getReply_any 2 _ (by rw [List.length_take]; omega) w).mono fun _ _ h => ⟨getReply_no ?_ h, h.choose_spec.2.2⟩
  rw [replyB_cut]
  exact notDec_cut h2 (by omega)
theorem sizes_replyMore {id a b c d : Int} (x : UInt8) (w : World) :
    Calls Tryd.prog 20 #[.int .i64 2, .string (bs ((replyB [numS id, wordS a b c d]).data.toList ++ [x]))] w (RetV (.tuple #[.agg zReply, .bool false]) w) := by
  have h2 := two_len (id := id) (a := a) (b := b) (c := c) (d := d)
  refine (getReply_any 2 _ (by rw [List.length_append, replyB_len, List.length_singleton]; omega) w).mono fun _ _ h => ⟨getReply_no ?_ h, h.choose_spec.2.2⟩
  rw [replyB_more]
  exact notDec_more h2 (by simp)
end Go.Proofs.YtfphlkkhpccpnaaDoor
