/-
  WireBack.
-/
import Derived.Test.YtfphlkkhpccpnaaDoorSizes
import Derived.Test.YtfphlkkhpccpnaaDoorPlTurn
namespace Go.Proofs.YtfphlkkhpccpnaaDoor
open Go.RowKit Go.Proofs K
set_option linter.unusedVariables false

theorem putReplyR_one (id n a b c d : Int) {code : ByteArray} (h : code.size ≤ 24576) : putReplyR 1 id n a b c d code 0 0 0 0 = (replyB [numS id, numS n, wordS a b c d, code], true) := by
  unfold putReplyR
  rw [if_neg (by omega), if_pos rfl, if_pos ⟨rfl, rfl, rfl, rfl⟩]
theorem back_len {id n a b c d : Int} {code : ByteArray} (h : code.size ≤ 300) : 5 ≤ (replyB [numS id, numS n, wordS a b c d, code]).size ∧ (replyB [numS id, numS n, wordS a b c d, code]).size ≤ 1000 := by
  have h0 := sizeL (replyB [numS id, numS n, wordS a b c d, code])
  have h1 := replyB_len [numS id, numS n, wordS a b c d, code]
  have h2 := putL_sum [numS id, numS n, wordS a b c d, code]
  have h3 := putL_len [numS id, numS n, wordS a b c d, code]
  have h4 := numS_size id
  have h5 := numS_size n
  have h6 := wordS_size a b c d
  simp only [List.map_cons, List.map_nil, List.sum_cons, List.sum_nil] at h2
  omega
/-- What the calls of WireBack answer. -/
structure BackCalls (id sa sb sc sd n a b c d : Int) (code s t u : ByteArray) (e f g h : Int) : Prop where
  pa : ∀ w, Calls Tryd.prog 12 #[.agg (askC id digA sa sb sc sd 2)] w (RetV (.tuple #[.string s, .bool true]) w)
  ga : ∀ w, Calls Tryd.prog 15 #[.string s] w (RetV (.tuple #[.agg (askC id digA sa sb sc sd 2), .bool true]) w)
  pr : ∀ w, Calls Tryd.prog 17 #[.int .i64 1, .agg (replyC id n a b c d code 0 0 0 0)] w (RetV (.tuple #[.string t, .bool true]) w)
  gr : ∀ w, Calls Tryd.prog 20 #[.int .i64 1, .string t] w (RetV (.tuple #[.agg (replyC id n a b c d code 0 0 0 0), .bool true]) w)
  gw : ∀ w, Calls Tryd.prog 20 #[.int .i64 2, .string t] w (RetV (.tuple #[.agg zReply, .bool false]) w)
  pv : ∀ w, Calls Tryd.prog 17 #[.int .i64 2, .agg (replyC id 0 0 0 0 0 ⟨#[]⟩ e f g h)] w (RetV (.tuple #[.string u, .bool true]) w)
  gv : ∀ w, Calls Tryd.prog 20 #[.int .i64 2, .string u] w (RetV (.tuple #[.agg (replyC id 0 0 0 0 0 ⟨#[]⟩ e f g h), .bool true]) w)
  gt : ∀ (m : Nat) (hm : m < t.data.toList.length) (x : UInt8), x ≠ t.data.toList[m] → ∀ w, Calls Tryd.prog 20 #[.int .i64 1, .string (bs (t.data.toList.set m x))] w (RetV (.tuple #[.agg zReply, .bool false]) w)
  t5 : 5 ≤ t.size
  t9 : t.size ≤ 1000
theorem replyLen {ts : List ByteArray} (h : (putL ts).data.toList.length ≤ 65536) : (replyB ts).data.toList.length ≤ 140737488355328 := by
  rw [replyB_len]; omega
theorem backCalls {id sa sb sc sd n a b c d e f g h : Int} {code : ByteArray} (hid : W64 id) (h1 : W64 sa) (h2 : W64 sb) (h3 : W64 sc) (h4 : W64 sd) (hn : W64 n) (ha : W64 a) (hb : W64 b) (hc : W64 c) (hd : W64 d) (he : W64 e) (hf : W64 f) (hg : W64 g) (hh : W64 h) (hcode : code.size ≤ 300) :
    ∃ s t u, BackCalls id sa sb sc sd n a b c d code s t u e f g h := by
  have hl : code.size ≤ 24576 := by omega
  refine ⟨putL (askTs id digA sa sb sc sd 2), replyB [numS id, numS n, wordS a b c d, code], replyB [numS id, wordS e f g h], ?_, ?_, ?_, ?_, ?_, ?_, ?_, ?_, (back_len hcode).1, (back_len hcode).2⟩
  · intro w
    have h0 := putAsk_all id digA sa sb sc sd 2 w
    rw [putAskR_ok ⟨digA_size, .inl rfl⟩] at h0
    exact h0
  · intro w
    have h0 := getAsk_any (putL (askTs id digA sa sb sc sd 2)).data.toList w
    rw [bs_list] at h0
    exact h0.mono fun z w' hz => ⟨getAsk_back hid h1 h2 h3 h4 ⟨digA_size, .inl rfl⟩ hz, hz.2⟩
  · intro w
    have h0 := putReply_all 1 id n a b c d code 0 0 0 0 w
    rw [putReplyR_one _ _ _ _ _ _ hl] at h0
    exact h0
  · intro w
    have h0 := getReply_long 1 _ (sealed_put _).1 (replyLen (one_len (id := id) (n := n) (a := a) (b := b) (c := c) (d := d) hl)) w
    rw [bs_list] at h0
    exact h0.mono fun z w' hz => ⟨getReply_one hid hn ha hb hc hd hl hz, hz.choose_spec.2.2⟩
  · intro w
    have h0 := getReply_long 2 _ (sealed_put _).1 (replyLen (one_len (id := id) (n := n) (a := a) (b := b) (c := c) (d := d) hl)) w
    rw [bs_list] at h0
    exact h0.mono fun z w' hz => ⟨getReply_wrong hid hl hz, hz.choose_spec.2.2⟩
  · intro w
    have h0 := putReply_all 2 id 0 0 0 0 0 ⟨#[]⟩ e f g h w
    rw [putReplyR_two] at h0
    exact h0
  · intro w
    have h0 := getReply_long 2 _ (sealed_put _).1 (replyLen (two_len (id := id) (a := e) (b := f) (c := g) (d := h))) w
    rw [bs_list] at h0
    exact h0.mono fun z w' hz => ⟨getReply_two hid he hf hg hh hz, hz.choose_spec.2.2⟩
  · intro m hm x hx w
    refine (getReply_any 1 _ ?_ w).mono fun z w' hz => ⟨getReply_torn (turned (sealed_put _) hm hx) hz, hz.choose_spec.2.2⟩
    rw [List.length_set]
    exact replyLen (one_len (id := id) (n := n) (a := a) (b := b) (c := c) (d := d) hl)
end Go.Proofs.YtfphlkkhpccpnaaDoor
