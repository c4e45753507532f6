/-
  A reply with one byte another one is torn: plain.
-/
import Derived.Test.YtfphlkkhpccpnaaDoorPlCrc
import Derived.Test.YtfphlkkhpccpnaaDoorPlCut
namespace Go.Proofs.YtfphlkkhpccpnaaDoor
open Go.RowKit Go.Proofs K
set_option linter.unusedVariables false

theorem bs_inj {l r : List UInt8} (h : bs l = bs r) : l = r := by
  have := congrArg (fun x : ByteArray => x.data.toList) h
  simpa [bs] using this
theorem set_split {l : List UInt8} {m : Nat} (hm : m < l.length) (c : UInt8) : l.set m c = l.take m ++ c :: l.drop (m + 1) ∧ l = l.take m ++ l[m] :: l.drop (m + 1) := by
  refine ⟨List.set_eq_take_append_cons_drop.trans (if_pos hm), ?_⟩
  rw [List.getElem_cons_drop, List.take_append_drop]
theorem turned {l : List UInt8} (h : Sealed l) {m : Nat} (hm : m < l.length) {c : UInt8} (hc : c ≠ l[m]) : ¬ Sealed (l.set m c) := by
  rintro ⟨_, h2⟩
  obtain ⟨h4, h1⟩ := h
  by_cases hlt : m < 4
  · rw [List.drop_set_of_lt hlt, h1] at h2
    have h3 := bs_inj h2
    rw [List.take_set] at h3
    have h5 := congrArg (fun x : List UInt8 => x[m]?) h3
    simp only [List.getElem?_set, List.length_take, List.getElem?_take] at h5
    rw [if_pos hlt, if_pos trivial, if_pos (by omega), List.getElem?_eq_getElem hm] at h5
    exact hc (Option.some.inj h5).symm
  · have e1 : (l.set m c).take 4 = l.take 4 := by
      rw [List.take_set, List.set_eq_of_length_le]
      rw [List.length_take]; omega
    have e2 : (l.set m c).drop 4 = (l.drop 4).set (m - 4) c := by
      rw [List.drop_set, if_neg (by omega)]
    rw [e1, e2, ← h1] at h2
    have hm' : m - 4 < (l.drop 4).length := by rw [List.length_drop]; omega
    obtain ⟨s1, s2⟩ := set_split hm' c
    have h6 : c = (l.drop 4)[m - 4] := by
      have hh : crcI 0 (bs ((l.drop 4).take (m - 4) ++ c :: (l.drop 4).drop (m - 4 + 1))) = crcI 0 (bs ((l.drop 4).take (m - 4) ++ (l.drop 4)[m - 4] :: (l.drop 4).drop (m - 4 + 1))) := by
        rw [← s1, ← s2]
        exact sumS_inj h2
      exact crc_turn _ _ hh
    refine hc (h6.trans ?_)
    rw [List.getElem_drop]
    congr 1
    omega
theorem getReply_torn {kind : Int} {l : List UInt8} (hn : ¬ Sealed l) {w w' : World} {e : Ending} (hG : GetReplyP kind l w e w') : e = .returned (.tuple #[.agg zReply, .bool false]) := by
  rcases getReply_is hG with ⟨h, _⟩ | ⟨_, he⟩
  · exact absurd h hn
  · exact he
end Go.Proofs.YtfphlkkhpccpnaaDoor
