/-
  An ask that was put is got: plain.
-/
import Derived.Test.YtfphlkkhpccpnaaDoorPlBack
import Derived.Test.YtfphlkkhpccpnaaDoorPlWord
import Derived.Test.YtfphlkkhpccpnaaDoorGetAsk
namespace Go.Proofs.YtfphlkkhpccpnaaDoor
open Go.RowKit Go.Proofs K

def askF (l : List UInt8) : Option (Array Value) := match decF l with
  | some (.list k) => (match askR k with | some (a, []) => some a | _ => none)
  | _ => none
theorem askD_of {l : List UInt8} {o : Option (Array Value)} (h : AskD l o) : askF l = o := by
  unfold askF
  cases h with
  | bad h => rw [decF_of h]
  | text h => rw [decF_of h]
  | none h ha => rw [decF_of h]; simp only; rw [ha]
  | @more k k' a h ha hk =>
    rw [decF_of h]
    simp only
    rw [ha]
    cases k' with
    | nil => exact absurd rfl hk
    | cons => rfl
  | good h ha => rw [decF_of h]; simp only; rw [ha]
theorem numR_num {n : Int} (h : W64 n) (l : List It) : numR (.text (numS n) :: l) = some (n, l) := by
  unfold W64 at h
  simp only [numR, numL_ok, if_true, numS_back h.1 h.2]
theorem txtR_size {n : Int} {s : ByteArray} (h : (s.size : Int) = n) (l : List It) : txtR n (.text s :: l) = some (s, l) := by
  simp only [txtR]
  rw [if_pos (.inr h)]
theorem txtR_any {n : Int} (h : n < 0) (s : ByteArray) (l : List It) : txtR n (.text s :: l) = some (s, l) := by
  simp only [txtR]
  rw [if_pos (.inl h)]
theorem askR_one {id : Int} (hid : W64 id) {addr : ByteArray} (h20 : addr.size = 20) : askR ([numS id, numS (IntKind.u64.wrap 1), addr].map It.text) = some (askC id addr 0 0 0 0 1, []) := by
  simp only [List.map_cons, List.map_nil, show IntKind.u64.wrap 1 = 1 from rfl]
  unfold askR
  rw [numR_num hid, Option.bind_some, numR_num ⟨by decide, by decide⟩, Option.bind_some, txtR_size (by rw [h20]; rfl), Option.bind_some]
  rfl
theorem askR_two {id a b c d : Int} (hid : W64 id) {addr : ByteArray} (h20 : addr.size = 20) (ha : W64 a) (hb : W64 b) (hc : W64 c) (hd : W64 d) : askR ([numS id, numS (IntKind.u64.wrap 2), addr, wordS a b c d].map It.text) = some (askC id addr a b c d 2, []) := by
  obtain ⟨e1, e2, e3, e4⟩ := word_back ha hb hc hd
  simp only [List.map_cons, List.map_nil, show IntKind.u64.wrap 2 = 2 from rfl]
  unfold askR
  rw [numR_num hid, Option.bind_some, numR_num ⟨by decide, by decide⟩, Option.bind_some, txtR_size (by rw [h20]; rfl), Option.bind_some]
  simp only
  rw [if_neg (by decide), if_pos (by decide), txtR_size (by rw [wordS_size]; rfl), Option.map_some, e1, e2, e3, e4]
  rfl
theorem put_len4 {ts : List ByteArray} (h : ts.length ≤ 10) (hs : ∀ s ∈ ts, s.size ≤ 6000) : (putL ts).data.toList.length ≤ 65536 := by
  have e : (putL ts).data.toList = aheadL 192 (encL (ts.map It.text)).length ++ encL (ts.map It.text) := by simp [putL, It.bytes, It.enc]
  have h1 : ∀ ts : List ByteArray, (∀ s ∈ ts, s.size ≤ 6000) → (encL (ts.map It.text)).length ≤ ts.length * 6009 := by
    intro ts
    induction ts with
    | nil => intro _; simp [encL]
    | cons s ts ih =>
      intro h
      have h2 := ih fun x hx => h x (List.mem_cons_of_mem _ hx)
      have h3 := h s (List.mem_cons_self ..)
      have h4 : (textL s).length ≤ s.size + 9 := by
        have h5 := sizeL s
        unfold textL
        split
        · rename_i c hc
          rw [hc] at h5
          split
          · simp
          · rw [List.length_append, show aheadL 128 1 = [UInt8.ofNat 129] from rfl]; simp
        · rw [List.length_append]
          have := aheadL_len 128 s.data.toList.length
          omega
      rw [List.map_cons, encL, It.enc, List.length_append, List.length_cons, Nat.succ_mul]
      omega
  have h2 := h1 ts hs
  have h3 := Nat.mul_le_mul_right 6009 h
  have h4 := aheadL_len 192 (encL (ts.map It.text)).length
  rw [e, List.length_append]
  omega
/-- An ask that is one. -/
def AskOk (id : Int) (addr : ByteArray) (a b c d kind : Int) : Prop := addr.size = 20 ∧ (kind = 2 ∨ kind = 1 ∧ a = 0 ∧ b = 0 ∧ c = 0 ∧ d = 0)
def askTs (id : Int) (addr : ByteArray) (a b c d kind : Int) : List ByteArray := if kind = 2 then [numS id, numS (IntKind.u64.wrap 2), addr, wordS a b c d] else [numS id, numS (IntKind.u64.wrap 1), addr]
theorem putAskR_ok {id : Int} {addr : ByteArray} {a b c d kind : Int} (h : AskOk id addr a b c d kind) : putAskR id addr a b c d kind = (putL (askTs id addr a b c d kind), true) := by
  unfold putAskR askTs
  rw [if_neg (fun h' => h' h.1)]
  rcases h.2 with h2 | ⟨h1, h3⟩
  · rw [if_pos h2, if_pos h2]
  · have h2 : ¬ kind = 2 := by omega
    rw [if_neg h2, if_pos ⟨h1, h3⟩, if_neg h2]
theorem putAskR_no {id : Int} {addr : ByteArray} {a b c d kind : Int} (h : ¬ AskOk id addr a b c d kind) : putAskR id addr a b c d kind = (⟨#[]⟩, false) := by
  unfold putAskR
  split
  · rfl
  · rename_i h20
    have h20' : addr.size = 20 := Decidable.of_not_not h20
    rw [if_neg (fun h2 => h ⟨h20', .inl h2⟩), if_neg (fun h1 => h ⟨h20', .inr h1⟩)]
theorem askTs_len {id : Int} {addr : ByteArray} {a b c d kind : Int} (h20 : addr.size = 20) : (putL (askTs id addr a b c d kind)).data.toList.length ≤ 65536 := by
  unfold askTs
  have h0 := numS_size id
  have h1 := numS_size (IntKind.u64.wrap 1)
  have h2 := numS_size (IntKind.u64.wrap 2)
  have h3 := wordS_size a b c d
  split
  · refine put_len4 (by simp) fun s hs => ?_
    simp only [List.mem_cons, List.not_mem_nil, or_false] at hs
    rcases hs with rfl | rfl | rfl | rfl <;> omega
  · refine put_len4 (by simp) fun s hs => ?_
    simp only [List.mem_cons, List.not_mem_nil, or_false] at hs
    rcases hs with rfl | rfl | rfl <;> omega
theorem askF_put {id : Int} {addr : ByteArray} {a b c d kind : Int} (hid : W64 id) (ha : W64 a) (hb : W64 b) (hc : W64 c) (hd : W64 d) (h : AskOk id addr a b c d kind) : askF (putL (askTs id addr a b c d kind)).data.toList = some (askC id addr a b c d kind) := by
  unfold askF
  rw [decF_put (askTs_len h.1)]
  simp only
  rcases h.2 with rfl | ⟨rfl, rfl, rfl, rfl, rfl⟩
  · rw [show askTs id addr a b c d 2 = [numS id, numS (IntKind.u64.wrap 2), addr, wordS a b c d] from rfl, askR_two hid h.1 ha hb hc hd]
  · rw [show askTs id addr 0 0 0 0 1 = [numS id, numS (IntKind.u64.wrap 1), addr] from rfl, askR_one hid h.1]
theorem bs_list (s : ByteArray) : bs s.data.toList = s := bytes_list rfl
theorem askC_inj {id id' : Int} {addr addr' : ByteArray} {a b c d k a' b' c' d' k' : Int} (h : askC id addr a b c d k = askC id' addr' a' b' c' d' k') : id = id' ∧ addr = addr' ∧ a = a' ∧ b = b' ∧ c = c' ∧ d = d' ∧ k = k' := by
  simpa [askC] using h
/-- What GetAsk answers, by plain words. -/
theorem getAsk_is {l : List UInt8} {w w' : World} {e : Ending} (h : GetAskP l w e w') : (∃ id addr a b c d k, askF l = some (askC id addr a b c d k) ∧ (putAskR id addr a b c d k).1 = bs l ∧ e = .returned (.tuple #[.agg (askC id addr a b c d k), .bool true])) ∨
    (e = .returned (.tuple #[.agg zAsk, .bool false]) ∧ ∀ id addr a b c d k, askF l = some (askC id addr a b c d k) → (putAskR id addr a b c d k).1 ≠ bs l) := by
  rcases h.1 with ⟨id, addr, a, b, c, d, k, hD, hp, he⟩ | ⟨he, hD | ⟨id, addr, a, b, c, d, k, hD, hp⟩⟩
  · exact .inl ⟨_, _, _, _, _, _, _, askD_of hD, hp, he⟩
  · refine .inr ⟨he, fun id addr a b c d k hf => ?_⟩
    rw [askD_of hD] at hf
    cases hf
  · refine .inr ⟨he, fun id' addr' a' b' c' d' k' hf => ?_⟩
    rw [askD_of hD, Option.some.injEq] at hf
    obtain ⟨rfl, rfl, rfl, rfl, rfl, rfl, rfl⟩ := askC_inj hf
    exact hp
theorem getAsk_back {id : Int} {addr : ByteArray} {a b c d kind : Int} (hid : W64 id) (ha : W64 a) (hb : W64 b) (hc : W64 c) (hd : W64 d) (h : AskOk id addr a b c d kind) {w w' : World} {e : Ending} (hG : GetAskP (putL (askTs id addr a b c d kind)).data.toList w e w') :
    e = .returned (.tuple #[.agg (askC id addr a b c d kind), .bool true]) := by
  have hf := askF_put hid ha hb hc hd h
  rcases getAsk_is hG with ⟨id', addr', a', b', c', d', k', hf', _, he⟩ | ⟨_, hn⟩
  · rw [hf, Option.some.injEq] at hf'
    rw [he, ← hf']
  · exact absurd (by rw [putAskR_ok h, bs_list]) (hn _ _ _ _ _ _ _ hf)
end Go.Proofs.YtfphlkkhpccpnaaDoor
