/- What LinesLines' loops find, plain. -/
import Derived.Test.YtgejmmkfaliinaaDoorLinesT
namespace Go.Proofs.YtgejmmkfaliinaaDoor.Lines
open Go.RowKit Go.Proofs.YtgejmmkfaliinaaDoorW.PrintWords Go.Proofs.YtgejmmkfaliinaaDoorW.PrintLast
set_option linter.unusedVariables false
set_option linter.unusedSimpArgs false
theorem begk_hit (s : ByteArray) (j : Nat) (hj : j < s.size) (c : bt s (j : Int) = 10) : (brk s (j + 1)).length = (brk s j).length + 1 ∧ (begk s s.size).getD ((brk s j).length + 1) 0 = (j : Int) + 1 ∧ (brk s j).length + 1 < (begk s s.size).length := by
  have e1 : begk s (j + 1) = begk s j ++ [(j : Int) + 1] := by unfold begk; rw [brk_hit s j c]; simp
  have e2 : (brk s (j + 1)).length = (brk s j).length + 1 := by rw [brk_hit s j c]; simp
  obtain ⟨r, er, _⟩ := begk_split s (j + 1) (by omega)
  have hl := begk_len s j
  have hl1 := begk_len s (j + 1)
  refine ⟨e2, ?_, ?_⟩
  · rw [er, getD_left _ _ _ (by omega), e1, getD_right _ _ _ (by omega), hl]
    simp
  · rw [er, List.length_append]; omega
theorem row_lt' (s : ByteArray) (a : Nat) (ha : a ≤ s.size) : (brk s a).length < (begk s s.size).length := by
  obtain ⟨r, er, _⟩ := begk_split s a ha
  have := begk_len s a
  rw [er, List.length_append]
  omega
/-- Where a line ends, by the first new line behind its beginning. -/
theorem fin_at (s : ByteArray) (j : Nat) (hj : j < s.size) (c : bt s (j : Int) = 10) : fin s (begk s s.size) (brk s j).length = (j : Int) := by
  obtain ⟨_, e, h⟩ := begk_hit s j hj c
  unfold fin
  rw [if_pos h, e]
  omega
theorem fin_end (s : ByteArray) : fin s (begk s s.size) (brk s s.size).length = (s.size : Int) := by
  unfold fin
  rw [if_neg (by rw [begk_len]; omega)]
theorem lead_cons (c : UInt8) (l : List UInt8) (h : c = 32 ∨ c = 9) : lead (c :: l) = lead l + 1 := by
  show (if c = 32 ∨ c = 9 then lead l + 1 else 0) = _
  rw [if_pos h]
theorem lead_stop (c : UInt8) (l : List UInt8) (h : ¬ (c = 32 ∨ c = 9)) : lead (c :: l) = 0 := by
  show (if c = 32 ∨ c = 9 then lead l + 1 else 0) = _
  rw [if_neg h]
/-- The byte at a place of a cut. -/
theorem cut_get (s : ByteArray) (a b i : Nat) (hi : a + i < b) (hb : b ≤ s.size) : ∃ c r, (s.extract a b).data.toList.drop i = c :: r ∧ r = (s.extract a b).data.toList.drop (i + 1) ∧ (c.toNat : Int) = bt s ((a + i : Nat) : Int) := by
  have hl : (s.extract a b).data.toList.length = b - a := by
    have e : (s.extract a b).size = b - a := by rw [ByteArray.size_extract]; omega
    rw [← e]
    simp only [Array.length_toList]
    rfl
  have hlt : i < (s.extract a b).data.toList.length := by omega
  refine ⟨_, _, List.drop_eq_getElem_cons hlt, rfl, ?_⟩
  unfold bt
  rw [dif_pos (by rw [Int.toNat_natCast]; omega)]
  congr 2
  simp only [ByteArray.data_extract, ByteArray.getElem_eq_getElem_data, Array.getElem_toList, Array.getElem_extract]
  congr 1
/-- What holds between the rounds of the first loop: at the place j, k lines are over. -/
structure P1 (s : ByteArray) (n j k : Int) : Prop where
  j0 : 0 ≤ j
  j1 : j ≤ (s.size : Int) + 1
  k0 : 0 ≤ k
  cnt : j ≤ (s.size : Int) → k = ((brk s j.toNat).length : Int)
  last : j = (s.size : Int) + 1 → k = ((begk s s.size).length : Int)
  neg : n < 0 → j = 0
  le : 0 ≤ n → k ≤ n
  hit : k = n → j ≤ (s.size : Int) → j = (begk s s.size).getD n.toNat 0
theorem P1.start (s : ByteArray) (n : Int) : P1 s n 0 0 := by
  refine ⟨by omega, by omega, by omega, fun _ => rfl, fun h => by omega, fun _ => rfl, fun h => h, fun h _ => ?_⟩
  subst h
  rfl
theorem P1.nl {s : ByteArray} {n j k : Int} (h : P1 s n j k) (hj : j < (s.size : Int)) (hk : k < n) (c : bt s j = 10) : P1 s n (j + 1) (k + 1) := by
  have h0 := h.j0
  have hc := h.cnt (by omega)
  have hb := begk_hit s j.toNat (by omega) (by rw [show ((j.toNat : Nat) : Int) = j from by omega]; exact c)
  have e : (j + 1).toNat = j.toNat + 1 := by omega
  refine ⟨by omega, by omega, by have := h.k0; omega, fun _ => ?_, fun q => by omega, fun q => by have := h.k0; omega, fun q => by omega, fun q _ => ?_⟩
  · rw [e, hb.1, hc]; omega
  · have en : n.toNat = (brk s j.toNat).length + 1 := by omega
    rw [en, hb.2.1]
    omega
theorem P1.no {s : ByteArray} {n j k : Int} (h : P1 s n j k) (hj : j < (s.size : Int)) (hk : k < n) (c : ¬ bt s j = 10) : P1 s n (j + 1) k := by
  have h0 := h.j0
  have hc := h.cnt (by omega)
  have e : (j + 1).toNat = j.toNat + 1 := by omega
  refine ⟨by omega, by omega, h.k0, fun _ => ?_, fun q => by omega, fun q => by have := h.k0; omega, fun q => by omega, fun q _ => by omega⟩
  rw [e, brk_miss s _ (by rw [show ((j.toNat : Nat) : Int) = j from by omega]; exact c)]
  exact hc
theorem P1.end {s : ByteArray} {n k : Int} (h : P1 s n (s.size : Int) k) (hk : k < n) : P1 s n ((s.size : Int) + 1) (k + 1) := by
  have hc := h.cnt (Int.le_refl _)
  rw [Int.toNat_natCast] at hc
  refine ⟨by omega, by omega, by have := h.k0; omega, fun q => by omega, fun _ => ?_, fun q => by have := h.k0; omega, fun q => by omega, fun _ q => by omega⟩
  rw [begk_len, hc]
  omega
/-- Out of range: the line is none. -/
theorem P1.out {s : ByteArray} {n j k : Int} (h : P1 s n j k) (q : n < 0 ∨ (s.size : Int) < j) : n < 0 ∨ ((beg s).length : Int) ≤ n ∨ 1000000 < (s.size : Int) := by
  by_cases hs : s.size ≤ 1000000
  · rcases q with q | q
    · exact Or.inl q
    · by_cases hn : n < 0
      · exact Or.inl hn
      · refine Or.inr (Or.inl ?_)
        have h1 := h.j1
        have h2 := h.last (by omega)
        have h3 := h.le (by omega)
        rw [beg_eq s hs]
        omega
  · omega
/-- In range: the place is where line n begins. -/
theorem P1.at_ {s : ByteArray} {n j k : Int} (h : P1 s n j k) (hn : 0 ≤ n) (hj : j ≤ (s.size : Int)) (hk : ¬ k < n) : k = n ∧ j = (begk s s.size).getD n.toNat 0 ∧ n.toNat = (brk s j.toNat).length ∧ n.toNat < (begk s s.size).length := by
  have h1 := h.le hn
  have e : k = n := by omega
  have hc := h.cnt hj
  refine ⟨e, h.hit e hj, by omega, ?_⟩
  have := row_lt' s j.toNat (by have := h.j0; omega)
  omega
end Go.Proofs.YtgejmmkfaliinaaDoor.Lines
