/- Where a text's lines begin, plain. -/
import Derived.Test.YtgejmmkfaliinaaDoorLinesX
namespace Go.Proofs.YtgejmmkfaliinaaDoor.Lines
open Go.RowKit Go.Proofs.YtgejmmkfaliinaaDoorW.PrintWords Go.Proofs.YtgejmmkfaliinaaDoorW.PrintLast
set_option linter.unusedVariables false
set_option linter.unusedSimpArgs false
theorem w64 (x : Int) (h1 : -9223372036854775808 ≤ x) (h2 : x ≤ 9223372036854775807) : wrap64 x = x := by unfold wrap64; omega
theorem getD_left (l r : List Int) (n : Nat) (h : n < l.length) : (l ++ r).getD n 0 = l.getD n 0 := by
  rw [List.getD_eq_getElem?_getD, List.getD_eq_getElem?_getD, List.getElem?_append_left h]
theorem getD_right (l r : List Int) (n : Nat) (h : l.length ≤ n) : (l ++ r).getD n 0 = r.getD (n - l.length) 0 := by
  rw [List.getD_eq_getElem?_getD, List.getD_eq_getElem?_getD, List.getElem?_append_right h]
theorem brk_mem (s : ByteArray) (k : Nat) (x : Int) (h : x ∈ brk s k) : 0 ≤ x ∧ x < (k : Int) ∧ bt s x = 10 := by
  unfold brk at h
  obtain ⟨i, hi, rfl⟩ := List.mem_map.1 h
  obtain ⟨h1, h2⟩ := List.mem_filter.1 hi
  have := List.mem_range.1 h1
  exact ⟨by omega, by omega, of_decide_eq_true h2⟩
theorem brk_split (s : ByteArray) (k : Nat) : ∀ m, ∃ r, brk s (k + m) = brk s k ++ r ∧ ∀ x ∈ r, (k : Int) ≤ x := by
  intro m
  induction m with
  | zero => exact ⟨[], by simp, fun x hx => by cases hx⟩
  | succ m ih =>
    obtain ⟨r, h1, h2⟩ := ih
    by_cases c : bt s ((k + m : Nat) : Int) = 10
    · refine ⟨r ++ [((k + m : Nat) : Int)], ?_, ?_⟩
      · rw [show k + (m + 1) = (k + m) + 1 from rfl, brk_hit s _ c, h1, List.append_assoc]
      · intro x hx
        rcases List.mem_append.1 hx with hx | hx
        · exact h2 x hx
        · rw [List.mem_singleton.1 hx]; omega
    · exact ⟨r, by rw [show k + (m + 1) = (k + m) + 1 from rfl, brk_miss s _ c, h1], h2⟩
theorem brk_sorted (s : ByteArray) (k : Nat) : (brk s k).Pairwise (· < ·) := by
  unfold brk
  rw [List.pairwise_map]
  refine (List.pairwise_lt_range.filter _).imp ?_
  intro a b h
  omega
/-- The beginnings of the lines that begin among the first k bytes. -/
def begk (s : ByteArray) (k : Nat) : List Int := 0 :: (brk s k).map (· + 1)
theorem at_eq (xs : List Int) (h : ∀ x ∈ xs, 0 ≤ x ∧ x ≤ 1000000) (a : Int) (ha : 0 ≤ a ∧ a ≤ 1000000) : at' a xs = xs.map (fun x => a + x + 1) := by
  unfold at'
  refine List.map_congr_left fun x hx => ?_
  have := h x hx
  rw [w64 (a + x) (by omega) (by omega), w64 _ (by omega) (by omega)]
theorem beg_eq (s : ByteArray) (hs : s.size ≤ 1000000) : beg s = begk s s.size := by
  unfold beg begk
  rw [at_eq _ (fun x hx => by have := brk_mem s _ x hx; omega) 0 (by omega)]
  congr 1
  refine List.map_congr_left fun x _ => by omega
theorem begk_len (s : ByteArray) (k : Nat) : (begk s k).length = (brk s k).length + 1 := by simp [begk]
theorem begk_sorted (s : ByteArray) (k : Nat) : (begk s k).Pairwise (· < ·) := by
  unfold begk
  refine List.pairwise_cons.2 ⟨?_, ?_⟩
  · intro x hx
    obtain ⟨y, hy, rfl⟩ := List.mem_map.1 hx
    have := brk_mem s k y hy
    show (0 : Int) < y + 1
    omega
  · rw [List.pairwise_map]
    refine (brk_sorted s k).imp ?_
    intro a b h
    show a + 1 < b + 1
    omega
theorem getD_lt {z : List Int} (h : z.Pairwise (· < ·)) (a b : Nat) (hab : a < b) (hb : b < z.length) : z.getD a 0 < z.getD b 0 := by
  have := (List.pairwise_iff_getElem.1 h) a b (by omega) hb hab
  simpa [List.getD, List.getElem?_eq_getElem, hb, (show a < z.length by omega)] using this
theorem begk_top (s : ByteArray) (k i : Nat) (hi : i < (begk s k).length) : (begk s k).getD i 0 ≤ (k : Int) := by
  have hm : (begk s k).getD i 0 ∈ begk s k := by
    rw [List.getD_eq_getElem?_getD, List.getElem?_eq_getElem hi]
    exact List.getElem_mem hi
  rcases List.mem_cons.1 hm with h | h
  · omega
  · obtain ⟨y, hy, h⟩ := List.mem_map.1 h
    have := brk_mem s k y hy
    omega
theorem good_begk (s : ByteArray) (hs : s.size ≤ 1000000) : Good (begk s s.size) := by
  have hl := begk_len s s.size
  have hb := brk_len s s.size
  refine ⟨by omega, ?_, rfl, fun i hi => by have := begk_top s _ i hi; omega, by omega⟩
  intro a b hab hb
  rcases Nat.eq_or_lt_of_le hab with rfl | hab
  · exact Int.le_refl _
  · exact Int.le_of_lt (getD_lt (begk_sorted s _) a b hab hb)
theorem good_beg (s : ByteArray) (hs : s.size ≤ 1000000) : Good (beg s) := by rw [beg_eq s hs]; exact good_begk s hs
/-- Behind the k-th byte: the lines' beginnings are those so far, and others that lie beyond. -/
theorem begk_split (s : ByteArray) (k : Nat) (hk : k ≤ s.size) : ∃ r, begk s s.size = begk s k ++ r ∧ ∀ x ∈ r, (k : Int) < x := by
  obtain ⟨r, h1, h2⟩ := brk_split s k (s.size - k)
  rw [show k + (s.size - k) = s.size from by omega] at h1
  refine ⟨r.map (· + 1), by unfold begk; rw [h1]; simp, ?_⟩
  intro x hx
  obtain ⟨y, hy, rfl⟩ := List.mem_map.1 hx
  have := h2 y hy
  show (k : Int) < y + 1
  omega
/-- The line of a place is one. -/
theorem line_uniq (s : ByteArray) (k n : Nat) (hk : k ≤ s.size) (hn : n < (begk s s.size).length) (h1 : (begk s s.size).getD n 0 ≤ (k : Int)) (h2 : ∀ t, n < t → t < (begk s s.size).length → (k : Int) < (begk s s.size).getD t 0) : n = (brk s k).length := by
  obtain ⟨r, e, hr⟩ := begk_split s k hk
  have hl := begk_len s k
  rw [e] at hn h1 h2
  rw [List.length_append] at hn h2
  rcases Nat.lt_trichotomy n (brk s k).length with h | h | h
  · exfalso
    have q := h2 (brk s k).length h (by omega)
    rw [getD_left _ _ _ (by omega)] at q
    have := begk_top s k (brk s k).length (by omega)
    omega
  · exact h
  · exfalso
    rw [getD_right _ _ _ (by omega)] at h1
    have hm : r.getD (n - (begk s k).length) 0 ∈ r := by
      rw [List.getD_eq_getElem?_getD, List.getElem?_eq_getElem (by omega)]
      exact List.getElem_mem (by omega)
    have := hr _ hm
    omega
end Go.Proofs.YtgejmmkfaliinaaDoor.Lines
