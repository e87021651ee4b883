/- The printed functions of layer 1, said over plain lists. -/
import Derived.Test.YtpghnadlekafpaaPBufx1
import Derived.Test.YtpghnadlekafpaaPBufx2
import Derived.Test.YtpghnadlekafpaaEd
namespace Go.Proofs.Ytpghnadlekafpaa.PBuf
open Go.RowKit Go.Proofs.YtpghnadlekafpaaW.PrintWords Go.Proofs.YtpghnadlekafpaaW.PrintLast
set_option linter.unusedVariables false
set_option linter.unusedSimpArgs false
abbrev X := S40
abbrev rdX := rd_T40

theorem rd_mid (p : List X) (e : X) (q : List X) : rdX (p ++ e :: q) (p.length : Int) = e := by
  simp [rdX, rd_T40, List.getD]
theorem w64 (x : Int) (h1 : -9223372036854775808 ≤ x) (h2 : x ≤ 9223372036854775807) : wrap64 x = x := by unfold wrap64; omega
theorem mid_assoc (p : List X) (e : X) (q : List X) : p ++ e :: q = (p ++ [e]) ++ q := by simp
theorem snoc_len (p : List X) (e : X) : ((p ++ [e]).length : Int) = (p.length : Int) + 1 := by simp
theorem mid_len (p : List X) (e : X) (q : List X) : (p ++ e :: q).length = p.length + q.length + 1 := by simp; omega
def rt (n : Int) : Int → List X → Bool
  | _, [] => true
  | a, e :: l => if e.f0 < a then false else if e.f1 < e.f0 then false else if e.f1 > n then false else rt n e.f1 l
theorem rt_cons {n a : Int} {e : X} {l : List X} (h : rt n a (e :: l) = true) : a ≤ e.f0 ∧ e.f0 ≤ e.f1 ∧ e.f1 ≤ n ∧ rt n e.f1 l = true := by
  simp only [rt] at h
  split at h
  · cases h
  · split at h
    · cases h
    · split at h
      · cases h
      · exact ⟨by omega, by omega, by omega, h⟩
theorem Right_l0 (n : Int) : ∀ (q p : List X) (k : Nat) (a : Int), q.length < k → (p ++ q).length ≤ 4398046511104 → edits_Right.l0 k n a (p ++ q) ((p ++ q).length : Int) (p.length : Int) = some (rt n a q) := by
  intro q
  induction q with
  | nil =>
    intro p k a hk hb
    obtain ⟨k, rfl⟩ : ∃ m, k = m + 1 := ⟨k - 1, by simp at hk; omega⟩
    simp only [edits_Right.l0, rt]
    rw [if_neg (by simp)]
  | cons e q ih =>
    intro p k a hk hb
    obtain ⟨k, rfl⟩ : ∃ m, k = m + 1 := ⟨k - 1, by simp at hk; omega⟩
    have hl := mid_len p e q
    simp only [edits_Right.l0, rt]
    rw [if_pos (by omega), if_pos (by omega), if_pos (by omega)]
    rw [show rd_T40 (p ++ e :: q) (p.length : Int) = e from rd_mid p e q]
    by_cases c1 : e.f0 < a
    · rw [if_pos c1, if_pos c1]
    rw [if_neg c1, if_neg c1]
    by_cases c2 : e.f1 < e.f0
    · rw [if_pos c2, if_pos c2]
    rw [if_neg c2, if_neg c2]
    by_cases c3 : e.f1 > n
    · rw [if_pos c3, if_pos c3]
    rw [if_neg c3, if_neg c3]
    rw [w64 _ (by omega) (by omega), mid_assoc, ← snoc_len p e]
    exact ih (p ++ [e]) k e.f1 (by simp at hk; omega) (by rw [← mid_assoc]; exact hb)
theorem Right_eq (n : Int) (l : List X) (k : Nat) (hk : l.length < k) (hb : l.length ≤ 4398046511104) : edits_Right.f k n l = some (rt n 0 l) := by
  unfold edits_Right.f
  exact Right_l0 n l [] k 0 hk hb
/-- The reference's way of asking, from a place on that is not below 0. -/
theorem refRight_l0 (n : Int) : ∀ (q p : List X) (k : Nat) (a : Int), q.length < k → (p ++ q).length ≤ 4398046511104 → 0 ≤ a → (p = [] ∧ a = 0 ∨ ∃ p' e, p = p' ++ [e] ∧ a = e.f1) → frisketref01_Right.l0 k n (p ++ q) (p.length : Int) = some (rt n a q) := by
  intro q
  induction q with
  | nil =>
    intro p k a hk hb ha hp
    obtain ⟨k, rfl⟩ : ∃ m, k = m + 1 := ⟨k - 1, by simp at hk; omega⟩
    simp only [frisketref01_Right.l0, rt]
    rw [if_neg (by simp)]
  | cons e q ih =>
    intro p k a hk hb ha hp
    obtain ⟨k, rfl⟩ : ∃ m, k = m + 1 := ⟨k - 1, by simp at hk; omega⟩
    have hl := mid_len p e q
    simp only [frisketref01_Right.l0, rt]
    rw [if_pos (by omega), if_pos (by omega)]
    rw [show rd_T40 (p ++ e :: q) (p.length : Int) = e from rd_mid p e q]
    by_cases c1 : e.f0 < 0
    · rw [if_pos c1, if_pos (by omega)]
    rw [if_neg c1]
    by_cases c2 : e.f1 < e.f0
    · rw [if_pos c2]
      by_cases c1' : e.f0 < a
      · rw [if_pos c1']
      · rw [if_neg c1', if_pos c2]
    rw [if_neg c2]
    by_cases c3 : e.f1 > n
    · rw [if_pos c3]
      by_cases c1' : e.f0 < a
      · rw [if_pos c1']
      · rw [if_neg c1', if_neg c2, if_pos c3]
    rw [if_neg c3]
    have step : frisketref01_Right.l0 k n (p ++ e :: q) (wrap64 ((p.length : Int) + 1)) = some (rt n e.f1 q) := by
      rw [w64 _ (by omega) (by omega), mid_assoc, ← snoc_len p e]
      exact ih (p ++ [e]) k e.f1 (by simp at hk; omega) (by rw [← mid_assoc]; exact hb) (by omega) (Or.inr ⟨p, e, rfl, rfl⟩)
    rcases hp with ⟨rfl, rfl⟩ | ⟨p', e', rfl, rfl⟩
    · rw [if_neg (by simp), step, if_neg c1, if_neg c2, if_neg c3]
    · have hl2 := snoc_len p' e'
      rw [if_pos (by omega)]
      have e3 : wrap64 (((p' ++ [e']).length : Int) - 1) = (p'.length : Int) := by rw [w64 _ (by omega) (by omega)]; omega
      rw [e3, if_pos (by omega), if_pos (by rw [hl]; omega)]
      have e4 : rd_T40 (p' ++ [e'] ++ e :: q) (p'.length : Int) = e' := by
        rw [List.append_assoc]; exact rd_mid p' e' _
      rw [e4]
      by_cases c1' : e.f0 < e'.f1
      · rw [if_pos c1', if_pos c1']
      · rw [if_neg c1', if_neg c1', if_neg c2, if_neg c3]; exact step
theorem refRight_eq (n : Int) (l : List X) (k : Nat) (hk : l.length < k) (hb : l.length ≤ 4398046511104) : frisketref01_Right.f k n l = some (rt n 0 l) := by
  unfold frisketref01_Right.f
  exact refRight_l0 n l [] k 0 hk hb (Int.le_refl 0) (Or.inl ⟨rfl, rfl⟩)
def gr (l : List X) : Bool := (l.any fun e => decide ((e.f2.size : Int) > 100)) || decide ((l.length : Int) > 30)
theorem Great_l0 (w : List X) : ∀ (q p : List X) (k : Nat), q.length < k → (p ++ q).length ≤ 4398046511104 → frisketref01_Great.l0 k (p ++ q) (p.length : Int) = some ((q.any fun e => decide ((e.f2.size : Int) > 100)) || decide (((p ++ q).length : Int) > 30)) := by
  intro q
  induction q with
  | nil =>
    intro p k hk hb
    obtain ⟨k, rfl⟩ : ∃ m, k = m + 1 := ⟨k - 1, by simp at hk; omega⟩
    simp only [frisketref01_Great.l0]
    rw [if_neg (by simp)]
    simp
  | cons e q ih =>
    intro p k hk hb
    obtain ⟨k, rfl⟩ : ∃ m, k = m + 1 := ⟨k - 1, by simp at hk; omega⟩
    have hl := mid_len p e q
    simp only [frisketref01_Great.l0]
    rw [if_pos (by omega), if_pos (by omega)]
    rw [show rd_T40 (p ++ e :: q) (p.length : Int) = e from rd_mid p e q]
    by_cases c1 : (e.f2.size : Int) > 100
    · rw [if_pos c1, List.any_cons, decide_eq_true c1]; rfl
    · rw [if_neg c1, w64 _ (by omega) (by omega), List.any_cons, decide_eq_false c1, Bool.false_or, mid_assoc, ← snoc_len p e]
      exact ih (p ++ [e]) k (by simp at hk; omega) (by rw [← mid_assoc]; exact hb)
theorem Great_eq (l : List X) (k : Nat) (hk : l.length < k) (hb : l.length ≤ 4398046511104) : frisketref01_Great.f k l = some (gr l) := by
  unfold frisketref01_Great.f
  exact Great_l0 l l [] k hk hb
theorem gr_len {l : List X} (h : gr l = false) : l.length ≤ 30 ∧ ∀ e ∈ l, e.f2.size ≤ 100 := by
  unfold gr at h
  rw [Bool.or_eq_false_iff] at h
  obtain ⟨h1, h2⟩ := h
  refine ⟨by have := of_decide_eq_false h2; omega, fun e he => ?_⟩
  have := List.any_eq_false.1 h1 e he
  simp at this
  omega
end Go.Proofs.Ytpghnadlekafpaa.PBuf
