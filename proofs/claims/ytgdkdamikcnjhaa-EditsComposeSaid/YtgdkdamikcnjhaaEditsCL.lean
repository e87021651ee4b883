/- What is left of an edit when what is the same at both ends is left out: over plain lists. -/
import Derived.Test.YtgdkdamikcnjhaaEditsCB2
import Derived.Test.YtgdkdamikcnjhaaPEditsCx6
import Derived.Test.YtgdkdamikcnjhaaPEditsCx3
namespace Go.Proofs.Ytgdkdamikcnjhaa.PEditsC
open Go.RowKit Go.Proofs.YtgdkdamikcnjhaaW.PrintWords Go.Proofs.YtgdkdamikcnjhaaW.PrintLast
set_option linter.unusedVariables false
set_option linter.unusedSimpArgs false
abbrev pre := edits_lean.pre
theorem pre_spec : ∀ x y : List UInt8, ∃ c x' y', x = c ++ x' ∧ y = c ++ y' ∧ c.length = pre x y ∧ (x' = [] ∨ y' = [] ∨ x'[0]? ≠ y'[0]?) := by
  intro x
  induction x with
  | nil => intro y; exact ⟨[], [], y, rfl, rfl, by simp [pre, edits_lean.pre], Or.inl rfl⟩
  | cons a x ih =>
    intro y
    cases y with
    | nil => exact ⟨[], a :: x, [], rfl, rfl, by simp [pre, edits_lean.pre], Or.inr (Or.inl rfl)⟩
    | cons b y =>
      by_cases h : a = b
      · subst h
        obtain ⟨c, x', y', rfl, rfl, h3, h4⟩ := ih y
        refine ⟨a :: c, x', y', rfl, rfl, ?_, h4⟩
        simp only [pre, edits_lean.pre, if_true, List.length_cons] at h3 ⊢
        omega
      · refine ⟨[], a :: x, b :: y, rfl, rfl, by simp [pre, edits_lean.pre, h], Or.inr (Or.inr ?_)⟩
        simpa using h
theorem decomp (o w : List UInt8) : ∃ c m d x, o = c ++ m ++ d ∧ w = c ++ x ++ d ∧ c.length = pre o w ∧ d.length = pre ((o.drop (pre o w)).reverse) ((w.drop (pre o w)).reverse) ∧ (m = [] ∨ x = [] ∨ (m[0]? ≠ x[0]? ∧ m[m.length - 1]? ≠ x[x.length - 1]?)) := by
  obtain ⟨c, o', w', rfl, rfl, h3, h4⟩ := pre_spec o w
  obtain ⟨e, o2, w2, g1, g2, g3, g4⟩ := pre_spec o'.reverse w'.reverse
  have e1 : o' = o2.reverse ++ e.reverse := by rw [← List.reverse_append, ← g1, List.reverse_reverse]
  have e2 : w' = w2.reverse ++ e.reverse := by rw [← List.reverse_append, ← g2, List.reverse_reverse]
  refine ⟨c, o2.reverse, e.reverse, w2.reverse, by rw [e1, List.append_assoc], by rw [e2, List.append_assoc], h3, ?_, ?_⟩
  · rw [← h3, List.drop_left, List.drop_left, List.length_reverse, g3]
  · rcases g4 with g4 | g4 | g4
    · exact Or.inl (by rw [g4]; rfl)
    · exact Or.inr (Or.inl (by rw [g4]; rfl))
    · by_cases hm : o2 = []
      · exact Or.inl (by rw [hm]; rfl)
      by_cases hx : w2 = []
      · exact Or.inr (Or.inl (by rw [hx]; rfl))
      refine Or.inr (Or.inr ⟨?_, ?_⟩)
      · have l1 : 0 < o2.length := List.length_pos_iff.2 hm
        have l2 : 0 < w2.length := List.length_pos_iff.2 hx
        rcases h4 with h4 | h4 | h4
        · rw [e1] at h4; simp at h4; exact absurd h4.1 hm
        · rw [e2] at h4; simp at h4; exact absurd h4.1 hx
        · rw [e1, e2, List.getElem?_append_left (by simpa using l1), List.getElem?_append_left (by simpa using l2)] at h4
          exact h4
      · have l1 : 0 < o2.length := List.length_pos_iff.2 hm
        have l2 : 0 < w2.length := List.length_pos_iff.2 hx
        rw [List.length_reverse, List.length_reverse, List.getElem?_reverse (by omega), List.getElem?_reverse (by omega)]
        rw [show o2.length - 1 - (o2.length - 1) = 0 from by omega, show w2.length - 1 - (w2.length - 1) = 0 from by omega]
        exact g4
/-- An edit, leaned: over a text in whose place it stands. -/
theorem st_lean (y : List UInt8) (a b : Nat) (c m d x w : List UInt8) (hab : a ≤ b) (hb : b ≤ y.length) (h1 : (y.drop a).take (b - a) = c ++ m ++ d) (h2 : w = c ++ x ++ d) :
    Ed.st (a + c.length, b - d.length, x) y = Ed.st (a, b, w) y ∧ a + c.length + m.length + d.length = b := by
  have hl := Ed.seg_len y a b hb
  rw [h1] at hl
  simp only [List.length_append] at hl
  have hlen : a + c.length + m.length + d.length = b := by omega
  refine ⟨?_, hlen⟩
  have hy : y = y.take a ++ (c ++ m ++ d) ++ y.drop b := by
    rw [← h1, List.append_assoc, Ed.seg_drop y a b hab, List.take_append_drop]
  have ha : (y.take a).length = a := by simp; omega
  have t1 : y.take (a + c.length) = y.take a ++ c := by
    rw [List.take_add]
    congr 1
    have : c = ((y.drop a).take (b - a)).take c.length := by rw [h1]; simp
    rw [List.take_take, show min c.length (b - a) = c.length from by omega] at this
    exact this.symm
  have t2 : y.drop (b - d.length) = d ++ y.drop b := by
    have e1 : b - d.length = a + (c.length + m.length) := by omega
    have e2 : y.drop a = (c ++ m ++ d) ++ y.drop b := by rw [← h1, Ed.seg_drop y a b hab]
    rw [e1, ← List.drop_drop, e2, List.append_assoc (c ++ m) d, List.drop_append_of_le_length (by simp)]
    rw [List.drop_eq_nil_of_le (by simp), List.nil_append]
  simp only [Ed.st]
  rw [t1, t2, h2]
  simp [List.append_assoc]
/-- What 'lean' makes of an edit of a text. -/
def lnN (s : ByteArray) (e : X) : Nat := edits_lean.n e.f2 (s.extract e.f0.toNat e.f1.toNat)
def lnK (s : ByteArray) (e : X) : Nat := edits_lean.k e.f2 (s.extract e.f0.toNat e.f1.toNat)
def ln (s : ByteArray) (e : X) : X := ⟨e.f0 + (lnN s e : Int), e.f1 - (lnK s e : Int), (e.f2.extract (lnN s e) e.f2.size).extract 0 ((e.f2.extract (lnN s e) e.f2.size).size - lnK s e)⟩
theorem ln_spec (s : ByteArray) (e : X) (h0 : 0 ≤ e.f0) (h1 : e.f0 ≤ e.f1) (h2 : e.f1 ≤ s.size) : ∃ c m d x, B (s.extract e.f0.toNat e.f1.toNat) = c ++ m ++ d ∧ B e.f2 = c ++ x ++ d ∧ c.length = lnN s e ∧ d.length = lnK s e ∧
    B (ln s e).f2 = x ∧ B (s.extract (ln s e).f0.toNat (ln s e).f1.toNat) = m ∧ (m = [] ∨ x = [] ∨ (m[0]? ≠ x[0]? ∧ m[m.length - 1]? ≠ x[x.length - 1]?)) ∧ e.f0.toNat + c.length + m.length + d.length = e.f1.toNat := by
  obtain ⟨c, m, d, x, g1, g2, g3, g4, g5⟩ := decomp (B (s.extract e.f0.toNat e.f1.toNat)) (B e.f2)
  have hn : lnN s e = pre (B (s.extract e.f0.toNat e.f1.toNat)) (B e.f2) := rfl
  have hdrop : ∀ (b : ByteArray) (n : Nat), B (b.extract n b.size) = (B b).drop n := by
    intro b n
    rw [B_ext, List.take_of_length_le (by simp [B])]
  have hk : lnK s e = d.length := by
    rw [g4, ← hn, ← hdrop, ← hdrop]; rfl
  have hsl : (B s).length = s.size := B_size s
  have hseg : ((B s).drop e.f0.toNat).take (e.f1.toNat - e.f0.toNat) = c ++ m ++ d := by rw [← B_ext, g1]
  have hlen : e.f0.toNat + c.length + m.length + d.length = e.f1.toNat := by
    have := Ed.seg_len (B s) e.f0.toNat e.f1.toNat (by omega)
    rw [hseg] at this
    simp only [List.length_append] at this
    omega
  refine ⟨c, m, d, x, g1, g2, by rw [g3, ← hn], hk.symm, ?_, ?_, g5, hlen⟩
  · simp only [ln]
    rw [B_ext, hdrop]
    have e1 : (e.f2.extract (lnN s e) e.f2.size).size = x.length + d.length := by
      rw [← B_size, hdrop, g2, hn, ← g3, List.append_assoc, List.drop_left]; simp
    rw [e1, hk, g2, hn, ← g3, List.append_assoc, List.drop_left]
    simp
  · rw [B_ext]
    have e1 : (ln s e).f0.toNat = e.f0.toNat + c.length := by simp only [ln]; rw [hn, ← g3]; omega
    have e2 : (ln s e).f1.toNat = e.f0.toNat + c.length + m.length := by simp only [ln]; rw [hk]; omega
    rw [e1, e2, ← List.drop_drop]
    have e3 : (B s).drop e.f0.toNat = (c ++ m ++ d) ++ (B s).drop e.f1.toNat := by rw [← hseg, Ed.seg_drop _ _ _ (by omega)]
    rw [e3, List.append_assoc, List.append_assoc, List.drop_left, show e.f0.toNat + c.length + m.length - (e.f0.toNat + c.length) = m.length from by omega]
    simp
/-- Is nothing left of it? -/
def br (s : ByteArray) (e : X) : Bool := decide (B (s.extract e.f0.toNat e.f1.toNat) = B e.f2)
def lnL (s : ByteArray) (l : List X) : List X := (l.filter fun e => !br s e).map (ln s)
theorem lean_f (s : ByteArray) (e : X) (hs : s.size ≤ 1000000) (he : e.f2.size ≤ 1000000) (h0 : 0 ≤ e.f0) (h1 : e.f0 ≤ e.f1) (h2 : e.f1 ≤ s.size) : edits_lean.f e.f0 e.f1 e.f2 (s.extract e.f0.toNat e.f1.toNat) = some ((ln s e).f0, (ln s e).f1, (ln s e).f2) := by
  obtain ⟨c, m, d, x, g1, g2, g3, g4, g5, g6, g7, g8⟩ := ln_spec s e h0 h1 h2
  have hsz : (s.extract e.f0.toNat e.f1.toNat).size ≤ 1000000 := by rw [ByteArray.size_extract]; omega
  unfold edits_lean.f
  rw [if_pos ⟨by omega, by omega⟩]
  have hN : edits_lean.n e.f2 (s.extract e.f0.toNat e.f1.toNat) = lnN s e := rfl
  have hK : edits_lean.k e.f2 (s.extract e.f0.toNat e.f1.toNat) = lnK s e := rfl
  rw [hN, hK, w64 _ (by omega) (by omega), w64 _ (by omega) (by omega)]
  rfl
theorem bare_f (s : ByteArray) (e : X) (h0 : 0 ≤ e.f0) (h1 : e.f0 ≤ e.f1) (h2 : e.f1 ≤ s.size) : edits_bare.f (ln s e).f0 (ln s e).f1 (ln s e).f2 = some (br s e) := by
  obtain ⟨c, m, d, x, g1, g2, g3, g4, g5, g6, g7, g8⟩ := ln_spec s e h0 h1 h2
  have e0 : (ln s e).f0 = e.f0 + (c.length : Int) := by rw [g3]; rfl
  have e1 : (ln s e).f1 = e.f0 + (c.length : Int) + (m.length : Int) := by
    have : (ln s e).f1 = e.f1 - (d.length : Int) := by rw [g4]; rfl
    omega
  have hb : br s e = decide (m = [] ∧ x = []) := by
    unfold br
    rw [g1, g2]
    by_cases hm : m = [] ∧ x = []
    · rw [decide_eq_true hm, hm.1, hm.2]; simp
    · rw [decide_eq_false hm]
      apply decide_eq_false
      intro h
      have h' : m = x := by
        have := List.append_cancel_right h
        exact List.append_cancel_left this
      rcases g7 with g7 | g7 | g7
      · exact hm ⟨g7, by rw [← h', g7]⟩
      · exact hm ⟨by rw [h', g7], g7⟩
      · exact g7.1 (by rw [h'])
  unfold edits_bare.f
  rw [hb, e0, e1]
  by_cases hm : m = []
  · rw [hm, if_pos (by simp), ByteArray.toList_eq]
    have e5 : (ln s e).f2.data.toList = x := g5
    rw [e5]
    clear g1 g2 g3 g4 g5 g6 g7 g8 e0 e1 hb e5
    exact congrArg some (by rw [Bool.eq_iff_iff]; simp)
  · have : 0 < m.length := List.length_pos_iff.2 hm
    rw [if_neg (by omega), decide_eq_false (fun h => hm h.1)]
end Go.Proofs.Ytgdkdamikcnjhaa.PEditsC
