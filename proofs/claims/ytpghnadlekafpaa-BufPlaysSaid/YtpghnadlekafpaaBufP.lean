/- Pieces of a text, over plain lists: split, spliced, put together. Plain Lean, no program in sight. -/
namespace Go.Proofs.Ytpghnadlekafpaa.Bu
abbrev T := List (List UInt8)
def jn : T → List UInt8
  | [] => []
  | p :: q => p ++ jn q
theorem jn_app (a b : T) : jn (a ++ b) = jn a ++ jn b := by
  induction a with
  | nil => rfl
  | cons p a ih => simp [jn, ih, List.append_assoc]
/-- The pieces ahead of a place. -/
def hd : T → Nat → T
  | [], _ => []
  | p :: q, k => if k ≤ p.length then [p.take k] else p :: hd q (k - p.length)
/-- The pieces behind it. -/
def tl : T → Nat → T
  | [], _ => []
  | p :: q, k => if k ≤ p.length then p.drop k :: q else tl q (k - p.length)
theorem jn_hd : ∀ (P : T) (k : Nat), jn (hd P k) = (jn P).take k := by
  intro P
  induction P with
  | nil => intro k; simp [hd, jn]
  | cons p q ih =>
    intro k
    simp only [hd, jn]
    split
    · rename_i h
      simp [jn, List.take_append_of_le_length h]
    · rename_i h
      simp only [jn, ih]
      rw [List.take_append, List.take_of_length_le (l := p) (by omega)]
theorem jn_tl : ∀ (P : T) (k : Nat), jn (tl P k) = (jn P).drop k := by
  intro P
  induction P with
  | nil => intro k; simp [tl, jn]
  | cons p q ih =>
    intro k
    simp only [tl, jn]
    split
    · rename_i h
      simp [jn, List.drop_append_of_le_length h]
    · rename_i h
      rw [ih, List.drop_append, List.drop_eq_nil_of_le (as := p) (by omega), List.nil_append]
theorem hd_tl_len : ∀ (P : T) (a b : Nat), a ≤ b → (hd P a).length + (tl P b).length ≤ P.length + 1 := by
  intro P
  induction P with
  | nil => intro a b _; simp [hd, tl]
  | cons p q ih =>
    intro a b h
    have tlen : ∀ (Q : T) (k : Nat), (tl Q k).length ≤ Q.length := by
      intro Q
      induction Q with
      | nil => intro k; simp [tl]
      | cons x Q ih => intro k; simp only [tl]; split <;> simp; have := ih (k - x.length); omega
    simp only [hd, tl]
    by_cases c1 : a ≤ p.length
    · rw [if_pos c1]
      split
      · simp; omega
      · have := tlen q (b - p.length); simp; omega
    · rw [if_neg c1, if_neg (by omega)]
      have := ih (a - p.length) (b - p.length) (by omega)
      simp only [List.length_cons]; omega
def fl (P : T) : T := if P.filter (fun p => !p.isEmpty) = [] then [[]] else P.filter (fun p => !p.isEmpty)
theorem jn_filter (P : T) : jn (P.filter (fun p => !p.isEmpty)) = jn P := by
  induction P with
  | nil => rfl
  | cons p q ih =>
    cases p with
    | nil => simp [jn, ih]
    | cons x p => simp [jn, ih]
theorem jn_fl (P : T) : jn (fl P) = jn P := by
  unfold fl
  split
  · rename_i h
    rw [← jn_filter P, h]; rfl
  · exact jn_filter P
theorem fl_len (P : T) : 1 ≤ (fl P).length ∧ (fl P).length ≤ max 1 P.length := by
  unfold fl
  split
  · simp; omega
  · rename_i h
    have h1 : 0 < (P.filter (fun p => !p.isEmpty)).length := List.length_pos_iff.2 h
    have h2 := List.length_filter_le (fun p : List UInt8 => !p.isEmpty) P
    omega
def spl (P : T) (a b : Nat) (w : List UInt8) : T := fl (hd P a ++ [w] ++ tl P b)
theorem jn_spl (P : T) (a b : Nat) (w : List UInt8) : jn (spl P a b w) = (jn P).take a ++ w ++ (jn P).drop b := by
  unfold spl
  rw [jn_fl, jn_app, jn_app, jn_hd, jn_tl]
  simp [jn]
theorem spl_len (P : T) (a b : Nat) (w : List UInt8) (h : a ≤ b) : 1 ≤ (spl P a b w).length ∧ (spl P a b w).length ≤ P.length + 2 := by
  unfold spl
  have h1 := fl_len (hd P a ++ [w] ++ tl P b)
  have h2 := hd_tl_len P a b h
  simp only [List.length_append, List.length_cons, List.length_nil] at h1
  omega
end Go.Proofs.Ytpghnadlekafpaa.Bu
