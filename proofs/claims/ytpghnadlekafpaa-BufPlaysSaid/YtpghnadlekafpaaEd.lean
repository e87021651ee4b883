/- Lists of edits over plain lists of bytes: what is right, what is made, what is turned. Plain Lean, no program in sight. -/
namespace Go.Proofs.Ytpghnadlekafpaa.Ed
abbrev E := Nat × Nat × List UInt8
def R (n : Nat) : Nat → List E → Prop
  | _, [] => True
  | a, e :: l => a ≤ e.1 ∧ e.1 ≤ e.2.1 ∧ e.2.1 ≤ n ∧ R n e.2.1 l
def ap (s : List UInt8) : Nat → List E → List UInt8
  | a, [] => s.drop a
  | a, e :: l => (s.drop a).take (e.1 - a) ++ e.2.2 ++ ap s e.2.1 l
def st (e : E) (s : List UInt8) : List UInt8 := s.take e.1 ++ e.2.2 ++ s.drop e.2.1
def sz : List E → Nat
  | [] => 0
  | e :: l => e.2.2.length + sz l
theorem seg_len (s : List UInt8) (a b : Nat) (hb : b ≤ s.length) : ((s.drop a).take (b - a)).length = b - a := by
  simp; omega
theorem take_seg (s : List UInt8) (a b : Nat) (h : a ≤ b) : s.take a ++ (s.drop a).take (b - a) = s.take b := by
  rw [← List.take_add]; congr 1; omega
theorem seg_drop (s : List UInt8) (a b : Nat) (h : a ≤ b) : (s.drop a).take (b - a) ++ s.drop b = s.drop a := by
  have := List.take_append_drop (b - a) (s.drop a)
  rw [List.drop_drop, show a + (b - a) = b from by omega] at this
  exact this
theorem ap_len (n : Nat) (s : List UInt8) (hs : s.length = n) : ∀ (l : List E) (a : Nat), a ≤ n → R n a l → (ap s a l).length ≤ (n - a) + sz l := by
  intro l
  induction l with
  | nil => intro a ha _; simp [ap, sz, hs]
  | cons e l ih =>
    intro a ha ⟨h1, h2, h3, h4⟩
    have := ih e.2.1 h3 h4
    simp only [ap, sz, List.length_append]
    rw [seg_len s a e.1 (by omega)]
    omega
theorem foldr_st (n : Nat) (s : List UInt8) (hs : s.length = n) : ∀ (l : List E) (a : Nat), a ≤ n → R n a l → l.foldr st s = s.take a ++ ap s a l := by
  intro l
  induction l with
  | nil => intro a ha _; simp [ap]
  | cons e l ih =>
    intro a ha ⟨h1, h2, h3, h4⟩
    have e1 := ih e.2.1 h3 h4
    have hl : (s.take e.2.1).length = e.2.1 := by simp; omega
    simp only [List.foldr_cons, e1, st, ap]
    rw [List.drop_append_of_le_length (by omega), List.take_append_of_le_length (by omega), List.take_take, show min e.1 e.2.1 = e.1 from by omega]
    rw [List.drop_eq_nil_of_le (as := s.take e.2.1) (by omega), List.nil_append, ← take_seg s a e.1 h1]
    simp [List.append_assoc]
theorem foldr_ap (n : Nat) (s : List UInt8) (hs : s.length = n) (l : List E) (h : R n 0 l) : l.foldr st s = ap s 0 l := by
  have := foldr_st n s hs l 0 (Nat.zero_le _) h
  simpa using this
/-- What one step of the reference asks of what is already made. -/
def ok1 (e : E) (x : List UInt8) : Prop := e.1 ≤ x.length ∧ e.2.1 ≤ x.length
def okR (m : Nat) (s : List UInt8) : List E → Prop
  | [] => True
  | e :: l => okR m s l ∧ ok1 e (l.foldr st s) ∧ (l.foldr st s).length + e.2.2.length ≤ m
theorem okR_of (n m : Nat) (s : List UInt8) (hs : s.length = n) : ∀ (l : List E) (a : Nat), a ≤ n → R n a l → n + sz l ≤ m → okR m s l := by
  intro l
  induction l with
  | nil => intro a ha _ _; trivial
  | cons e l ih =>
    intro a ha ⟨h1, h2, h3, h4⟩ hm
    simp only [sz] at hm
    have e1 := foldr_st n s hs l e.2.1 h3 h4
    have e2 := ap_len n s hs l e.2.1 h3 h4
    have hl : (s.take e.2.1).length = e.2.1 := by simp; omega
    refine ⟨ih e.2.1 h3 h4 (by omega), ?_, ?_⟩
    · unfold ok1; rw [e1, List.length_append]; omega
    · rw [e1, List.length_append]; omega
theorem okR_snoc (m : Nat) (s : List UInt8) (p : List E) (e : E) (h : okR m s (p ++ [e])) : okR m (st e s) p ∧ ok1 e s ∧ s.length + e.2.2.length ≤ m := by
  induction p with
  | nil => obtain ⟨h1, h2, h3⟩ := h; exact ⟨trivial, h2, h3⟩
  | cons x p ih =>
    obtain ⟨h1, h2, h3⟩ := h
    obtain ⟨i1, i2, i3⟩ := ih h1
    have e1 : List.foldr st s (p.append [e]) = List.foldr st (st e s) p := List.foldr_append
    rw [e1] at h2 h3
    exact ⟨⟨i1, h2, h3⟩, i2, i3⟩
/-- The edits that undo these; 'by' as what has come and what has gone. -/
def tn (s : List UInt8) : Nat → Nat → List E → List E
  | _, _, [] => []
  | a, b, e :: l => (e.1 - a + b, e.1 - a + b + e.2.2.length, (s.drop e.1).take (e.2.1 - e.1)) :: tn s e.2.1 (e.1 - a + b + e.2.2.length) l
theorem tn_ok (n : Nat) (s : List UInt8) (hs : s.length = n) : ∀ (l : List E) (a b : Nat) (p : List UInt8), a ≤ n → R n a l → p.length = b →
    R (p ++ ap s a l).length b (tn s a b l) ∧ ap (p ++ ap s a l) b (tn s a b l) = s.drop a := by
  intro l
  induction l with
  | nil => intro a b p ha _ hp; subst hp; exact ⟨trivial, by simp [tn, ap]⟩
  | cons e l ih =>
    intro a b p ha ⟨h1, h2, h3, h4⟩ hp
    have hseg := seg_len s a e.1 (by omega)
    have := ih e.2.1 (e.1 - a + b + e.2.2.length) (p ++ ((s.drop a).take (e.1 - a) ++ e.2.2)) h3 h4 (by simp only [List.length_append]; omega)
    have hT : p ++ ((s.drop a).take (e.1 - a) ++ e.2.2) ++ ap s e.2.1 l = p ++ ap s a (e :: l) := by simp [ap, List.append_assoc]
    rw [hT] at this
    obtain ⟨i1, i2⟩ := this
    refine ⟨⟨by omega, by dsimp only; omega, ?_, i1⟩, ?_⟩
    · simp only [ap, List.length_append]; omega
    · simp only [tn]
      rw [ap, i2]
      dsimp only
      have hd : (p ++ ap s a (e :: l)).drop b = ap s a (e :: l) := by subst hp; simp
      rw [hd, show e.1 - a + b - b = e.1 - a from by omega]
      simp only [ap]
      have hT2 : ((s.drop a).take (e.1 - a) ++ e.2.2 ++ ap s e.2.1 l).take (e.1 - a) = (s.drop a).take (e.1 - a) := by
        rw [List.append_assoc, List.take_append_of_le_length (Nat.le_of_eq hseg.symm), List.take_of_length_le (Nat.le_of_eq hseg)]
      rw [hT2, List.append_assoc, seg_drop s e.1 e.2.1 h2, seg_drop s a e.1 h1]
theorem sz_tn (n : Nat) (s : List UInt8) (hs : s.length = n) : ∀ (l : List E) (a b : Nat), a ≤ n → R n a l → sz (tn s a b l) ≤ n - a := by
  intro l
  induction l with
  | nil => intro a b _ _; simp [tn, sz]
  | cons e l ih =>
    intro a b ha ⟨h1, h2, h3, h4⟩
    have := ih e.2.1 (e.1 - a + b + e.2.2.length) h3 h4
    have h5 := seg_len s e.1 e.2.1 (by omega)
    simp only [tn, sz]
    omega
end Go.Proofs.Ytpghnadlekafpaa.Ed
