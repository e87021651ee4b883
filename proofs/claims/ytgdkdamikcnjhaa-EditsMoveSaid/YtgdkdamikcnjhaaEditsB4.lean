/- EditsMove's plain law: where a place stands behind right edits; what they cost. -/
import Derived.Test.YtgdkdamikcnjhaaEditsB2
import Derived.Test.YtgdkdamikcnjhaaPEditsx4
import Derived.Test.YtgdkdamikcnjhaaPEditsx5
namespace Go.Proofs.Ytgdkdamikcnjhaa.PEdits
open Go.RowKit Go.Proofs.YtgdkdamikcnjhaaW.PrintWords Go.Proofs.YtgdkdamikcnjhaaW.PrintLast
set_option linter.unusedVariables false
set_option linter.unusedSimpArgs false
/-- By how much edits make a text longer. -/
def dl : List X → Int
  | [] => 0
  | e :: l => ((e.f2.size : Int) - (e.f1 - e.f0)) + dl l
def cs : List X → Int
  | [] => 0
  | e :: l => ((e.f1 - e.f0) + (e.f2.size : Int)) + cs l
theorem cs_app (p q : List X) : cs (p ++ q) = cs p + cs q := by
  induction p with
  | nil => simp [cs]
  | cons e p ih => simp only [List.cons_append, cs, ih]; omega
theorem ap_dl (n : Nat) (s : List UInt8) (hs : s.length = n) : ∀ (l : List X) (a : Int), 0 ≤ a → a ≤ n → rt n a l = true → ((Ed.ap s a.toNat (tL l)).length : Int) = (n : Int) - a + dl l := by
  intro l
  induction l with
  | nil => intro a ha hn _; simp only [tL, List.map_nil, Ed.ap, dl, List.length_drop]; omega
  | cons e l ih =>
    intro a ha hn h
    obtain ⟨h1, h2, h3, h4⟩ := rt_cons h
    have := ih e.f1 (by omega) h3 h4
    have hseg := Ed.seg_len s a.toNat e.f0.toNat (by omega)
    have hb := B_size e.f2
    simp only [tL, List.map_cons, tE, Ed.ap, dl, List.length_append] at this ⊢
    omega
def mv (k : Int) : Int → List X → Int
  | y, [] => k + y
  | y, e :: l => if e.f1 ≤ k then mv k (y + ((e.f2.size : Int) - (e.f1 - e.f0))) l else if e.f0 < k then e.f0 + y else mv k y l
theorem Move_l0 (at' : Int) (n : Int) (hat : 0 ≤ at' ∧ at' ≤ 1000000) (hn : n ≤ 1000000) : ∀ (q p : List X) (k : Nat) (a y : Int), q.length < k → (p ++ q).length ≤ 4398046511103 → 0 ≤ a → rt n a q = true → -1152921504606846976 + cs q ≤ y → y ≤ 1152921504606846976 - cs q → edits_Move.l0 k at' y (p ++ q) ((p ++ q).length : Int) (p.length : Int) = some (mv at' y q) := by
  intro q
  induction q with
  | nil =>
    intro p k a y hk hb ha _ hy1 hy2
    obtain ⟨k, rfl⟩ : ∃ m, k = m + 1 := ⟨k - 1, by simp at hk; omega⟩
    simp only [edits_Move.l0, mv]
    simp only [cs] at hy1 hy2
    rw [if_neg (by simp), w64 _ (by omega) (by omega)]
  | cons e q ih =>
    intro p k a y hk hb ha h hy1 hy2
    obtain ⟨k, rfl⟩ : ∃ m, k = m + 1 := ⟨k - 1, by simp at hk; omega⟩
    have hl := mid_len p e q
    obtain ⟨h1, h2, h3, h4⟩ := rt_cons h
    have hc0 : 0 ≤ cs q := by
      clear ih hy1 hy2 hb hl hk
      have : ∀ (q : List X) (a : Int), 0 ≤ a → rt n a q = true → 0 ≤ cs q := by
        intro q
        induction q with
        | nil => intro _ _ _; simp [cs]
        | cons x q ih => intro a ha h; obtain ⟨i1, i2, i3, i4⟩ := rt_cons h; have := ih x.f1 (by omega) i4; simp only [cs]; omega
      exact this q e.f1 (by omega) h4
    simp only [cs] at hy1 hy2
    simp only [edits_Move.l0, mv]
    rw [if_pos (by omega), if_pos (by omega), if_pos (by omega)]
    rw [show rd_T36 (p ++ e :: q) (p.length : Int) = e from rd_mid p e q]
    have w6 : wrap64 ((p.length : Int) + 1) = ((p ++ [e]).length : Int) := by rw [w64 _ (by omega) (by omega), snoc_len]
    have hl2 : ((p ++ e :: q).length : Int) = (((p ++ [e]) ++ q).length : Int) := by rw [← mid_assoc]
    have w3 : wrap64 (e.f1 - e.f0) = e.f1 - e.f0 := by rw [w64 _ (by omega) (by omega)]
    have hsz : (e.f2.size : Int) ≤ 1152921504606846976 := by omega
    have w4 : wrap64 ((e.f2.size : Int) - (e.f1 - e.f0)) = (e.f2.size : Int) - (e.f1 - e.f0) := by rw [w64 _ (by omega) (by omega)]
    by_cases c1 : e.f1 ≤ at'
    · rw [if_pos c1, if_pos c1, w3, w4, w6, w64 _ (by omega) (by omega), hl2, mid_assoc p e q]
      exact ih (p ++ [e]) k e.f1 _ (by simp at hk; omega) (by rw [← mid_assoc]; exact hb) (by omega) h4 (by omega) (by omega)
    · rw [if_neg c1, if_neg c1]
      by_cases c2 : e.f0 < at'
      · rw [if_pos c2, if_pos c2, w64 _ (by omega) (by omega)]
      · rw [if_neg c2, if_neg c2, w6, hl2, mid_assoc p e q]
        exact ih (p ++ [e]) k e.f1 _ (by simp at hk; omega) (by rw [← mid_assoc]; exact hb) (by omega) h4 (by omega) (by omega)
theorem cs_nonneg (n : Int) : ∀ (q : List X) (a : Int), 0 ≤ a → rt n a q = true → 0 ≤ cs q := by
  intro q
  induction q with
  | nil => intro _ _ _; simp [cs]
  | cons x q ih => intro a ha h; obtain ⟨i1, i2, i3, i4⟩ := rt_cons h; have := ih x.f1 (by omega) i4; simp only [cs]; omega
theorem Cost_l0 (n : Int) (hn : n ≤ 1000000) : ∀ (q p : List X) (k : Nat) (a y : Int), q.length < k → (p ++ q).length ≤ 4398046511103 → 0 ≤ a → rt n a q = true → 0 ≤ y → y + cs q ≤ 1152921504606846976 → edits_Cost.l0 k y (p ++ q) ((p ++ q).length : Int) (p.length : Int) = some (y + cs q) := by
  intro q
  induction q with
  | nil =>
    intro p k a y hk hb ha _ hy1 hy2
    obtain ⟨k, rfl⟩ : ∃ m, k = m + 1 := ⟨k - 1, by simp at hk; omega⟩
    simp only [edits_Cost.l0, cs]
    rw [if_neg (by simp), Int.add_zero]
  | cons e q ih =>
    intro p k a y hk hb ha h hy1 hy2
    obtain ⟨k, rfl⟩ : ∃ m, k = m + 1 := ⟨k - 1, by simp at hk; omega⟩
    have hl := mid_len p e q
    obtain ⟨h1, h2, h3, h4⟩ := rt_cons h
    have hc0 := cs_nonneg n q e.f1 (by omega) h4
    simp only [cs] at hy2
    simp only [edits_Cost.l0, cs]
    rw [if_pos (by omega), if_pos (by omega), if_pos (by omega)]
    rw [show rd_T36 (p ++ e :: q) (p.length : Int) = e from rd_mid p e q]
    have w6 : wrap64 ((p.length : Int) + 1) = ((p ++ [e]).length : Int) := by rw [w64 _ (by omega) (by omega), snoc_len]
    have hl2 : ((p ++ e :: q).length : Int) = (((p ++ [e]) ++ q).length : Int) := by rw [← mid_assoc]
    have w3 : wrap64 (e.f1 - e.f0) = e.f1 - e.f0 := by rw [w64 _ (by omega) (by omega)]
    have w4 : wrap64 ((e.f1 - e.f0) + (e.f2.size : Int)) = (e.f1 - e.f0) + (e.f2.size : Int) := by rw [w64 _ (by omega) (by omega)]
    rw [w3, w4, w6, w64 (y + _) (by omega) (by omega), hl2, mid_assoc p e q]
    rw [ih (p ++ [e]) k e.f1 _ (by simp at hk; omega) (by rw [← mid_assoc]; exact hb) (by omega) h4 (by omega) (by omega)]
    congr 1; omega
/-- Does an edit reach over a place? -/
def over (k : Int) (e : X) : Bool := decide (e.f0 < k) && decide (e.f1 > k)
def hd (k : Int) (l : List X) : List X := l.filter fun e => decide (e.f1 ≤ k)
/-- At most one edit reaches over a place; those behind it end behind the place. -/
theorem split_over (n k : Int) : ∀ (l : List X) (a : Int), 0 ≤ a → rt n a l = true → (∀ e ∈ l, over k e = false) ∨ ∃ q1 e q2, l = q1 ++ e :: q2 ∧ over k e = true ∧ (∀ x ∈ q1, over k x = false) ∧ (∀ x ∈ q2, over k x = false) ∧ hd k (e :: q2) = [] := by
  have late : ∀ (l : List X) (a : Int), rt n a l = true → k < a → (∀ e ∈ l, over k e = false) ∧ hd k l = [] := by
    intro l
    induction l with
    | nil => intro a _ _; exact ⟨by simp, rfl⟩
    | cons e l ih =>
      intro a h hka
      obtain ⟨h1, h2, h3, h4⟩ := rt_cons h
      obtain ⟨i1, i2⟩ := ih e.f1 h4 (by omega)
      refine ⟨fun x hx => ?_, ?_⟩
      · rcases List.mem_cons.1 hx with rfl | hx
        · unfold over; rw [decide_eq_false (by omega)]; rfl
        · exact i1 x hx
      · unfold hd at i2 ⊢
        rw [List.filter_cons_of_neg (by simp; omega)]
        exact i2
  intro l
  induction l with
  | nil => intro a _ _; exact Or.inl (by simp)
  | cons e l ih =>
    intro a ha h
    obtain ⟨h1, h2, h3, h4⟩ := rt_cons h
    cases ho : over k e with
    | true =>
      refine Or.inr ⟨[], e, l, rfl, ho, by simp, ?_, ?_⟩
      · unfold over at ho
        simp at ho
        exact (late l e.f1 h4 (by omega)).1
      · unfold over at ho
        simp at ho
        have := (late l e.f1 h4 (by omega)).2
        unfold hd at this ⊢
        rw [List.filter_cons_of_neg (by simp; omega)]
        exact this
    | false =>
      rcases ih e.f1 (by omega) h4 with h5 | ⟨q1, x, q2, rfl, i1, i2, i3, i4⟩
      · exact Or.inl (fun x hx => (List.mem_cons.1 hx).elim (fun e1 => e1 ▸ ho) (fun e1 => h5 x e1))
      · exact Or.inr ⟨e :: q1, x, q2, rfl, i1, fun y hy => (List.mem_cons.1 hy).elim (fun e1 => e1 ▸ ho) (fun e1 => i2 y e1), i3, i4⟩
theorem rt_app {n : Int} : ∀ {p q : List X} {a : Int}, rt n a (p ++ q) = true → rt n a p = true := by
  intro p
  induction p with
  | nil => intro q a _; rfl
  | cons e p ih =>
    intro q a h
    obtain ⟨h1, h2, h3, h4⟩ := rt_cons h
    simp only [rt]
    rw [if_neg (by omega), if_neg (by omega), if_neg (by omega)]
    exact ih h4
/-- Those that end at a place or ahead of it are right of so many bytes. -/
theorem rt_hd (n k : Int) : ∀ (l : List X) (a b : Int), rt n a l = true → b ≤ a → rt k b (hd k l) = true := by
  intro l
  induction l with
  | nil => intro a b _ _; rfl
  | cons e l ih =>
    intro a b h hb
    obtain ⟨h1, h2, h3, h4⟩ := rt_cons h
    unfold hd
    by_cases c : e.f1 ≤ k
    · rw [List.filter_cons_of_pos (by simpa using c)]
      simp only [rt]
      rw [if_neg (by omega), if_neg (by omega), if_neg (by omega)]
      exact ih e.f1 e.f1 h4 (Int.le_refl _)
    · rw [List.filter_cons_of_neg (by simpa using c)]
      exact ih e.f1 b h4 (by omega)
theorem mv_none (n k : Int) : ∀ (l : List X) (a y : Int), rt n a l = true → (∀ e ∈ l, over k e = false) → mv k y l = k + y + dl (hd k l) := by
  intro l
  induction l with
  | nil => intro a y _ _; simp [mv, hd, dl]
  | cons e l ih =>
    intro a y h ho
    obtain ⟨h1, h2, h3, h4⟩ := rt_cons h
    have ho' := ho e List.mem_cons_self
    have i := fun y => ih e.f1 y h4 (fun x hx => ho x (List.mem_cons_of_mem _ hx))
    unfold over at ho'
    simp at ho'
    unfold hd at i ⊢
    simp only [mv]
    by_cases c : e.f1 ≤ k
    · rw [if_pos c, i, List.filter_cons_of_pos (by simpa using c)]
      simp only [dl]; omega
    · rw [if_neg c, if_neg (by intro h5; have := ho' h5; omega), i, List.filter_cons_of_neg (by simpa using c)]
theorem mv_some (n k : Int) (e : X) (q2 : List X) (ho : over k e = true) (h0 : hd k (e :: q2) = []) : ∀ (l : List X) (a y : Int), rt n a (l ++ e :: q2) = true → (∀ x ∈ l, over k x = false) → mv k y (l ++ e :: q2) = e.f0 + y + dl (hd k (l ++ e :: q2)) := by
  have hh : ∀ l, hd k (l ++ e :: q2) = hd k l := by
    intro l
    unfold hd at h0 ⊢
    rw [List.filter_append, h0, List.append_nil]
  intro l
  induction l with
  | nil =>
    intro a y h _
    unfold over at ho
    simp at ho
    simp only [List.nil_append, mv]
    rw [if_neg (by omega), if_pos ho.1, h0]
    simp [dl]
  | cons x l ih =>
    intro a y h hov
    obtain ⟨h1, h2, h3, h4⟩ := rt_cons h
    have ho' := hov x List.mem_cons_self
    have i := fun y => ih x.f1 y h4 (fun z hz => hov z (List.mem_cons_of_mem _ hz))
    unfold over at ho'
    simp at ho'
    rw [hh] at i ⊢
    unfold hd at i ⊢
    simp only [List.cons_append, mv]
    by_cases c : x.f1 ≤ k
    · rw [if_pos c, i, List.filter_cons_of_pos (by simpa using c)]
      simp only [dl]; omega
    · rw [if_neg c, if_neg (by intro h5; have := ho' h5; omega), i, List.filter_cons_of_neg (by simpa using c)]
theorem hd_mem {k : Int} {l : List X} {e : X} (h : e ∈ hd k l) : e ∈ l := (List.mem_filter.1 h).1
end Go.Proofs.Ytgdkdamikcnjhaa.PEdits
