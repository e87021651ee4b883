/- Pieces of a text that was made by edits, over plain lists: cut, put together, and turned into edits. Plain Lean, no program in sight. -/
import Derived.Test.YtgdkdamikcnjhaaEd
namespace Go.Proofs.Ytgdkdamikcnjhaa.Ed
abbrev PP := Bool × Nat × List UInt8
def tx : List PP → List UInt8
  | [] => []
  | p :: l => p.2.2 ++ tx l
theorem tx_app (l m : List PP) : tx (l ++ m) = tx l ++ tx m := by
  induction l with
  | nil => rfl
  | cons p l ih => simp [tx, ih, List.append_assoc]
/-- The pieces of right edits. -/
def pc (s : List UInt8) : Nat → List E → List PP
  | a, [] => [(true, a, s.drop a)]
  | a, e :: l => (true, a, (s.drop a).take (e.1 - a)) :: (false, e.1, e.2.2) :: pc s e.2.1 l
theorem tx_pc (s : List UInt8) : ∀ (l : List E) (a : Nat), tx (pc s a l) = ap s a l := by
  intro l
  induction l with
  | nil => intro a; simp [pc, tx, ap]
  | cons e l ih => intro a; simp [pc, tx, ap, ih, List.append_assoc]
/-- Kept pieces stand in order, from a place on up to another one; each is what the text has there. -/
def wf (s : List UInt8) : Nat → List PP → Nat → Prop
  | a, [], c => a ≤ c
  | a, p :: q, c => if p.1 = true then a ≤ p.2.1 ∧ p.2.2 = (s.drop p.2.1).take p.2.2.length ∧ p.2.1 + p.2.2.length ≤ s.length ∧ wf s (p.2.1 + p.2.2.length) q c else wf s a q c
theorem wf_K {s : List UInt8} {a f c : Nat} {t : List UInt8} {q : List PP} : wf s a ((true, f, t) :: q) c ↔ a ≤ f ∧ t = (s.drop f).take t.length ∧ f + t.length ≤ s.length ∧ wf s (f + t.length) q c := by
  simp [wf]
theorem wf_N {s : List UInt8} {a f c : Nat} {t : List UInt8} {q : List PP} : wf s a ((false, f, t) :: q) c ↔ wf s a q c := by
  simp [wf]
theorem wf_le {s : List UInt8} : ∀ (l : List PP) {a c : Nat}, wf s a l c → a ≤ c := by
  intro l
  induction l with
  | nil => intro a c h; exact h
  | cons p l ih =>
    obtain ⟨b, f, t⟩ := p
    intro a c h
    cases b with
    | true => obtain ⟨h1, h2, h3, h4⟩ := wf_K.1 h; have := ih h4; omega
    | false => exact ih (wf_N.1 h)
theorem wf_lo {s : List UInt8} : ∀ (l : List PP) {a b c : Nat}, wf s a l c → b ≤ a → wf s b l c := by
  intro l
  induction l with
  | nil => intro a b c h hb; exact Nat.le_trans hb h
  | cons p l ih =>
    obtain ⟨k, f, t⟩ := p
    intro a b c h hb
    cases k with
    | true => obtain ⟨h1, h2, h3, h4⟩ := wf_K.1 h; exact wf_K.2 ⟨by omega, h2, h3, h4⟩
    | false => exact wf_N.2 (ih (wf_N.1 h) hb)
theorem wf_hi {s : List UInt8} : ∀ (l : List PP) {a c d : Nat}, wf s a l c → c ≤ d → wf s a l d := by
  intro l
  induction l with
  | nil => intro a c d h hb; exact Nat.le_trans h hb
  | cons p l ih =>
    obtain ⟨k, f, t⟩ := p
    intro a c d h hb
    cases k with
    | true => obtain ⟨h1, h2, h3, h4⟩ := wf_K.1 h; exact wf_K.2 ⟨h1, h2, h3, ih h4 hb⟩
    | false => exact wf_N.2 (ih (wf_N.1 h) hb)
theorem wf_app {s : List UInt8} : ∀ (l m : List PP) {a b c : Nat}, wf s a l b → wf s b m c → wf s a (l ++ m) c := by
  intro l
  induction l with
  | nil => intro m a b c h h2; exact wf_lo m h2 h
  | cons p l ih =>
    obtain ⟨k, f, t⟩ := p
    intro m a b c h h2
    cases k with
    | true => obtain ⟨h1, h2', h3, h4⟩ := wf_K.1 h; exact wf_K.2 ⟨h1, h2', h3, ih m h4 h2⟩
    | false => exact wf_N.2 (ih m (wf_N.1 h) h2)
theorem wf_pc (s : List UInt8) : ∀ (l : List E) (a : Nat), a ≤ s.length → R s.length a l → wf s a (pc s a l) s.length := by
  intro l
  induction l with
  | nil =>
    intro a ha _
    refine wf_K.2 ⟨Nat.le_refl _, ?_, ?_, ?_⟩
    · rw [List.take_of_length_le (Nat.le_refl _)]
    · simp; omega
    · show a + (s.drop a).length ≤ s.length
      simp; omega
  | cons e l ih =>
    intro a ha ⟨h1, h2, h3, h4⟩
    have hs := seg_len s a e.1 (by omega)
    refine wf_K.2 ⟨Nat.le_refl _, by rw [hs], by omega, wf_N.2 ?_⟩
    exact wf_lo _ (ih e.2.1 h3 h4) (by omega)
/-- The pieces from a place of the made text on, up to another one. -/
def ct (f t : Nat) : List PP → Nat → List PP
  | [], _ => []
  | p :: l, k => (if f - k < min (t - k) p.2.2.length then [(p.1, (if p.1 = true then p.2.1 + (f - k) else p.2.1), (p.2.2.drop (f - k)).take (min (t - k) p.2.2.length - (f - k)))] else []) ++ ct f t l (k + p.2.2.length)
theorem ct_nil (f t : Nat) : ∀ (l : List PP) (k : Nat), t ≤ k → ct f t l k = [] := by
  intro l
  induction l with
  | nil => intro k _; rfl
  | cons p l ih =>
    intro k hk
    simp only [ct]
    rw [if_neg (by omega), ih _ (by omega)]
    rfl
theorem tx_ct (f t : Nat) : ∀ (l : List PP) (k : Nat), tx (ct f t l k) = ((tx l).take (t - k)).drop (f - k) := by
  intro l
  induction l with
  | nil => intro k; simp [ct, tx]
  | cons p l ih =>
    intro k
    obtain ⟨b, g, u⟩ := p
    simp only [ct, tx_app, ih, tx]
    have e1 : t - (k + u.length) = t - k - u.length := by omega
    have e2 : f - (k + u.length) = f - k - u.length := by omega
    rw [e1, e2]
    generalize t - k = h
    generalize f - k = o
    have A1 : (u.drop o).take (min h u.length - o) = (u.take h).drop o := by
      rw [List.drop_take]
      apply List.take_eq_take_iff.2
      simp; omega
    have A2 : ((tx l).take (h - u.length)).drop (o - min h u.length) = ((tx l).take (h - u.length)).drop (o - u.length) := by
      by_cases c2 : u.length ≤ h
      · rw [Nat.min_eq_right c2]
      · rw [show h - u.length = 0 by omega]; simp
    have hl : (u.take h).length = min h u.length := by simp
    rw [List.take_append, List.drop_append, hl, A2]
    by_cases c : o < min h u.length
    · rw [if_pos c]
      simp only [tx, List.append_nil]
      rw [A1]
    · rw [if_neg c]
      have : (u.take h).drop o = [] := List.drop_eq_nil_of_le (by omega)
      rw [this]
      rfl
/-- From where on the first text's bytes come, at a place of the made text. -/
def sp : Nat → List PP → Nat → Nat → Nat
  | a, [], _, _ => a
  | a, p :: q, k, x => if x ≤ k then a else if p.1 = true then (if x < k + p.2.2.length then p.2.1 + (x - k) else sp (p.2.1 + p.2.2.length) q (k + p.2.2.length) x) else sp a q (k + p.2.2.length) x
theorem sp_at (l : List PP) (a k x : Nat) (h : x ≤ k) : sp a l k x = a := by
  cases l with
  | nil => rfl
  | cons p q => simp [sp, h]
theorem sp_N (a f k x : Nat) (t : List UInt8) (q : List PP) : sp a ((false, f, t) :: q) k x = sp a q (k + t.length) x := by
  by_cases h : x ≤ k
  · rw [sp_at _ _ _ _ h, sp_at _ _ _ _ (by omega)]
  · simp [sp, h]
theorem sp_K (a f k x : Nat) (t : List UInt8) (q : List PP) (h : k < x) : sp a ((true, f, t) :: q) k x = if x < k + t.length then f + (x - k) else sp (f + t.length) q (k + t.length) x := by
  simp [sp, show ¬ x ≤ k from by omega]
theorem sp_le {s : List UInt8} : ∀ (l : List PP) {a c : Nat} (k x : Nat), wf s a l c → a ≤ sp a l k x ∧ sp a l k x ≤ c := by
  intro l
  induction l with
  | nil => intro a c k x h; exact ⟨Nat.le_refl _, h⟩
  | cons p q ih =>
    obtain ⟨b, f, t⟩ := p
    intro a c k x h
    cases b with
    | false => rw [sp_N]; exact ih _ _ (wf_N.1 h)
    | true =>
      obtain ⟨h1, h2, h3, h4⟩ := wf_K.1 h
      by_cases hx : x ≤ k
      · rw [sp_at _ _ _ _ hx]; exact ⟨Nat.le_refl _, wf_le _ h⟩
      · rw [sp_K _ _ _ _ _ _ (by omega)]
        have i := ih (k + t.length) x h4
        have j := wf_le _ h4
        split
        · omega
        · omega
theorem sp_mono {s : List UInt8} : ∀ (l : List PP) {a c : Nat} (k x y : Nat), wf s a l c → x ≤ y → sp a l k x ≤ sp a l k y := by
  intro l
  induction l with
  | nil => intro a c k x y h _; exact Nat.le_refl _
  | cons p q ih =>
    obtain ⟨b, f, t⟩ := p
    intro a c k x y h hxy
    cases b with
    | false => rw [sp_N, sp_N]; exact ih _ _ _ (wf_N.1 h) hxy
    | true =>
      obtain ⟨h1, h2, h3, h4⟩ := wf_K.1 h
      by_cases hx : x ≤ k
      · rw [sp_at _ _ _ _ hx]; exact (sp_le _ _ _ h).1
      · rw [sp_K _ _ _ _ _ _ (by omega), sp_K _ _ _ _ _ _ (by omega)]
        have i := ih (k + t.length) x y h4 hxy
        have j := sp_le q (k + t.length) y h4
        split
        · split
          · omega
          · omega
        · rw [if_neg (by omega)]; exact i
theorem wf_ct (s : List UInt8) (f t : Nat) (hft : f ≤ t) : ∀ (l : List PP) {a c : Nat} (k : Nat), wf s a l c → wf s (sp a l k f) (ct f t l k) (sp a l k t) := by
  intro l
  induction l with
  | nil => intro a c k h; exact Nat.le_refl _
  | cons p q ih =>
    obtain ⟨b, g, u⟩ := p
    intro a c k h
    cases b with
    | false =>
      rw [sp_N, sp_N]
      have i := ih (k + u.length) (wf_N.1 h)
      simp only [ct]
      split
      · exact wf_N.2 i
      · exact i
    | true =>
      obtain ⟨h1, h2, h3, h4⟩ := wf_K.1 h
      have i := ih (k + u.length) h4
      by_cases ht : t ≤ k
      · rw [ct_nil _ _ _ _ ht, sp_at _ _ _ _ ht, sp_at _ _ _ _ (by omega)]
        exact Nat.le_refl _
      have htl : ((u.drop (f - k)).take (min (t - k) u.length - (f - k))).length = min (t - k) u.length - (f - k)  := by simp; omega
      have hK : f - k < min (t - k) u.length → ∀ z, z ≤ g + (f - k) → wf s (g + min (t - k) u.length) (ct f t q (k + u.length)) (sp a ((true, g, u) :: q) k t) → wf s z ((true, g + (f - k), (u.drop (f - k)).take (min (t - k) u.length - (f - k))) :: ct f t q (k + u.length)) (sp a ((true, g, u) :: q) k t) := by
        intro hc z hz hw
        refine wf_K.2 ⟨hz, ?_, ?_, ?_⟩
        · rw [htl]
          refine (congrArg (fun z => (z.drop (f - k)).take (min (t - k) u.length - (f - k))) h2).trans ?_
          show (((s.drop g).take u.length).drop (f - k)).take (min (t - k) u.length - (f - k)) = _
          rw [List.drop_take, List.take_take, List.drop_drop]
          congr 1
          omega
        · rw [htl]; omega
        · rw [htl]; rw [show g + (f - k) + (min (t - k) u.length - (f - k)) = g + min (t - k) u.length from by omega]; exact hw
      have hr : g + min (t - k) u.length ≤ g + u.length := by omega
      have hw : f ≤ k + u.length → wf s (g + min (t - k) u.length) (ct f t q (k + u.length)) (sp a ((true, g, u) :: q) k t) := by
        intro hf
        rw [sp_K _ _ _ _ _ _ (by omega)]
        by_cases c2 : t < k + u.length
        · rw [if_pos c2, ct_nil _ _ _ _ (by omega)]
          show _ ≤ _
          omega
        · rw [if_neg c2]
          rw [sp_at _ _ _ _ hf] at i
          rw [show min (t - k) u.length = u.length from by omega]
          exact i
      simp only [ct, if_true]
      by_cases hf : f ≤ k
      · rw [sp_at _ _ _ _ hf]
        by_cases c1 : f - k < min (t - k) u.length
        · rw [if_pos c1]; exact hK c1 a (by omega) (hw (by omega))
        · rw [if_neg c1]
          exact wf_lo _ (hw (by omega)) (by omega)
      · rw [sp_K a g k f u q (by omega)]
        by_cases c1 : f < k + u.length
        · rw [if_pos c1]
          by_cases c3 : f - k < min (t - k) u.length
          · rw [if_pos c3]; exact hK c3 _ (by omega) (hw (by omega))
          · rw [if_neg c3]
            exact wf_lo _ (hw (by omega)) (by omega)
        · rw [if_neg c1, if_neg (by omega), sp_K _ _ _ _ _ _ (by omega), if_neg (by omega)]
          exact i
/-- The pieces of what the second edits make. -/
def cm (l : List PP) (n : Nat) : Nat → List E → List PP
  | a, [] => ct a n l 0
  | a, e :: q => (ct a e.1 l 0 ++ [(false, 0, e.2.2)]) ++ cm l n e.2.1 q
theorem tx_cm (l : List PP) (n : Nat) (hn : (tx l).length = n) : ∀ (q : List E) (a : Nat), R n a q → tx (cm l n a q) = ap (tx l) a q := by
  intro q
  induction q with
  | nil => intro a _; simp only [cm, ap, tx_ct]; rw [Nat.sub_zero, Nat.sub_zero, List.take_of_length_le (by omega)]
  | cons e q ih =>
    intro a ⟨h1, h2, h3, h4⟩
    simp only [cm, ap, tx_app, tx_ct, ih e.2.1 h4, tx, List.append_nil]
    rw [Nat.sub_zero, Nat.sub_zero, List.drop_take]
theorem wf_cm (s : List UInt8) (l : List PP) (n c : Nat) (hw : wf s 0 l c) : ∀ (q : List E) (a : Nat), a ≤ n → R n a q → wf s (sp 0 l 0 a) (cm l n a q) c := by
  intro q
  induction q with
  | nil => intro a ha _; exact wf_hi _ (wf_ct s a n ha l 0 hw) (sp_le l 0 n hw).2
  | cons e q ih =>
    intro a ha ⟨h1, h2, h3, h4⟩
    refine wf_app _ _ (wf_app _ _ (wf_ct s a e.1 h1 l 0 hw) (wf_N.2 (Nat.le_refl _))) (wf_lo _ (ih e.2.1 h3 h4) (sp_mono l 0 e.1 e.2.1 hw h2))
theorem cm_len (l : List PP) (n : Nat) : ∀ (q : List E) (a : Nat), (cm l n a q).length ≤ (l.length + 1) * (q.length + 1) := by
  have hct : ∀ (f t : Nat) (l : List PP) (k : Nat), (ct f t l k).length ≤ l.length := by
    intro f t l
    induction l with
    | nil => intro k; simp [ct]
    | cons p l ih =>
      intro k
      have := ih (k + p.2.2.length)
      simp only [ct, List.length_append, List.length_cons]
      split <;> simp <;> omega
  intro q
  induction q with
  | nil => intro a; have := hct a n l 0; simp only [cm, List.length_nil]; omega
  | cons e q ih =>
    intro a
    have := hct a e.1 l 0
    have i := ih e.2.1
    simp only [cm, List.length_append, List.length_cons, List.length_nil]
    rw [Nat.mul_succ]
    omega
/-- The edits between kept pieces, not yet lean. -/
def gp (n : Nat) : Nat → List UInt8 → List PP → List E
  | a, w, [] => [(a, n, w)]
  | a, w, p :: q => if p.1 = true then (a, p.2.1, w) :: gp n (p.2.1 + p.2.2.length) [] q else gp n a (w ++ p.2.2) q
theorem gp_R (s : List UInt8) : ∀ (l : List PP) (a : Nat) (w : List UInt8), wf s a l s.length → R s.length a (gp s.length a w l) := by
  intro l
  induction l with
  | nil => intro a w h; exact ⟨Nat.le_refl _, h, Nat.le_refl _, trivial⟩
  | cons p q ih =>
    obtain ⟨b, g, u⟩ := p
    intro a w h
    cases b with
    | false => exact ih a _ (wf_N.1 h)
    | true =>
      obtain ⟨h1, h2, h3, h4⟩ := wf_K.1 h
      have i := ih (g + u.length) [] h4
      show R _ _ ((a, g, w) :: gp s.length (g + u.length) [] q)
      refine ⟨Nat.le_refl _, h1, by show g ≤ _; omega, ?_⟩
      show R _ g _
      have key : ∀ (m : List E) (x y : Nat), R s.length x m → y ≤ x → R s.length y m := by
        intro m x y hm hy
        cases m with
        | nil => trivial
        | cons e m => exact ⟨Nat.le_trans hy hm.1, hm.2⟩
      exact key _ _ _ i (by omega)
theorem gp_head (n : Nat) : ∀ (l : List PP) (a : Nat) (w : List UInt8), ∃ b v r, gp n a w l = (a, b, v) :: r := by
  intro l
  induction l with
  | nil => intro a w; exact ⟨n, w, [], rfl⟩
  | cons p q ih =>
    obtain ⟨b, g, u⟩ := p
    intro a w
    cases b with
    | false => exact ih a _
    | true => exact ⟨g, w, _, rfl⟩
theorem gp_ap (s : List UInt8) : ∀ (l : List PP) (a : Nat) (w : List UInt8), wf s a l s.length → ap s a (gp s.length a w l) = w ++ tx l := by
  intro l
  induction l with
  | nil => intro a w h; simp [gp, ap, tx]
  | cons p q ih =>
    obtain ⟨b, g, u⟩ := p
    intro a w h
    cases b with
    | false =>
      show ap s a (gp s.length a (w ++ u) q) = _
      rw [ih a _ (wf_N.1 h)]
      simp [tx, List.append_assoc]
    | true =>
      obtain ⟨h1, h2, h3, h4⟩ := wf_K.1 h
      have i := ih (g + u.length) [] h4
      show ap s a ((a, g, w) :: gp s.length (g + u.length) [] q) = _
      obtain ⟨e1, e2, e3, he⟩ := gp_head s.length q (g + u.length) []
      rw [he] at i ⊢
      simp only [ap, Nat.sub_self, List.take_zero, List.nil_append] at i ⊢
      simp only [tx]
      rw [show g + u.length - g = u.length from by omega, ← h2, List.append_assoc, ← i]
end Go.Proofs.Ytgdkdamikcnjhaa.Ed
