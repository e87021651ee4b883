/- Layer 25, plain: new lines, counted; what is laid without blanks and new lines. -/
import Derived.Test.YtjgaikmejccdkaaDoorLay5
import Derived.Test.YtjgaikmejccdkaaDoorDocM
namespace Go.Proofs.YtjgaikmejccdkaaDoor.PDoc
open Go.RowKit Go.Proofs.YtjgaikmejccdkaaDoorW.PrintWords Go.Proofs.YtjgaikmejccdkaaDoorW.PrintLast Go.Proofs.YtjgaikmejccdkaaDoorW.PrintMore
set_option linter.unusedVariables false
set_option linter.unusedSimpArgs false
mutual
/-- What holds of the boxes that are made. -/
def Wq : Option SD → Prop
  | none => True
  | some x => WqS x
def WqS : SD → Prop
  | ⟨w, h, s, k, t, b, l⟩ => w ≤ (tbS ⟨w, h, s, k, t, b, l⟩ : Int) ∧ (10 : UInt8) ∉ t.data.toList ∧ (k = 0 → l = []) ∧ (k ≠ 0 → t = ⟨#[]⟩) ∧ (k = 1 ∨ k = 2 ∨ k = 3 → l = []) ∧ h = (decide (k = 3) || hds l) ∧ WqL l
def WqL : List (Option SD) → Prop
  | [] => True
  | d :: r => Wq d ∧ WqL r
end
/-- How many new lines there are. -/
def nl (x : List UInt8) : Nat := x.count 10
mutual
/-- How many new lines there are at least. -/
def nM : Option SD → Bool → Nat
  | none, _ => 0
  | some x, f => nMS x f
def nMS : SD → Bool → Nat
  | ⟨w, h, s, k, t, b, l⟩, f => if k = 0 then 0 else if k = 1 then (if f = true then 0 else 1) else if k = 2 then (if f = true then 0 else 1) else if k = 3 then 1 else if k = 6 then nML l (f || !h) else nML l f
def nML : List (Option SD) → Bool → Nat
  | [], _ => 0
  | d :: r, f => nM d f + nML r f
end
/-- Induction over boxes. -/
theorem boxes {P : D → Prop} (h0 : P none) (h1 : ∀ x : SD, (∀ d ∈ x.l, P d) → P (some x)) : ∀ d, P d := by
  have key : ∀ (n : Nat) (d : D), SizeOf.sizeOf d ≤ n → P d := by
    intro n
    induction n with
    | zero =>
      intro d hd
      cases d with
      | none => simp at hd
      | some x => simp at hd
    | succ n ih =>
      intro d hd
      cases d with
      | none => exact h0
      | some x =>
        refine h1 x (fun y hy => ih y ?_)
        obtain ⟨i, hi, e⟩ := List.getElem_of_mem hy
        have := size_part x i hi
        rw [e] at this
        omega
  exact fun d => key _ d (Nat.le_refl _)
theorem nl_app (a b : List UInt8) : nl (a ++ b) = nl a + nl b := by simp [nl]
theorem nl_sp (n : Nat) : nl (List.replicate n 32) = 0 := by
  unfold nl
  rw [List.count_eq_zero]
  intro h
  exact absurd (List.eq_of_mem_replicate h) (by decide)
theorem nl_lT (s : ByteArray) (q : LS) : nl (lT s q).x = nl q.x + nl s.data.toList := by
  unfold lT
  split
  · rename_i h; rw [h]; rfl
  · show nl (q.x ++ (_ ++ _)) = _
    rw [nl_app, nl_app, nl_sp]
    omega
theorem nl_lN (i : Nat) (q : LS) : nl (lN i q).x = nl q.x + 1 := by show nl (q.x ++ [10]) = _; rw [nl_app]; rfl
theorem nM_some (x : SD) (f : Bool) : nM (some x) f = if x.k = 0 then 0 else if x.k = 1 then (if f = true then 0 else 1) else if x.k = 2 then (if f = true then 0 else 1) else if x.k = 3 then 1 else if x.k = 6 then nML x.l (f || !x.h) else nML x.l f := by
  obtain ⟨w, h, s, k, t, b, l⟩ := x
  simp only [nM, nMS]
theorem L1_some (W : Int) (x : SD) (i : Nat) (f : Bool) (q : LS) : L1 W (some x) i f q = if x.k = 0 then lT x.t q else if x.k = 1 then (if f = true then lT sp1 q else lN i q) else if x.k = 2 then (if f = true then q else lN i q) else if x.k = 3 then lN i q else if x.k = 6 then L1L W x.l i (f || fit W (some x) q) q else L1L W x.l (i + x.b.toNat) f q := by
  obtain ⟨w, h, s, k, t, b, l⟩ := x
  simp only [L1, L1S]
theorem nML_of {l : List D} (h : ∀ d ∈ l, nM d true ≤ nM d false) : nML l true ≤ nML l false := by
  induction l with
  | nil => exact Nat.le_refl _
  | cons d r ih2 =>
    have h1 := h d List.mem_cons_self
    have h2 := ih2 (fun y hy => h y (List.mem_cons_of_mem _ hy))
    simp only [nML]
    omega
theorem nM_mono : ∀ d : D, nM d true ≤ nM d false := by
  apply boxes
  · exact Nat.le_refl _
  · intro x ih
    have h3 := nML_of ih
    rw [nM_some, nM_some]
    by_cases k0 : x.k = 0
    · simp [k0]
    by_cases k1 : x.k = 1
    · simp [k1]
    by_cases k2 : x.k = 2
    · simp [k2]
    by_cases k3 : x.k = 3
    · simp [k3]
    by_cases k6 : x.k = 6
    · simp only [k6]
      cases x.h <;> simp [h3]
    · simp only [k0, k1, k2, k3, k6, if_false]
      exact h3
theorem nML_mono (l : List D) (f g : Bool) (h : f = true → g = true) : nML l g ≤ nML l f := by
  have key := nML_of (l := l) (fun d _ => nM_mono d)
  cases f <;> cases g <;> simp_all
/-- No width makes fewer new lines. -/
theorem low (W : Int) : ∀ (d : D) (i : Nat) (f : Bool) (q : LS), nl q.x + nM d f ≤ nl (L1 W d i f q).x := by
  apply boxes
  · intro i f q; exact Nat.le_refl _
  · intro x ih i f q
    have hl : ∀ (l : List D), (∀ d ∈ l, ∀ (i : Nat) (f : Bool) (q : LS), nl q.x + nM d f ≤ nl (L1 W d i f q).x) → ∀ (i : Nat) (f : Bool) (q : LS), nl q.x + nML l f ≤ nl (L1L W l i f q).x := by
      intro l
      induction l with
      | nil => intro _ i f q; exact Nat.le_refl _
      | cons d r ih2 =>
        intro h i f q
        have h1 := h d List.mem_cons_self i f q
        have h2 := ih2 (fun y hy => h y (List.mem_cons_of_mem _ hy)) i f (L1 W d i f q)
        simp only [nML, L1L]
        omega
    have h3 := hl x.l ih
    rw [nM_some, L1_some]
    by_cases k0 : x.k = 0
    · simp only [k0, if_true]; rw [nl_lT]; omega
    by_cases k1 : x.k = 1
    · simp only [k1, if_true, show ((1 : Int) = 0) = False from by simp, if_false]
      cases f
      · simp only [Bool.false_eq_true, if_false]; rw [nl_lN]; omega
      · simp only [if_true]; rw [nl_lT]; omega
    by_cases k2 : x.k = 2
    · simp only [k2, if_true, show ((2 : Int) = 0) = False from by simp, show ((2 : Int) = 1) = False from by simp, if_false]
      cases f
      · simp only [Bool.false_eq_true, if_false]; rw [nl_lN]; omega
      · simp only [if_true]; omega
    by_cases k3 : x.k = 3
    · simp only [k3, if_true, show ((3 : Int) = 0) = False from by simp, show ((3 : Int) = 1) = False from by simp, show ((3 : Int) = 2) = False from by simp, if_false]
      rw [nl_lN]; omega
    by_cases k6 : x.k = 6
    · simp only [k0, k1, k2, k3, if_false, if_pos k6]
      have h4 := h3 i (f || fit W (some x) q) q
      have h5 := nML_mono x.l (f || fit W (some x) q) (f || !x.h) (by
        cases f
        · simp only [Bool.false_or]
          unfold fit
          intro h
          rw [Bool.and_eq_true] at h
          exact h.1
        · intro _; rfl)
      omega
    · simp only [k0, k1, k2, k3, k6, if_false]
      exact h3 _ _ _
theorem lowL (W : Int) (l : List D) (i : Nat) (f : Bool) (q : LS) : nl q.x + nML l f ≤ nl (L1L W l i f q).x := by
  induction l generalizing q with
  | nil => exact Nat.le_refl _
  | cons d r ih =>
    have h1 := low W d i f q
    have h2 := ih (L1 W d i f q)
    simp only [nML, L1L]
    omega
/-- What is tight, is so in each of its parts. -/
theorem tightL {W : Int} {d : D} {r : List D} {i : Nat} {f : Bool} {q : LS} (h : nl (L1L W (d :: r) i f q).x = nl q.x + nML (d :: r) f) : nl (L1 W d i f q).x = nl q.x + nM d f ∧ nl (L1L W r i f (L1 W d i f q)).x = nl (L1 W d i f q).x + nML r f := by
  have h1 := low W d i f q
  have h2 := lowL W r i f (L1 W d i f q)
  simp only [nML, L1L] at h
  omega
/-- Where nothing breaks, it is laid as on one line. -/
theorem flat_same (W : Int) : ∀ (d : D) (i : Nat) (q : LS), nM d false = nM d true → nl (L1 W d i false q).x = nl q.x + nM d false → L1 W d i true q = L1 W d i false q := by
  apply boxes
  · intro i q _ _; rfl
  · intro x ih i q he ht
    have hl : ∀ (l : List D), (∀ d ∈ l, ∀ (i : Nat) (q : LS), nM d false = nM d true → nl (L1 W d i false q).x = nl q.x + nM d false → L1 W d i true q = L1 W d i false q) → ∀ (i : Nat) (q : LS), nML l false = nML l true → nl (L1L W l i false q).x = nl q.x + nML l false → L1L W l i true q = L1L W l i false q := by
      intro l
      induction l with
      | nil => intro _ i q _ _; rfl
      | cons d r ih2 =>
        intro h i q he ht
        have h1 := nM_mono d
        have h2 := nML_mono r false true (by simp)
        simp only [nML] at he
        obtain ⟨t1, t2⟩ := tightL ht
        have e1 := h d List.mem_cons_self i q (by omega) t1
        have e2 := ih2 (fun y hy => h y (List.mem_cons_of_mem _ hy)) i (L1 W d i false q) (by omega) t2
        simp only [L1L]
        rw [e1, e2]
    have h3 := hl x.l ih
    rw [L1_some] at ht ⊢
    rw [L1_some]
    rw [nM_some] at he ht
    rw [nM_some] at he
    by_cases k0 : x.k = 0
    · simp only [k0, if_true]
    by_cases k1 : x.k = 1
    · simp [k1] at he
    by_cases k2 : x.k = 2
    · simp [k2] at he
    by_cases k3 : x.k = 3
    · simp [k3]
    by_cases k6 : x.k = 6
    · simp only [k0, k1, k2, k3, if_false, if_pos k6, Bool.false_or, Bool.true_or] at he ht ⊢
      cases hf : fit W (some x) q with
      | true => rfl
      | false =>
        rw [hf] at ht
        have h4 := lowL W x.l i false q
        have h5 := nML_mono x.l false true (by simp)
        exact h3 i q (by omega) (by omega)
    · simp only [k0, k1, k2, k3, k6, if_false] at he ht ⊢
      exact h3 _ _ he ht
theorem flat_sameL {W : Int} {l : List D} {i : Nat} {q : LS} (he : nML l false = nML l true) (ht : nl (L1L W l i false q).x = nl q.x + nML l false) : L1L W l i true q = L1L W l i false q := by
  induction l generalizing q with
  | nil => rfl
  | cons d r ih2 =>
    have h1 := nM_mono d
    have h2 := nML_mono r false true (by simp)
    simp only [nML] at he
    obtain ⟨t1, t2⟩ := tightL ht
    have e1 := flat_same W d i q (by omega) t1
    have e2 := ih2 (by omega) t2
    simp only [L1L]
    rw [e1, e2]
/-- What has as few new lines as may be, is laid so to each greater width. -/
theorem wider {W W' : Int} (hW : W ≤ W') : ∀ (d : D) (i : Nat) (f : Bool) (q : LS), nl (L1 W d i f q).x = nl q.x + nM d f → L1 W' d i f q = L1 W d i f q := by
  apply boxes
  · intro i f q _; rfl
  · intro x ih i f q ht
    have hl : ∀ (l : List D), (∀ d ∈ l, ∀ (i : Nat) (f : Bool) (q : LS), nl (L1 W d i f q).x = nl q.x + nM d f → L1 W' d i f q = L1 W d i f q) → ∀ (i : Nat) (f : Bool) (q : LS), nl (L1L W l i f q).x = nl q.x + nML l f → L1L W' l i f q = L1L W l i f q := by
      intro l
      induction l with
      | nil => intro _ i f q _; rfl
      | cons d r ih2 =>
        intro h i f q ht
        obtain ⟨t1, t2⟩ := tightL ht
        have e1 := h d List.mem_cons_self i f q t1
        have e2 := ih2 (fun y hy => h y (List.mem_cons_of_mem _ hy)) i f (L1 W d i f q) t2
        simp only [L1L]
        rw [e1, e2]
    have h3 := hl x.l ih
    rw [L1_some] at ht ⊢
    rw [L1_some]
    rw [nM_some] at ht
    by_cases k0 : x.k = 0
    · simp only [k0, if_true]
    by_cases k1 : x.k = 1
    · simp [k1]
    by_cases k2 : x.k = 2
    · simp [k2]
    by_cases k3 : x.k = 3
    · simp [k3]
    by_cases k6 : x.k = 6
    · simp only [k0, k1, k2, k3, if_false, if_pos k6] at ht ⊢
      have hfm : fit W (some x) q = true → fit W' (some x) q = true := by
        unfold fit
        intro h
        rw [Bool.and_eq_true] at h ⊢
        have := of_decide_eq_true h.2
        exact ⟨h.1, decide_eq_true (by omega)⟩
      have hfh : fit W' (some x) q = true → (!x.h) = true := by
        unfold fit
        intro h
        rw [Bool.and_eq_true] at h
        exact h.1
      have h4 := lowL W x.l i (f || fit W (some x) q) q
      have h5 := nML_mono x.l (f || fit W (some x) q) (f || !x.h) (by
        cases f
        · simp only [Bool.false_or]
          exact fun h => hfh (hfm h)
        · intro _; rfl)
      have h6 := h3 i (f || fit W (some x) q) q (by omega)
      cases f with
      | true => simpa using h6
      | false =>
        simp only [Bool.false_or] at ht h4 h5 h6 ⊢
        cases hg : fit W (some x) q with
        | true => rw [hfm hg]; rw [hg] at h6; exact h6
        | false =>
          rw [hg] at h4 h5 h6 ht
          cases hg2 : fit W' (some x) q with
          | false => exact h6
          | true =>
            rw [hfh hg2] at h5 ht
            rw [← h6]
            exact flat_sameL (by have := nML_mono x.l false true (by simp); omega) (by rw [h6]; omega)
    · simp only [k0, k1, k2, k3, k6, if_false] at ht ⊢
      exact h3 _ _ _ ht
theorem Wq_some {x : SD} : Wq (some x) ↔ x.w ≤ (tb (some x) : Int) ∧ (10 : UInt8) ∉ x.t.data.toList ∧ (x.k = 0 → x.l = []) ∧ (x.k ≠ 0 → x.t = ⟨#[]⟩) ∧ (x.k = 1 ∨ x.k = 2 ∨ x.k = 3 → x.l = []) ∧ x.h = (decide (x.k = 3) || hds x.l) ∧ WqL x.l := by
  obtain ⟨w, h, s, k, t, b, l⟩ := x
  simp only [Wq, WqS, tb]
theorem WqL_all {l : List D} : WqL l ↔ ∀ d ∈ l, Wq d := by
  induction l with
  | nil => simp [WqL]
  | cons x r ih => simp [WqL, ih]
/-- The greatest width makes as few new lines as may be. -/
theorem great (I : Nat) : ∀ (d : D) (i : Nat) (f : Bool) (q : LS), Wq d → i + ib d ≤ I → 0 ≤ q.c → q.c + (tb d : Int) ≤ 65535 → I + tb d ≤ 65535 → nl (L1 65535 d i f q).x = nl q.x + nM d f ∧ 0 ≤ (L1 65535 d i f q).c ∧ ((L1 65535 d i f q).c ≤ q.c + (tb d : Int) ∨ (L1 65535 d i f q).c ≤ (I : Int) + (tb d : Int)) := by
  apply boxes
  · intro i f q _ _ h0 _ _; exact ⟨rfl, h0, Or.inl (by show q.c ≤ q.c + ((0 : Nat) : Int); omega)⟩
  · intro x ih i f q hq hi h0 h1 h2
    have hl : ∀ (l : List D), (∀ d ∈ l, ∀ (i : Nat) (f : Bool) (q : LS), Wq d → i + ib d ≤ I → 0 ≤ q.c → q.c + (tb d : Int) ≤ 65535 → I + tb d ≤ 65535 → nl (L1 65535 d i f q).x = nl q.x + nM d f ∧ 0 ≤ (L1 65535 d i f q).c ∧ ((L1 65535 d i f q).c ≤ q.c + (tb d : Int) ∨ (L1 65535 d i f q).c ≤ (I : Int) + (tb d : Int))) → ∀ (i : Nat) (f : Bool) (q : LS), WqL l → i + ibL l ≤ I → 0 ≤ q.c → q.c + (tbL l : Int) ≤ 65535 → I + tbL l ≤ 65535 → nl (L1L 65535 l i f q).x = nl q.x + nML l f ∧ 0 ≤ (L1L 65535 l i f q).c ∧ ((L1L 65535 l i f q).c ≤ q.c + (tbL l : Int) ∨ (L1L 65535 l i f q).c ≤ (I : Int) + (tbL l : Int)) := by
      intro l
      induction l with
      | nil => intro _ i f q _ _ h0 _ _; exact ⟨rfl, h0, Or.inl (by show q.c ≤ q.c + ((0 : Nat) : Int); omega)⟩
      | cons d r ih2 =>
        intro h i f q hq hi h0 h1 h2
        simp only [WqL] at hq
        simp only [ibL] at hi
        simp only [tbL] at h1 h2
        have a1 := h d List.mem_cons_self i f q hq.1 (by omega) h0 (by omega) (by omega)
        have a2 := ih2 (fun y hy => h y (List.mem_cons_of_mem _ hy)) i f (L1 65535 d i f q) hq.2 (by omega) a1.2.1 (by omega) (by omega)
        simp only [L1L, nML, tbL]
        omega
    have h3 := hl x.l ih
    obtain ⟨q1, q2, q3, q4, q5, q6, q7⟩ := Wq_some.1 hq
    have hn2 : nl x.t.data.toList = 0 := List.count_eq_zero.2 q2
    rw [ib_some] at hi
    rw [tb_some] at h1 h2 q1 ⊢
    rw [L1_some, nM_some]
    by_cases k0 : x.k = 0
    · simp only [k0, if_true]
      refine ⟨by rw [nl_lT, hn2], ?_⟩
      have hc := (col_eq x.t (by omega)).1
      unfold lT
      split
      · exact ⟨h0, Or.inl (by omega)⟩
      · exact ⟨by show 0 ≤ q.c + (col x.t : Int); omega, Or.inl (by show q.c + (col x.t : Int) ≤ _; omega)⟩
    by_cases k1 : x.k = 1
    · simp only [k1, if_true, show ((1 : Int) = 0) = False from by simp, if_false]
      cases f
      · simp only [Bool.false_eq_true, if_false]
        exact ⟨nl_lN _ _, by show (0 : Int) ≤ (i : Int); omega, Or.inr (by show (i : Int) ≤ _; omega)⟩
      · simp only [if_true]
        refine ⟨by rw [nl_lT]; rfl, ?_⟩
        have hc := (col_eq sp1 (by decide)).1
        have hz : sp1.size = 1 := by decide
        exact ⟨by show 0 ≤ q.c + (col sp1 : Int); omega, Or.inl (by show q.c + (col sp1 : Int) ≤ _; omega)⟩
    by_cases k2 : x.k = 2
    · simp only [k2, if_true, show ((2 : Int) = 0) = False from by simp, show ((2 : Int) = 1) = False from by simp, if_false]
      cases f
      · simp only [Bool.false_eq_true, if_false]
        exact ⟨nl_lN _ _, by show (0 : Int) ≤ (i : Int); omega, Or.inr (by show (i : Int) ≤ _; omega)⟩
      · simp only [if_true]
        exact ⟨rfl, h0, Or.inl (by omega)⟩
    by_cases k3 : x.k = 3
    · simp only [k3, if_true, show ((3 : Int) = 0) = False from by simp, show ((3 : Int) = 1) = False from by simp, show ((3 : Int) = 2) = False from by simp, if_false]
      exact ⟨nl_lN _ _, by show (0 : Int) ≤ (i : Int); omega, Or.inr (by show (i : Int) ≤ _; omega)⟩
    by_cases k6 : x.k = 6
    · simp only [k0, k1, k2, k3, if_false, if_pos k6]
      have hf : fit 65535 (some x) q = !x.h := by
        unfold fit
        show (!x.h && decide (x.w ≤ 65535 - q.c)) = _
        rw [decide_eq_true (by omega), Bool.and_true]
      rw [hf]
      have := h3 i (f || !x.h) q q7 (by omega) h0 (by omega) (by omega)
      omega
    · simp only [k0, k1, k2, k3, k6, if_false]
      have := h3 (i + x.b.toNat) f q q7 (by omega) h0 (by omega) (by omega)
      omega
/-- Laid as at the greatest width: laid so at each width between. -/
theorem prt_wider {d : D} (hq : Wq d) (hb : ib d + tb d ≤ 65535) {n W : Int} (h1 : prt n d = prt 65535 d) (h2 : n ≤ W) : prt W d = prt 65535 d := by
  have hg := (great (ib d) d 0 false LS0 hq (by omega) (Int.le_refl 0) (by show (0 : Int) + _ ≤ _; omega) (by omega)).1
  have e : (L1 n d 0 false LS0).x = (L1 65535 d 0 false LS0).x := by
    unfold prt at h1
    have := congrArg (fun z : ByteArray => z.data.toList) h1
    simpa using this
  have ht : nl (L1 n d 0 false LS0).x = nl LS0.x + nM d false := by rw [e]; exact hg
  have := wider h2 d 0 false LS0 ht
  rw [← h1]
  unfold prt
  rw [this]
end Go.Proofs.YtjgaikmejccdkaaDoor.PDoc
