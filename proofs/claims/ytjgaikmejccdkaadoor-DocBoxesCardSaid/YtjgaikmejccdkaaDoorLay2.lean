/- Layer 25, plain: boxes, laid by a plain recursion; what is left, as a stack. -/
import Derived.Test.YtjgaikmejccdkaaDoorLay1
namespace Go.Proofs.YtjgaikmejccdkaaDoor.PDoc
open Go.RowKit Go.Proofs.YtjgaikmejccdkaaDoorW.PrintWords Go.Proofs.YtjgaikmejccdkaaDoorW.PrintLast Go.Proofs.YtjgaikmejccdkaaDoorW.PrintMore
set_option linter.unusedVariables false
set_option linter.unusedSimpArgs false
/-- What has been laid: the bytes, the column, the blanks that wait. -/
structure LS where
  x : List UInt8
  c : Int
  p : Nat
def lT (s : ByteArray) (q : LS) : LS := if s.data.toList = [] then q else ⟨q.x ++ (List.replicate q.p 32 ++ s.data.toList), q.c + (col s : Int), 0⟩
def lN (i : Nat) (q : LS) : LS := ⟨q.x ++ [10], (i : Int), i⟩
def sp1 : ByteArray := ⟨#[32]⟩
/-- Does a box fit? -/
def fit (W : Int) (d : D) (q : LS) : Bool := !hd d && decide (wd d ≤ W - q.c)
abbrev Tk := D × Nat × Bool
/-- One box is laid: what is laid, and what is put on the stack (the last one on top). -/
def st1 (W : Int) (t : Tk) (q : LS) : LS × List Tk :=
  if kd t.1 = 0 then (lT (ow t.1) q, [])
  else if kd t.1 = 1 then (if t.2.2 = true then lT sp1 q else lN t.2.1 q, [])
  else if kd t.1 = 2 then (if t.2.2 = true then q else lN t.2.1 q, [])
  else if kd t.1 = 3 then (lN t.2.1 q, [])
  else if kd t.1 = 6 then (q, (ps t.1).reverse.map fun d => (d, t.2.1, t.2.2 || fit W t.1 q))
  else (q, (ps t.1).reverse.map fun d => (d, t.2.1 + (byD t.1).toNat, t.2.2))
mutual
/-- A box, laid. -/
def L1 (W : Int) : Option SD → Nat → Bool → LS → LS
  | none, _, _, q => q
  | some x, i, f, q => L1S W x i f q
def L1S (W : Int) : SD → Nat → Bool → LS → LS
  | ⟨w, h, s, k, t, b, l⟩, i, f, q =>
    if k = 0 then lT t q
    else if k = 1 then (if f = true then lT sp1 q else lN i q)
    else if k = 2 then (if f = true then q else lN i q)
    else if k = 3 then lN i q
    else if k = 6 then L1L W l i (f || fit W (some ⟨w, h, s, k, t, b, l⟩) q) q
    else L1L W l (i + b.toNat) f q
def L1L (W : Int) : List (Option SD) → Nat → Bool → LS → LS
  | [], _, _, q => q
  | d :: r, i, f, q => L1L W r i f (L1 W d i f q)
end
/-- A stack, laid: the last one first. -/
def run (W : Int) (ts : List Tk) (q : LS) : LS := ts.reverse.foldl (fun q t => L1 W t.1 t.2.1 t.2.2 q) q
theorem L1L_fold (W : Int) (l : List D) (i : Nat) (f : Bool) (q : LS) : L1L W l i f q = l.foldl (fun q d => L1 W d i f q) q := by
  induction l generalizing q with
  | nil => rfl
  | cons d r ih => simp only [L1L, List.foldl_cons, ih]
theorem L1_st (W : Int) (t : Tk) (q : LS) : L1 W t.1 t.2.1 t.2.2 q = run W (st1 W t q).2 (st1 W t q).1 := by
  obtain ⟨d, i, f⟩ := t
  have key : ∀ (l : List D) (j : Nat) (g : Bool) (q : LS), run W (l.reverse.map fun d => (d, j, g)) q = L1L W l j g q := by
    intro l j g q
    rw [L1L_fold]
    unfold run
    rw [← List.map_reverse, List.reverse_reverse, List.foldl_map]
  cases d with
  | none => simp [L1, st1, kd, ps, run]
  | some x =>
    obtain ⟨w, h, s, k, t, b, l⟩ := x
    simp only [L1, L1S, st1, kd, ps, ow, byD]
    by_cases k0 : k = 0
    · simp [k0, run]
    by_cases k1 : k = 1
    · simp [k1, run]
    by_cases k2 : k = 2
    · simp [k2, run]
    by_cases k3 : k = 3
    · simp [k3, run]
    by_cases k6 : k = 6
    · simp only [k6, if_true, if_false, show ((6 : Int) = 0) = False from by simp, show ((6 : Int) = 1) = False from by simp, show ((6 : Int) = 2) = False from by simp, show ((6 : Int) = 3) = False from by simp]
      exact (key l i _ q).symm
    · simp only [k0, k1, k2, k3, k6, if_true, if_false]
      exact (key l _ f q).symm
theorem run_step (W : Int) (ts : List Tk) (t : Tk) (q : LS) : run W (ts ++ [t]) q = run W (ts ++ (st1 W t q).2) (st1 W t q).1 := by
  have h1 : run W (ts ++ [t]) q = run W ts (L1 W t.1 t.2.1 t.2.2 q) := by simp [run]
  have h2 : ∀ a b q, run W (a ++ b) q = run W a (run W b q) := by intro a b q; simp [run, List.foldl_append]
  rw [h1, h2, L1_st]
/-! #### how much is left: boxes, bytes, indents -/
mutual
def nb : Option SD → Nat
  | none => 1
  | some x => nbS x
def nbS : SD → Nat
  | ⟨_, _, _, _, _, _, l⟩ => 1 + nbL l
def nbL : List (Option SD) → Nat
  | [] => 0
  | d :: r => nb d + nbL r
end
mutual
def tb : Option SD → Nat
  | none => 0
  | some x => tbS x
def tbS : SD → Nat
  | ⟨_, _, _, _, t, _, l⟩ => t.size + 1 + tbL l
def tbL : List (Option SD) → Nat
  | [] => 0
  | d :: r => tb d + tbL r
end
mutual
def ib : Option SD → Nat
  | none => 0
  | some x => ibS x
def ibS : SD → Nat
  | ⟨_, _, _, _, _, b, l⟩ => b.toNat + ibL l
def ibL : List (Option SD) → Nat
  | [] => 0
  | d :: r => ib d + ibL r
end
mutual
/-- Texts are no longer than 1000000 bytes, indents no negative numbers. -/
def Wf : Option SD → Prop
  | none => True
  | some x => WfS x
def WfS : SD → Prop
  | ⟨_, _, _, _, t, b, l⟩ => t.size ≤ 1000000 ∧ 0 ≤ b ∧ WfL l
def WfL : List (Option SD) → Prop
  | [] => True
  | d :: r => Wf d ∧ WfL r
end
theorem nb_some (x : SD) : nb (some x) = 1 + nbL x.l := by obtain ⟨w, h, s, k, t, b, l⟩ := x; simp [nb, nbS]
theorem tb_some (x : SD) : tb (some x) = x.t.size + 1 + tbL x.l := by obtain ⟨w, h, s, k, t, b, l⟩ := x; simp [tb, tbS]
theorem ib_some (x : SD) : ib (some x) = x.b.toNat + ibL x.l := by obtain ⟨w, h, s, k, t, b, l⟩ := x; simp [ib, ibS]
theorem wf_some (x : SD) : Wf (some x) ↔ x.t.size ≤ 1000000 ∧ 0 ≤ x.b ∧ WfL x.l := by obtain ⟨w, h, s, k, t, b, l⟩ := x; simp [Wf, WfS]
theorem WfL_all {l : List D} : WfL l ↔ ∀ d ∈ l, Wf d := by
  induction l with
  | nil => simp [WfL]
  | cons x r ih => simp [WfL, ih]
theorem nb_pos (d : D) : 1 ≤ nb d := by
  cases d with
  | none => simp [nb]
  | some x => rw [nb_some]; omega
theorem ib_mem {l : List D} {d : D} (h : d ∈ l) : ib d ≤ ibL l := by
  induction l with
  | nil => cases h
  | cons x r ih =>
    simp only [ibL]
    rcases List.mem_cons.1 h with rfl | h
    · omega
    · have := ih h; omega
/-- How many boxes, bytes there are on a stack. -/
def nT (ts : List Tk) : Nat := (ts.map fun t => nb t.1).foldr (· + ·) 0
def tT (ts : List Tk) : Nat := (ts.map fun t => tb t.1).foldr (· + ·) 0
theorem nT_app (a b : List Tk) : nT (a ++ b) = nT a + nT b := by
  induction a with
  | nil => simp [nT]
  | cons x r ih => simp only [nT, List.cons_append, List.map_cons, List.foldr_cons] at ih ⊢; omega
theorem tT_app (a b : List Tk) : tT (a ++ b) = tT a + tT b := by
  induction a with
  | nil => simp [tT]
  | cons x r ih => simp only [tT, List.cons_append, List.map_cons, List.foldr_cons] at ih ⊢; omega
theorem nT_one (t : Tk) : nT [t] = nb t.1 := by simp [nT]
theorem tT_one (t : Tk) : tT [t] = tb t.1 := by simp [tT]
theorem nT_map (l : List D) (j : Nat) (g : Bool) : nT (l.reverse.map fun d => (d, j, g)) = nbL l := by
  induction l with
  | nil => simp [nT, nbL]
  | cons d r ih => rw [List.reverse_cons, List.map_append, nT_app, ih]; simp only [List.map_cons, List.map_nil, nT_one, nbL]; omega
theorem tT_map (l : List D) (j : Nat) (g : Bool) : tT (l.reverse.map fun d => (d, j, g)) = tbL l := by
  induction l with
  | nil => simp [tT, tbL]
  | cons d r ih => rw [List.reverse_cons, List.map_append, tT_app, ih]; simp only [List.map_cons, List.map_nil, tT_one, tbL]; omega
theorem nT_len (ts : List Tk) : ts.length ≤ nT ts := by
  induction ts with
  | nil => simp [nT]
  | cons x r ih =>
    have := nb_pos x.1
    simp only [nT, List.map_cons, List.foldr_cons, List.length_cons] at ih ⊢
    omega
/-- What holds of a stack and of what has been laid: all is bounded. I: the greatest indent, T: the bytes, X: the length. -/
structure Lb (I K X : Nat) (ts : List Tk) (q : LS) : Prop where
  wf : ∀ t ∈ ts, Wf t.1 ∧ t.2.1 + ib t.1 ≤ I
  c0 : 0 ≤ q.c
  c : q.c + (tT ts : Int) ≤ K
  p : q.p ≤ I
  x : q.x.length + q.p + (I + 1) * nT ts + tT ts ≤ X
  t : I + tT ts ≤ K
theorem lT_bd {I K X : Nat} {ts : List Tk} {t : Tk} {q : LS} (h : Lb I K X (ts ++ [t]) q) (s : ByteArray) (hs : s.size + 1 ≤ tb t.1 + 1) (hs2 : s.size ≤ 1000000) (hs3 : s.size ≤ tb t.1) : Lb I K X ts (lT s q) := by
  have hc := (col_eq s hs2).1
  have h1 := h.c0
  have h2 := h.c
  have h3 := h.p
  have h4 := h.x
  have h5 := h.t
  have hn := nb_pos t.1
  rw [tT_app, tT_one] at h2 h4 h5
  rw [nT_app, nT_one] at h4
  have hw : ∀ u ∈ ts, Wf u.1 ∧ u.2.1 + ib u.1 ≤ I := fun u hu => h.wf u (List.mem_append_left _ hu)
  have e1 : (I + 1) * (nT ts + nb t.1) = (I + 1) * nT ts + (I + 1) * nb t.1 := Nat.mul_add _ _ _
  have e2 : I + 1 ≤ (I + 1) * nb t.1 := Nat.le_mul_of_pos_right _ hn
  unfold lT
  split
  · exact ⟨hw, h1, by omega, h3, by omega, by omega⟩
  · refine ⟨hw, by show 0 ≤ q.c + (col s : Int); omega, by show q.c + (col s : Int) + _ ≤ _; omega, by show 0 ≤ I; omega, ?_, by omega⟩
    show (q.x ++ (List.replicate q.p 32 ++ s.data.toList)).length + 0 + _ + _ ≤ X
    rw [List.length_append, List.length_append, List.length_replicate, data_length]
    omega
theorem lN_bd {I K X : Nat} {ts : List Tk} {t : Tk} {q : LS} (h : Lb I K X (ts ++ [t]) q) : Lb I K X ts (lN t.2.1 q) := by
  have h0 := (h.wf t (by simp)).2
  have h1 := h.c0
  have h2 := h.c
  have h3 := h.p
  have h4 := h.x
  have h5 := h.t
  have hn := nb_pos t.1
  rw [tT_app, tT_one] at h2 h4 h5
  rw [nT_app, nT_one] at h4
  have hw : ∀ u ∈ ts, Wf u.1 ∧ u.2.1 + ib u.1 ≤ I := fun u hu => h.wf u (List.mem_append_left _ hu)
  have e1 : (I + 1) * (nT ts + nb t.1) = (I + 1) * nT ts + (I + 1) * nb t.1 := Nat.mul_add _ _ _
  have e2 : I + 1 ≤ (I + 1) * nb t.1 := Nat.le_mul_of_pos_right _ hn
  refine ⟨hw, by show 0 ≤ ((t.2.1 : Nat) : Int); omega, by show ((t.2.1 : Nat) : Int) + _ ≤ _; omega, by show t.2.1 ≤ I; omega, ?_, by omega⟩
  show (q.x ++ [10]).length + t.2.1 + _ + _ ≤ X
  rw [List.length_append, List.length_singleton]
  omega
theorem push_bd {I K X : Nat} {ts : List Tk} {t : Tk} {q : LS} (h : Lb I K X (ts ++ [t]) q) (by_ : Nat) (hb : by_ = 0 ∨ by_ = (byD t.1).toNat) (g : Bool) : Lb I K X (ts ++ (ps t.1).reverse.map fun d => (d, t.2.1 + by_, g)) q := by
  obtain ⟨hwf, hin⟩ := h.wf t (by simp)
  have h1 := h.c0
  have h2 := h.c
  have h3 := h.p
  have h4 := h.x
  have h5 := h.t
  rw [tT_app, tT_one] at h2 h4 h5
  rw [nT_app, nT_one] at h4
  have hnl : nbL (ps t.1) ≤ nb t.1 := by
    cases ht : t.1 with
    | none => simp [ps, nbL]
    | some x => rw [nb_some]; show nbL x.l ≤ _; omega
  have htl : tbL (ps t.1) ≤ tb t.1 := by
    cases ht : t.1 with
    | none => simp [ps, tbL]
    | some x => rw [tb_some]; show tbL x.l ≤ _; omega
  have e2 : (I + 1) * (nT ts + nbL (ps t.1)) ≤ (I + 1) * (nT ts + nb t.1) := Nat.mul_le_mul_left _ (by omega)
  refine ⟨?_, h1, by rw [tT_app, tT_map]; omega, h3, by rw [tT_app, tT_map, nT_app, nT_map]; omega, by rw [tT_app, tT_map]; omega⟩
  intro u hu
  rcases List.mem_append.1 hu with hu | hu
  · exact h.wf u (List.mem_append_left _ hu)
  · obtain ⟨d, hd, rfl⟩ := List.mem_map.1 hu
    rw [List.mem_reverse] at hd
    cases ht : t.1 with
    | none => rw [ht] at hd; cases hd
    | some x =>
      rw [ht] at hd hwf hin hb
      have hd2 : d ∈ x.l := hd
      rw [wf_some] at hwf
      rw [ib_some] at hin
      have := ib_mem hd2
      refine ⟨WfL_all.1 hwf.2.2 d hd2, ?_⟩
      show t.2.1 + by_ + ib d ≤ I
      have hb2 : by_ = 0 ∨ by_ = x.b.toNat := hb
      omega
theorem st1_bd {W : Int} {I K X : Nat} {ts : List Tk} {t : Tk} {q : LS} (h : Lb I K X (ts ++ [t]) q) : Lb I K X (ts ++ (st1 W t q).2) (st1 W t q).1 ∧ nT (ts ++ (st1 W t q).2) < nT (ts ++ [t]) := by
  obtain ⟨hwf, hin⟩ := h.wf t (by simp)
  have hn := nb_pos t.1
  have hnl : nbL (ps t.1) + 1 ≤ nb t.1 := by
    cases ht : t.1 with
    | none => simp [ps, nbL, nb]
    | some x => rw [nb_some]; show nbL x.l + 1 ≤ _; omega
  have hsz : (ow t.1).size + 1 ≤ tb t.1 + 1 ∧ (ow t.1).size ≤ 1000000 := by
    cases ht : t.1 with
    | none => exact ⟨by show 0 + 1 ≤ _; omega, by show 0 ≤ 1000000; omega⟩
    | some x => rw [ht, wf_some] at hwf; rw [tb_some]; exact ⟨by show x.t.size + 1 ≤ _; omega, hwf.1⟩
  have hlt : nT (ts ++ ([] : List Tk)) < nT (ts ++ [t]) := by rw [List.append_nil, nT_app, nT_one]; omega
  unfold st1
  split
  · exact ⟨by rw [List.append_nil]; exact lT_bd h _ hsz.1 hsz.2 (by omega), hlt⟩
  split
  · rename_i k0 k1
    have h1 : 1 ≤ tb t.1 := by
      cases ht : t.1 with
      | none => rw [ht] at k1; simp [kd] at k1
      | some x => rw [tb_some]; omega
    refine ⟨?_, hlt⟩
    rw [List.append_nil]
    split
    · exact lT_bd h sp1 (by show 1 + 1 ≤ _; omega) (by decide) h1
    · exact lN_bd h
  split
  · refine ⟨?_, hlt⟩
    rw [List.append_nil]
    split
    · have h2 := h.c
      have h4 := h.x
      have h5 := h.t
      rw [tT_app, tT_one] at h2 h4 h5
      rw [nT_app, nT_one] at h4
      have e1 : (I + 1) * (nT ts + nb t.1) = (I + 1) * nT ts + (I + 1) * nb t.1 := Nat.mul_add _ _ _
      show Lb I K X ts q
      exact ⟨fun u hu => h.wf u (List.mem_append_left _ hu), h.c0, by omega, h.p, by omega, by omega⟩
    · exact lN_bd h
  split
  · exact ⟨by rw [List.append_nil]; exact lN_bd h, hlt⟩
  split
  · refine ⟨?_, by rw [nT_app, nT_app, nT_map, nT_one]; omega⟩
    have := push_bd h 0 (Or.inl rfl) (t.2.2 || fit W t.1 q)
    simpa using this
  · exact ⟨push_bd h _ (Or.inr rfl) t.2.2, by rw [nT_app, nT_app, nT_map, nT_one]; omega⟩
end Go.Proofs.YtjgaikmejccdkaaDoor.PDoc
