/- Layer 25, plain: the boxes that are made; what is laid without blanks and new lines; what is flat. -/
import Derived.Test.YtjgaikmejccdkaaDoorLayP
import Derived.Test.YtjgaikmejccdkaaDoorDoc7
namespace Go.Proofs.YtjgaikmejccdkaaDoor.PDoc
open Go.RowKit Go.Proofs.YtjgaikmejccdkaaDoorW.PrintWords Go.Proofs.YtjgaikmejccdkaaDoorW.PrintLast Go.Proofs.YtjgaikmejccdkaaDoorW.PrintMore
set_option linter.unusedVariables false
set_option linter.unusedSimpArgs false
theorem cl_no10 (s : ByteArray) : (10 : UInt8) ∉ (cl s).data.toList := by
  show (10 : UInt8) ∉ (s.data.toList.map fun b : UInt8 => if b = 10 then 32 else b)
  intro h
  obtain ⟨b, _, hb⟩ := List.mem_map.1 h
  by_cases e : b = 10
  · rw [if_pos e] at hb; exact absurd hb (by decide)
  · rw [if_neg e] at hb; exact e hb
/-- What is known of a box that is made. -/
structure Bk (d : D) : Prop where
  q : Wq d
  f : Wf d
  n : (nb d : Int) = sz d
  t : tb d ≤ 31 * nb d
  i : ib d ≤ 100 * nb d
  w : wd d ≤ tb d
structure BkL (l : List D) : Prop where
  q : WqL l
  f : WfL l
  n : (nbL l : Int) = szs l
  t : tbL l ≤ 31 * nbL l
  i : ibL l ≤ 100 * nbL l
  w : wds l ≤ tbL l
theorem BkL.of {l : List D} (h : ∀ d ∈ l, Bk d) : BkL l := by
  induction l with
  | nil => exact ⟨trivial, trivial, rfl, Nat.le_refl _, Nat.le_refl _, Int.le_refl 0⟩
  | cons d r ih =>
    have a := h d List.mem_cons_self
    have b := ih (fun y hy => h y (List.mem_cons_of_mem _ hy))
    obtain ⟨a1, a2, a3, a4, a5, a6⟩ := a
    obtain ⟨b1, b2, b3, b4, b5, b6⟩ := b
    have e1 : szs (d :: r) = sz d + szs r := rfl
    have e2 : wds (d :: r) = wd d + wds r := rfl
    refine ⟨⟨a1, b1⟩, ⟨a2, b2⟩, ?_, ?_, ?_, ?_⟩ <;> simp only [nbL, tbL, ibL, e1, e2] <;> omega
theorem Bk.text (t : ByteArray) (ht : t.size ≤ 30) : Bk (tD t) := by
  have hc := (col_eq (cl t) (by rw [cl_size]; omega)).1
  have hs := cl_size t
  refine ⟨?_, ?_, ?_, ?_, ?_, ?_⟩
  · unfold tD
    rw [Wq_some, tb_some]
    refine ⟨by show (col (cl t) : Int) ≤ (((cl t).size + 1 + 0 : Nat) : Int); omega, cl_no10 t, fun _ => rfl, fun h => absurd rfl h, fun _ => rfl, rfl, trivial⟩
  · unfold tD
    rw [wf_some]
    exact ⟨by show (cl t).size ≤ _; omega, Int.le_refl 0, trivial⟩
  · rfl
  · unfold tD; rw [tb_some, nb_some]; show (cl t).size + 1 + 0 ≤ 31 * (1 + 0); omega
  · unfold tD; rw [ib_some, nb_some]; show 0 + 0 ≤ _; omega
  · unfold tD; rw [tb_some]; show (col (cl t) : Int) ≤ (((cl t).size + 1 + 0 : Nat) : Int); omega
theorem Bk.leaf (w k : Int) (h : Bool) (hw : w ≤ 1) (hk : k = 1 ∨ k = 2 ∨ k = 3) (hh : h = decide (k = 3)) : Bk (leaf w k h) := by
  refine ⟨?_, ?_, ?_, ?_, ?_, ?_⟩
  · unfold PDoc.leaf
    rw [Wq_some, tb_some]
    refine ⟨by show w ≤ ((0 + 1 + 0 : Nat) : Int); omega, by simp, fun _ => rfl, fun _ => rfl, fun _ => rfl, by rw [hh]; simp [hds], trivial⟩
  · unfold PDoc.leaf
    rw [wf_some]
    exact ⟨by show 0 ≤ 1000000; omega, Int.le_refl 0, trivial⟩
  · rfl
  · unfold PDoc.leaf; rw [tb_some, nb_some]; show 0 + 1 + 0 ≤ 31 * (1 + 0); omega
  · unfold PDoc.leaf; rw [ib_some, nb_some]; show 0 + 0 ≤ _; omega
  · unfold PDoc.leaf; rw [tb_some]; show w ≤ ((0 + 1 + 0 : Nat) : Int); omega
theorem Bk.box {k b : Int} {l : List D} (hk : k = 4 ∨ k = 5 ∨ k = 6) (h0 : 0 ≤ b) (h1 : b ≤ 100) (h : BkL l) : Bk (bD k b l) := by
  obtain ⟨b1, b2, b3, b4, b5, b6⟩ := h
  refine ⟨?_, ?_, ?_, ?_, ?_, ?_⟩
  · unfold bD
    rw [Wq_some, tb_some]
    refine ⟨by show wds l ≤ ((0 + 1 + tbL l : Nat) : Int); omega, by simp, fun h => ?_, fun _ => rfl, fun h => ?_, ?_, b1⟩
    · have : k = 0 := h; omega
    · have : k = 1 ∨ k = 2 ∨ k = 3 := h; omega
    · show hds l = (decide (k = 3) || hds l)
      rw [decide_eq_false (by omega), Bool.false_or]
  · unfold bD
    rw [wf_some]
    exact ⟨by show 0 ≤ 1000000; omega, h0, b2⟩
  · unfold bD; rw [nb_some]; show ((1 + nbL l : Nat) : Int) = 1 + szs l; omega
  · unfold bD; rw [tb_some, nb_some]; show 0 + 1 + tbL l ≤ 31 * (1 + nbL l); omega
  · unfold bD; rw [ib_some, nb_some]; show b.toNat + ibL l ≤ 100 * (1 + nbL l); omega
  · unfold bD; rw [tb_some]; show wds l ≤ ((0 + 1 + tbL l : Nat) : Int); omega
mutual
theorem dB_ok : ∀ b : S27, WB b → Bk (dB b)
  | ⟨k, t, b, l⟩, h => by
    have hl := dBL_ok l
    unfold WB at h
    unfold dB
    rcases h with ⟨rfl, h1, rfl, rfl⟩ | ⟨hk, rfl, rfl, rfl⟩ | ⟨hk, rfl, h0, h1, h2⟩
    · rw [if_pos rfl]
      exact Bk.text t h1
    · rcases hk with rfl | rfl | rfl
      · rw [if_neg (by omega), if_pos rfl]; exact Bk.leaf 1 1 false (by omega) (by omega) rfl
      · rw [if_neg (by omega), if_neg (by omega), if_pos rfl]; exact Bk.leaf 0 2 false (by omega) (by omega) rfl
      · rw [if_neg (by omega), if_neg (by omega), if_neg (by omega), if_pos rfl]; exact Bk.leaf 0 3 true (by omega) (by omega) rfl
    · rw [if_neg (by omega), if_neg (by omega), if_neg (by omega), if_neg (by omega)]
      exact Bk.box hk h0 h1 (BkL.of (hl h2))
theorem dBL_ok : ∀ l : List (S27), WBL l → ∀ d ∈ dBL l, Bk d
  | [], _ => by intro d hd; simp [dBL] at hd
  | b :: r, h => by
    have h1 := dB_ok b
    have h2 := dBL_ok r
    simp only [WBL] at h
    intro d hd
    simp only [dBL, List.mem_cons] at hd
    rcases hd with rfl | hd
    · exact h1 h.1
    · exact h2 h.2 d hd
end
/-- A box that the maker makes: all that is known of it. -/
structure Mq (d : D) : Prop where
  m : Mk d
  q : Wq d
  pb : Pb d
  s : sz d ≤ 61
  k : ib d + tb d ≤ 60000
theorem Ok.box4q {i : Nat} {bs : List Bo} (h : Ok i bs) (hi : i ≤ 60) : Mq (bD 4 0 (bs.map dB)) := by
  have hk : Bk (bD 4 0 (bs.map dB)) := Bk.box (Or.inl rfl) (by omega) (by omega) (BkL.of (fun d hd => by
    obtain ⟨b, hb, rfl⟩ := List.mem_map.1 hd
    exact dB_ok b (h.wb b hb)))
  have hs : sz (bD 4 0 (bs.map dB)) ≤ 61 := by
    have := h.bd.s
    show 1 + szs _ ≤ 61
    omega
  have h1 := hk.n
  have h2 := hk.t
  have h3 := hk.i
  exact ⟨h.box4 hi, hk.q, ⟨hk.f, by omega, by omega, by omega⟩, hs, by omega⟩
/-! #### without blanks and new lines -/
def bareL (x : List UInt8) : List UInt8 := x.filter fun c => c != 32 && c != 10
theorem bareL_app (a b : List UInt8) : bareL (a ++ b) = bareL a ++ bareL b := by simp [bareL]
theorem bareL_sp (n : Nat) : bareL (List.replicate n 32) = [] := by
  unfold bareL
  rw [List.filter_eq_nil_iff]
  intro c hc
  rw [List.eq_of_mem_replicate hc]
  decide
theorem bare_lT (s : ByteArray) (q : LS) : bareL (lT s q).x = bareL q.x ++ bareL s.data.toList := by
  unfold lT
  split
  · rename_i h; rw [h]; simp [bareL]
  · show bareL (q.x ++ (_ ++ _)) = _
    rw [bareL_app, bareL_app, bareL_sp, List.nil_append]
theorem bare_lN (i : Nat) (q : LS) : bareL (lN i q).x = bareL q.x := by show bareL (q.x ++ [10]) = _; rw [bareL_app]; simp [bareL]
theorem bare_lay (W : Int) : ∀ (d : D) (i : Nat) (f : Bool) (q : LS), Wq d → bareL (L1 W d i f q).x = bareL q.x ++ bareL (fl [] d) := by
  apply boxes
  · intro i f q _; show bareL q.x = bareL q.x ++ bareL []; simp [bareL]
  · intro x ih i f q hq
    have hl : ∀ (l : List D), (∀ d ∈ l, ∀ (i : Nat) (f : Bool) (q : LS), Wq d → bareL (L1 W d i f q).x = bareL q.x ++ bareL (fl [] d)) → ∀ (i : Nat) (f : Bool) (q : LS), WqL l → bareL (L1L W l i f q).x = bareL q.x ++ bareL (flL [] l) := by
      intro l
      induction l with
      | nil => intro _ i f q _; show bareL q.x = bareL q.x ++ bareL []; simp [bareL]
      | cons d r ih2 =>
        intro h i f q hq
        simp only [WqL] at hq
        have h1 := h d List.mem_cons_self i f q hq.1
        have h2 := ih2 (fun y hy => h y (List.mem_cons_of_mem _ hy)) i f (L1 W d i f q) hq.2
        simp only [L1L, flL]
        rw [h2, h1, bareL_app, List.append_assoc]
    have h3 := hl x.l ih
    obtain ⟨q1, q2, q3, q4, q5, q6, q7⟩ := Wq_some.1 hq
    rw [fl_some, L1_some]
    by_cases k0 : x.k = 0
    · rw [if_pos k0, bare_lT, q3 k0, if_neg (by omega)]
      simp [flL]
    have ht : x.t.data.toList = [] := by rw [q4 k0]
    rw [ht, List.nil_append]
    by_cases k1 : x.k = 1
    · rw [if_neg k0, if_pos k1, if_pos k1, q5 (Or.inl k1)]
      cases f
      · simp only [Bool.false_eq_true, if_false]; rw [bare_lN]; simp [flL, bareL]
      · simp only [if_true]; rw [bare_lT]; simp [flL, bareL, sp1]
    by_cases k2 : x.k = 2
    · rw [if_neg k0, if_neg k1, if_pos k2, if_neg k1, q5 (Or.inr (Or.inl k2))]
      cases f
      · simp only [Bool.false_eq_true, if_false]; rw [bare_lN]; simp [flL, bareL]
      · simp only [if_true]; simp [flL, bareL]
    by_cases k3 : x.k = 3
    · rw [if_neg k0, if_neg k1, if_neg k2, if_pos k3, if_neg k1, q5 (Or.inr (Or.inr k3)), bare_lN]
      simp [flL, bareL]
    by_cases k6 : x.k = 6
    · rw [if_neg k0, if_neg k1, if_neg k2, if_neg k3, if_pos k6, if_neg k1, List.nil_append]
      exact h3 _ _ _ q7
    · rw [if_neg k0, if_neg k1, if_neg k2, if_neg k3, if_neg k6, if_neg k1, List.nil_append]
      exact h3 _ _ _ q7
/-! #### flat -/
theorem flat_lay (W : Int) : ∀ (d : D) (i : Nat) (q : LS), Wq d → hd d = false → q.p = 0 → (L1 W d i true q).x = q.x ++ fl [32] d ∧ (L1 W d i true q).p = 0 := by
  apply boxes
  · intro i q _ _ hp; exact ⟨by show q.x = q.x ++ []; simp, hp⟩
  · intro x ih i q hq hh hp
    have hl : ∀ (l : List D), (∀ d ∈ l, ∀ (i : Nat) (q : LS), Wq d → hd d = false → q.p = 0 → (L1 W d i true q).x = q.x ++ fl [32] d ∧ (L1 W d i true q).p = 0) → ∀ (i : Nat) (q : LS), WqL l → hds l = false → q.p = 0 → (L1L W l i true q).x = q.x ++ flL [32] l ∧ (L1L W l i true q).p = 0 := by
      intro l
      induction l with
      | nil => intro _ i q _ _ hp; exact ⟨by show q.x = q.x ++ []; simp, hp⟩
      | cons d r ih2 =>
        intro h i q hq hh hp
        simp only [WqL] at hq
        have hh2 : (hd d || hds r) = false := hh
        rw [Bool.or_eq_false_iff] at hh2
        have h1 := h d List.mem_cons_self i q hq.1 hh2.1 hp
        have h2 := ih2 (fun y hy => h y (List.mem_cons_of_mem _ hy)) i (L1 W d i true q) hq.2 hh2.2 h1.2
        simp only [L1L, flL]
        exact ⟨by rw [h2.1, h1.1, List.append_assoc], h2.2⟩
    have h3 := hl x.l ih
    obtain ⟨q1, q2, q3, q4, q5, q6, q7⟩ := Wq_some.1 hq
    have hh1 : x.h = false := hh
    rw [hh1] at q6
    have q8 : (decide (x.k = 3) || hds x.l) = false := q6.symm
    rw [Bool.or_eq_false_iff] at q8
    have k3 : x.k ≠ 3 := of_decide_eq_false q8.1
    rw [fl_some, L1_some]
    by_cases k0 : x.k = 0
    · rw [if_pos k0, q3 k0, if_neg (by omega)]
      unfold lT
      split
      · rename_i h; rw [h]; exact ⟨by simp [flL], hp⟩
      · exact ⟨by show q.x ++ (List.replicate q.p 32 ++ x.t.data.toList) = _; rw [hp]; simp [flL], rfl⟩
    have ht : x.t.data.toList = [] := by rw [q4 k0]
    rw [ht, List.nil_append]
    by_cases k1 : x.k = 1
    · rw [if_neg k0, if_pos k1, if_pos k1, q5 (Or.inl k1), if_pos rfl]
      unfold lT
      rw [if_neg (by decide)]
      exact ⟨by show q.x ++ (List.replicate q.p 32 ++ [32]) = _; rw [hp]; simp [flL], rfl⟩
    by_cases k2 : x.k = 2
    · rw [if_neg k0, if_neg k1, if_pos k2, if_neg k1, q5 (Or.inr (Or.inl k2)), if_pos rfl]
      exact ⟨by simp [flL], hp⟩
    by_cases k6 : x.k = 6
    · rw [if_neg k0, if_neg k1, if_neg k2, if_neg k3, if_pos k6, if_neg k1, List.nil_append, Bool.true_or]
      exact h3 _ _ q7 q8.2 hp
    · rw [if_neg k0, if_neg k1, if_neg k2, if_neg k3, if_neg k6, if_neg k1, List.nil_append]
      exact h3 _ _ q7 q8.2 hp
/-- A group of what fits is laid flat. -/
theorem prt_flat {d : D} (hq : Wq d) (hh : hd d = false) {W : Int} (hw : wd d ≤ W) : prt W (bD 6 0 [d]) = flT d := by
  have h1 : hd (bD 6 0 [d]) = false := by show (hd d || false) = false; rw [hh]; rfl
  have h2 : wd (bD 6 0 [d]) = wd d := by show wd d + 0 = wd d; omega
  have hf : fit W (bD 6 0 [d]) LS0 = true := by
    unfold fit
    rw [h1, h2]
    show (true && decide (wd d ≤ W - 0)) = true
    rw [decide_eq_true (by omega)]
    rfl
  unfold prt flT
  have e : (L1 W (bD 6 0 [d]) 0 false LS0).x = fl [32] d := by
    unfold bD at hf ⊢
    rw [L1_some, if_neg (by show ¬ ((6 : Int) = 0); omega), if_neg (by show ¬ ((6 : Int) = 1); omega), if_neg (by show ¬ ((6 : Int) = 2); omega), if_neg (by show ¬ ((6 : Int) = 3); omega), if_pos rfl, hf]
    have := (flat_lay W d 0 LS0 hq hh rfl).1
    simp only [L1L, Bool.false_or]
    rw [this]
    rfl
  rw [e]
end Go.Proofs.YtjgaikmejccdkaaDoor.PDoc
