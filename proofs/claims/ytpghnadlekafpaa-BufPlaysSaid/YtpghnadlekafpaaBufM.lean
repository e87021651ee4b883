/- What turns a step, over texts alone: steps kept, each of which can be undone. -/
import Derived.Test.YtpghnadlekafpaaBufJ
namespace Go.Proofs.Ytpghnadlekafpaa.PBuf
open Go.RowKit Go.Proofs.YtpghnadlekafpaaW.PrintWords Go.Proofs.YtpghnadlekafpaaW.PrintLast Go.Proofs.YtpghnadlekafpaaW.PrintMore
set_option linter.unusedVariables false
set_option linter.unusedSimpArgs false
abbrev fo (T : List UInt8) (l : List X) : List UInt8 := (tL l).foldr Ed.st T
theorem B_tb (P : List Pc) : B (tb P) = tx P := B_mk _
theorem turn_back (P : List Pc) (l : List X) (n : Nat) (hP : (tx P).length = n) (hr : rt (n : Int) 0 l = true) : rt ((fo (tx P) l).length : Int) 0 (tX (tb P) 0 0 l) = true ∧ fo (fo (tx P) l) (tX (tb P) 0 0 l) = tx P ∧ Ed.sz (tL (tX (tb P) 0 0 l)) ≤ n ∧ (tX (tb P) 0 0 l).length = l.length := by
  have hR := rt_R n l 0 (Int.le_refl 0) hr
  have hfo : fo (tx P) l = Ed.ap (tx P) 0 (tL l) := Ed.foldr_ap n (tx P) hP (tL l) hR
  have htn := tX_tn (tb P) n l 0 0 (Int.le_refl 0) (Int.le_refl 0) hr
  rw [B_tb] at htn
  obtain ⟨t1, t2⟩ := Ed.tn_ok n (tx P) hP (tL l) 0 0 [] (Nat.zero_le _) hR rfl
  rw [List.nil_append, ← hfo] at t1 t2
  have hsz := Ed.sz_tn n (tx P) hP (tL l) 0 0 (Nat.zero_le _) hR
  have h0 : Int.toNat 0 = 0 := rfl
  rw [h0] at htn
  have hrt : rt ((fo (tx P) l).length : Int) 0 (tX (tb P) 0 0 l) = true := by
    refine tX_rt (tb P) n _ l 0 0 (Int.le_refl 0) (Int.le_refl 0) hr ?_ (by omega)
    rw [htn, Int.toNat_natCast]
    exact t1
  refine ⟨hrt, ?_, by rw [htn]; omega, tX_len _ _ _ _⟩
  rw [fo, htn, Ed.foldr_ap _ _ rfl _ t1, t2]
  rfl
theorem sz_mem {l : List X} {e : X} (h : e ∈ l) : e.f2.size ≤ Ed.sz (tL l) := by
  induction l with
  | nil => simp at h
  | cons x l ih =>
    have hcons : tL (x :: l) = tE x :: tL l := rfl
    rw [hcons]
    simp only [Ed.sz, tE, B_size]
    rcases List.mem_cons.1 h with rfl | h
    · omega
    · have := ih h; omega
theorem okAt_big (P : List Pc) (n : Nat) (hP : (tx P).length = n) (hP2 : P.length ≤ 100000000000) (hn : n ≤ 1000000000000) : ∀ (l : List X) (a : Int), 0 ≤ a → rt (n : Int) a l = true → Ed.sz (tL l) ≤ 1000000000000 → l.length ≤ 1000000 → ∀ i, i < l.length → okAt P l i := by
  intro l
  induction l with
  | nil => intro a _ _ _ _ i hi; simp at hi
  | cons e l ih =>
    intro a ha h hz hl i hi
    obtain ⟨j1, j2, j3, j4⟩ := rt_cons h
    have h2 : tL (e :: l) = tE e :: tL l := rfl
    have hse := sz_mem (l := e :: l) List.mem_cons_self
    rw [h2] at hz hse
    simp only [Ed.sz] at hz hse
    simp only [List.length_cons] at hl hi
    cases i with
    | zero =>
      have hR := rt_R n l e.f1 (by omega) j4
      have hf := Ed.foldr_st n (tx P) hP (tL l) e.f1.toNat (by omega) hR
      have hap := Ed.ap_len n (tx P) hP (tL l) e.f1.toNat (by omega) hR
      have hlen : (tx (dosP P l)).length = e.f1.toNat + (Ed.ap (tx P) e.f1.toNat (tL l)).length := by
        rw [tx_dos, hf, List.length_append, List.length_take, hP]; omega
      have hd := (dos_len P n l e.f1 j4).1
      unfold okAt
      rw [show rd_T40 (e :: l) ((0 : Nat) : Int) = e from rfl, show (e :: l).drop (0 + 1) = l from rfl]
      exact ⟨by omega, j2, by omega, by omega, by omega, by omega⟩
    | succ i =>
      have := ih e.f1 (by omega) j4 (by omega) (by omega) i (by omega)
      unfold okAt at this ⊢
      rw [show rd_T40 (e :: l) ((i + 1 : Nat) : Int) = rd_T40 l (i : Int) from by simp [rd_T40]]
      exact this
/-- Steps that can be undone one behind the other, the last one first; 'ts' the texts that come of it, none of them longer than m. -/
def back (m : Nat) : List UInt8 → List St → List (List UInt8) → Prop
  | _, [], [] => True
  | T, x :: r, t :: ts => rt (T.length : Int) 0 x.f1 = true ∧ Ed.sz (tL x.f1) ≤ m ∧ x.f1.length ≤ m ∧ fo T x.f1 = t ∧ t.length ≤ m ∧ rt (t.length : Int) 0 x.f0 = true ∧ fo t x.f0 = T ∧ Ed.sz (tL x.f0) ≤ m ∧ x.f0.length ≤ m ∧ back m t r ts
  | _, _, _ => False
theorem back_mono {m m' : Nat} (h : m ≤ m') : ∀ {r : List St} {T : List UInt8} {ts : List (List UInt8)}, back m T r ts → back m' T r ts := by
  intro r
  induction r with
  | nil => intro T ts hb; cases ts with | nil => trivial | cons _ _ => exact hb.elim
  | cons x r ih =>
    intro T ts hb
    cases ts with
    | nil => exact hb.elim
    | cons t ts =>
      obtain ⟨h1, h2, h3, h4, h5, h6, h7, h8, h9, h10⟩ := hb
      exact ⟨h1, by omega, by omega, h4, by omega, h6, h7, by omega, by omega, ih h10⟩
theorem back_len {m : Nat} : ∀ {r : List St} {T : List UInt8} {ts : List (List UInt8)}, back m T r ts → r.length = ts.length := by
  intro r
  induction r with
  | nil => intro T ts hb; cases ts with | nil => rfl | cons _ _ => exact hb.elim
  | cons x r ih =>
    intro T ts hb
    cases ts with
    | nil => exact hb.elim
    | cons t ts => simp only [List.length_cons]; rw [ih hb.2.2.2.2.2.2.2.2.2]
/-- A step done: it can be undone. -/
theorem back_push {m : Nat} (P : List Pc) (l : List X) (r : List St) (ts : List (List UInt8)) (h : back m (tx P) r ts) (hr : rt ((tx P).length : Int) 0 l = true) (hm : (tx P).length ≤ m) (hl : l.length ≤ m) (hz : Ed.sz (tL l) ≤ m) : back m (fo (tx P) l) (⟨l, tX (tb P) 0 0 l⟩ :: r) (tx P :: ts) := by
  obtain ⟨h1, h2, h3, h4⟩ := turn_back P l _ rfl hr
  exact ⟨h1, Nat.le_trans h3 hm, Nat.le_trans (Nat.le_of_eq h4) hl, h2, hm, hr, rfl, hz, hl, h⟩
end Go.Proofs.Ytpghnadlekafpaa.PBuf
