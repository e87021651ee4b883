/- What is done to a buffer, told as a step of what it is: the same for any buffer that is the same. -/
import Derived.Test.YtpghnadlekafpaaBufL
import Derived.Test.YtpghnadlekafpaaBufM
namespace Go.Proofs.Ytpghnadlekafpaa.PBuf
open Go.RowKit Go.Proofs.YtpghnadlekafpaaW.PrintWords Go.Proofs.YtpghnadlekafpaaW.PrintLast Go.Proofs.YtpghnadlekafpaaW.PrintMore
set_option linter.unusedVariables false
set_option linter.unusedSimpArgs false
abbrev okR (P : List Pc) (e : X) : Prop := rt ((tx P).length : Int) 0 [e] = true
def sP (P : List Pc) (e : X) : List Pc := if okR P e then dosP P [e] else P
def sPa (P : List Pc) (past : List St) (e : X) : List St := if okR P e then trim (past ++ [⟨[e], tX (tb P) 0 0 [e]⟩]) else past
def sFu (P : List Pc) (fut : List St) (e : X) : List St := if okR P e then [] else fut
def sZ (P : List Pc) (e : X) : Int := if okR P e then 0 else 2
def Ev (w : World) (base g : Nat) (Vp Vf : Value) (P' : List Pc) (past' fut' : List St) (w' : World) : Prop := ∃ Vp' Vf' Vl' n', Bf w' base g Vp' Vf' Vl' n' P' past' fut' ∧ Fr (foot g Vp Vf) w w' ∧ (∀ i, foot g Vp' Vf' i → foot g Vp Vf i ∨ w.heap.size ≤ i)
theorem Apply_ev {w : World} {base g : Nat} {Vp Vf Vl : Value} {n : Int} {P : List Pc} {past fut : List St} (hB : Bf w base g Vp Vf Vl n P past fut) (hb : base ≤ w.heap.size) (b : Nat) (x y : Int) (t : ByteArray) (hC : Kd.C kX w (some ⟨b, 0, none⟩) 1 [⟨x, y, t⟩]) (hn : (tx P).length ≤ 1000000) (hz : t.size ≤ 1000) (hP : P.length ≤ 1000000000) (hpl : past.length ≤ 1000000) :
    Calls Try.prog 15 #[.pointer (some ⟨g, 0, none⟩), .slice (some ⟨b, 0, none⟩) 1 1] w fun e w' => ∃ z, e = .returned (.int .i64 z) ∧ z = sZ P ⟨x, y, t⟩ ∧ Ev w base g Vp Vf (sP P ⟨x, y, t⟩) (sPa P past ⟨x, y, t⟩) (sFu P fut ⟨x, y, t⟩) w' := by
  have hN := hB.n
  unfold sZ sP sPa sFu okR
  by_cases hr : rt ((tx P).length : Int) 0 [(⟨x, y, t⟩ : X)] = true
  · obtain ⟨q1, q2, q3, -⟩ := rt_cons hr
    dsimp only at q1 q2 q3
    have hg := gw1 x y t
    rw [if_pos hr, if_pos hr, if_pos hr, if_pos hr]
    refine (Apply_yes hB (some ⟨b, 0, none⟩) 1 [⟨x, y, t⟩] hC (Nat.le_refl _) (by simp) (by omega) (by rw [hN]; exact hr) (by simpa using hz) (by omega) (by omega) hb hP hpl).mono ?_
    rintro e w' ⟨rfl, Vp', Vl', n', h1, h2, h3⟩
    exact ⟨0, rfl, rfl, Vp', _, Vl', n', h1, h2, h3⟩
  · rw [if_neg hr, if_neg hr, if_neg hr, if_neg hr]
    refine (Apply_range hB (some ⟨b, 0, none⟩) 1 [⟨x, y, t⟩] hC (Nat.le_refl _) (by simp) (by rw [hN]; exact Bool.eq_false_iff.2 hr)).mono ?_
    rintro e w' ⟨rfl, hb'⟩
    exact ⟨2, rfl, rfl, Vp, Vf, Vl, n, hB.below hb', Fr.of_below hb', fun i hi => .inl hi⟩
theorem Splice_ev {w : World} {base g : Nat} {Vp Vf Vl : Value} {n : Int} {P : List Pc} {past fut : List St} (hB : Bf w base g Vp Vf Vl n P past fut) (hb : base ≤ w.heap.size) (x y : Int) (t : ByteArray) (hn : (tx P).length ≤ 1000000) (hz : t.size ≤ 1000) (hP : P.length ≤ 1000000000) (hpl : past.length ≤ 1000000) :
    Calls Try.prog 10 #[.pointer (some ⟨g, 0, none⟩), .int .i64 x, .int .i64 y, .string t] w fun e w' => ∃ z, e = .returned (.int .i64 z) ∧ z = sZ P ⟨x, y, t⟩ ∧ Ev w base g Vp Vf (sP P ⟨x, y, t⟩) (sPa P past ⟨x, y, t⟩) (sFu P fut ⟨x, y, t⟩) w' := by
  refine Splice_via _ x y t w (fun w1 b hb1 hC => ?_)
  refine (Apply_ev (hB.below hb1) (Nat.le_trans hb hb1.size) b x y t hC hn hz hP hpl).mono ?_
  rintro e w' ⟨z, rfl, hz, Vp', Vf', Vl', n', h1, h2, h3⟩
  exact ⟨z, rfl, hz, Vp', Vf', Vl', n', h1, (Fr.of_below hb1).trans h2 (fun i _ hi => hi), fun i hi => (h3 i hi).imp id (fun h => Nat.le_trans hb1.size h)⟩
def uP (P : List Pc) (past : List St) : List Pc := match past.reverse with | [] => P | x :: _ => dosP P x.f1
def uPa (past : List St) : List St := past.reverse.tail.reverse
def uFu (past fut : List St) : List St := match past.reverse with | [] => fut | x :: _ => trim (fut ++ [x])
theorem Undo_ev {w : World} {base g m : Nat} {Vp Vf Vl : Value} {n : Int} {P : List Pc} {past fut : List St} {ts : List (List UInt8)} (hB : Bf w base g Vp Vf Vl n P past fut) (hb : base ≤ w.heap.size) (hk : back m (tx P) past.reverse ts) (hm : m ≤ 100000) (hn : (tx P).length ≤ 1000000) (hP : P.length ≤ 1000000000) (hpl : past.length ≤ 100000) (hfl : fut.length ≤ 100000) :
    Calls Try.prog 12 #[.pointer (some ⟨g, 0, none⟩)] w fun e w' => ∃ Vr bo, e = .returned (.tuple #[Vr, .bool bo]) ∧ Ev w base g Vp Vf (uP P past) (uPa past) (uFu past fut) w' := by
  unfold uP uPa uFu
  cases hr : past.reverse with
  | nil =>
    obtain rfl : past = [] := by simpa using hr
    refine (Undo_no hB).mono ?_
    rintro e w' ⟨rfl, hb'⟩
    exact ⟨_, _, rfl, Vp, Vf, Vl, n, hB.below hb', Fr.of_below hb', fun i hi => .inl hi⟩
  | cons x r =>
    have hp : past = r.reverse ++ [x] := by rw [← List.reverse_reverse past, hr]; simp
    rw [hr] at hk
    cases ts with
    | nil => exact hk.elim
    | cons t ts =>
      obtain ⟨h1, h2, h3, h4, -⟩ := hk
      subst hp
      have hpl2 : r.reverse.length ≤ 1000000 := by simp at hpl ⊢; omega
      refine (Undo_yes hB hb hpl2 (by omega) (by omega) (okAt_big P _ rfl (by omega) (by omega) x.f1 0 (Int.le_refl 0) h1 (by omega) (by omega))).mono ?_
      rintro e w' ⟨Vr, Va', Vb', Vl', n', rfl, -, g1, g2, g3⟩
      exact ⟨Vr, true, rfl, Va', Vb', Vl', n', g1, g2, g3⟩
structure Iv (m kP kS : Nat) (P : List Pc) (past fut : List St) (ts : List (List UInt8)) : Prop where
  t : (tx P).length ≤ m
  p : P.length ≤ kP
  a : past.length ≤ kS
  f : fut.length ≤ kS
  b : back m (tx P) past.reverse ts
theorem Iv.splice {m kP kS : Nat} {P : List Pc} {past fut : List St} {ts : List (List UInt8)} (h : Iv m kP kS P past fut ts) (e : X) (hz : e.f2.size ≤ 100) (hk : kS < 1000) (hm : 1 ≤ m) : ∃ ts', Iv (m + 100) (kP + 2) (kS + 1) (sP P e) (sPa P past e) (sFu P fut e) ts' := by
  unfold sP sPa sFu
  by_cases hr : okR P e
  · rw [if_pos hr, if_pos hr, if_pos hr]
    unfold okR at hr
    have ha := h.a
    have hR := rt_R (tx P).length [e] 0 (Int.le_refl 0) hr
    have hfo : fo (tx P) [e] = Ed.ap (tx P) 0 (tL [e]) := Ed.foldr_ap _ (tx P) rfl _ hR
    have hal := Ed.ap_len _ (tx P) rfl (tL [e]) 0 (Nat.zero_le _) hR
    have hsz : Ed.sz (tL [e]) = e.f2.size := by simp [tL, Ed.sz, tE]
    have ht := h.t
    have hd := (dos_len P (tx P).length [e] 0 hr).1
    have hpp := h.p
    have e1 : tx (dosP P [e]) = fo (tx P) [e] := tx_dos P [e]
    have hbk := back_push (m := m + 100) P [e] past.reverse ts (back_mono (by omega) h.b) hr (by omega) (by simp) (by omega)
    rw [trim_short _ (by simp; omega)]
    refine ⟨_, ⟨by rw [e1, hfo]; omega, by simp at hd; omega, by simp; omega, by simp, by rw [e1, List.reverse_append]; exact hbk⟩⟩
  · rw [if_neg hr, if_neg hr, if_neg hr]
    exact ⟨ts, ⟨by have := h.t; omega, by have := h.p; omega, by have := h.a; omega, by have := h.f; omega, back_mono (by omega) h.b⟩⟩
theorem Iv.undo {m kP kS : Nat} {P : List Pc} {past fut : List St} {ts : List (List UInt8)} (h : Iv m kP kS P past fut ts) (hk : kS < 1000) : ∃ ts', Iv m (kP + 2 * m) (kS + 1) (uP P past) (uPa past) (uFu past fut) ts' := by
  unfold uP uPa uFu
  have hb := h.b
  cases hr : past.reverse with
  | nil =>
    obtain rfl : past = [] := by simpa using hr
    exact ⟨ts, ⟨h.t, by have := h.p; dsimp only; omega, by simp, by have := h.f; dsimp only; omega, by rw [hr] at hb; exact hb⟩⟩
  | cons x r =>
    rw [hr] at hb
    cases ts with
    | nil => exact hb.elim
    | cons t ts =>
      obtain ⟨h1, h2, h3, h4, h5, h6, h7, h8, h9, h10⟩ := hb
      have e1 : tx (dosP P x.f1) = t := by rw [tx_dos]; exact h4
      have hd := (dos_len P _ x.f1 0 h1).1
      have hl : past.length = r.length + 1 := by rw [← List.length_reverse, hr]; rfl
      have ha := h.a
      have hf := h.f
      have hp := h.p
      refine ⟨ts, ⟨by rw [e1]; exact h5, by dsimp only; omega, by simp; omega, ?_, by rw [e1]; simpa using h10⟩⟩
      dsimp only
      unfold trim
      simp only [List.length_drop, List.length_append, List.length_singleton]
      omega
/-- Two buffers, apart. -/
theorem Ev.other {w w' : World} {base ga gb : Nat} {Vpa Vfa Vla Vpb Vfb Vlb : Value} {na nb : Int} {P P' Q : List Pc} {past fut past' fut' pq fq : List St} (hA : Bf w base ga Vpa Vfa Vla na P past fut) (hB : Bf w base gb Vpb Vfb Vlb nb Q pq fq) (hd : ∀ i, foot ga Vpa Vfa i → ¬ foot gb Vpb Vfb i) (h : Ev w base ga Vpa Vfa P' past' fut' w') :
    ∃ Vp' Vf' Vl' n', Bf w' base ga Vp' Vf' Vl' n' P' past' fut' ∧ Bf w' base gb Vpb Vfb Vlb nb Q pq fq ∧ (∀ i, foot ga Vp' Vf' i → ¬ foot gb Vpb Vfb i) ∧ Fr (foot ga Vpa Vfa) w w' := by
  obtain ⟨Vp', Vf', Vl', n', h1, h2, h3⟩ := h
  refine ⟨Vp', Vf', Vl', n', h1, hB.apart h2 (fun i hi hS => hd i hS hi) (fun i hi => hA.foot_typed i hi), fun i hi hb => ?_, h2⟩
  rcases h3 i hi with h | h
  · exact hd i h hb
  · have := (hB.foot_lt i hb).1; omega
end Go.Proofs.Ytpghnadlekafpaa.PBuf
