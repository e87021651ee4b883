/- What is lean of right edits: over plain lists (EditsCompose's part of it). -/
import Derived.Test.YtgdkdamikcnjhaaEditsCL
namespace Go.Proofs.Ytgdkdamikcnjhaa.PEditsC
open Go.RowKit Go.Proofs.YtgdkdamikcnjhaaW.PrintWords Go.Proofs.YtgdkdamikcnjhaaW.PrintLast
set_option linter.unusedVariables false
set_option linter.unusedSimpArgs false
theorem lnL_cons (s : ByteArray) (e : X) (l : List X) : lnL s (e :: l) = if br s e = true then lnL s l else ln s e :: lnL s l := by
  unfold lnL
  cases h : br s e with
  | true => rw [List.filter_cons_of_neg (by simp [h])]; rfl
  | false => rw [List.filter_cons_of_pos (by simp [h])]; rfl
theorem lnL_len (s : ByteArray) (l : List X) : (lnL s l).length ≤ l.length := by
  unfold lnL
  rw [List.length_map]
  exact List.length_filter_le _ _
theorem ln_in (s : ByteArray) (e : X) (h0 : 0 ≤ e.f0) (h1 : e.f0 ≤ e.f1) (h2 : e.f1 ≤ s.size) : e.f0 ≤ (ln s e).f0 ∧ (ln s e).f0 ≤ (ln s e).f1 ∧ (ln s e).f1 ≤ e.f1 ∧ (ln s e).f0 = e.f0 + (lnN s e : Int) ∧ (ln s e).f2.size ≤ e.f2.size := by
  obtain ⟨c, m, d, x, g1, g2, g3, g4, g5, g6, g7, g8⟩ := ln_spec s e h0 h1 h2
  have e0 : (ln s e).f0 = e.f0 + (c.length : Int) := by rw [g3]; rfl
  have e1 : (ln s e).f1 = e.f1 - (d.length : Int) := by rw [g4]; rfl
  have e2 : (ln s e).f2.size = x.length := by rw [← B_size, g5]
  have e3 : e.f2.size = c.length + x.length + d.length := by rw [← B_size, g2]; simp; omega
  refine ⟨by omega, by omega, by omega, rfl, by omega⟩
theorem lnL_rt (s : ByteArray) : ∀ (l : List X) (a b : Int), 0 ≤ a → rt s.size a l = true → b ≤ a → rt s.size b (lnL s l) = true := by
  intro l
  induction l with
  | nil => intro a b _ _ _; rfl
  | cons e l ih =>
    intro a b ha h hb
    obtain ⟨h1, h2, h3, h4⟩ := rt_cons h
    rw [lnL_cons]
    cases br s e with
    | true => rw [if_pos rfl]; exact ih e.f1 b (by omega) h4 (by omega)
    | false =>
      rw [if_neg (by simp)]
      obtain ⟨k1, k2, k3, _⟩ := ln_in s e (by omega) h2 h3
      simp only [rt]
      rw [if_neg (by omega), if_neg (by omega), if_neg (by omega)]
      exact ih e.f1 _ (by omega) h4 (by omega)
theorem lnL_foldr (s : ByteArray) : ∀ (l : List X) (a : Int), 0 ≤ a → rt s.size a l = true → (tL (lnL s l)).foldr Ed.st (B s) = (tL l).foldr Ed.st (B s) := by
  intro l
  induction l with
  | nil => intro a _ _; rfl
  | cons e l ih =>
    intro a ha h
    obtain ⟨h1, h2, h3, h4⟩ := rt_cons h
    have ihe := ih e.f1 (by omega) h4
    have hR := rt_R s.size l e.f1 (by omega) h4
    have hy := Ed.foldr_st s.size (B s) (B_size s) (tL l) e.f1.toNat (by omega) hR
    have hcons : (tL (e :: l)).foldr Ed.st (B s) = Ed.st (tE e) ((tL l).foldr Ed.st (B s)) := rfl
    have hylen : e.f1.toNat ≤ ((tL l).foldr Ed.st (B s)).length := by
      rw [hy, List.length_append, List.length_take, B_size]; omega
    have hyt : ((tL l).foldr Ed.st (B s)).take e.f1.toNat = (B s).take e.f1.toNat := by
      rw [hy, List.take_append_of_le_length (by rw [List.length_take, B_size]; omega), List.take_take, Nat.min_self]
    have hseg : (((tL l).foldr Ed.st (B s)).drop e.f0.toNat).take (e.f1.toNat - e.f0.toNat) = ((B s).drop e.f0.toNat).take (e.f1.toNat - e.f0.toNat) := by
      rw [← List.drop_take, ← List.drop_take, hyt]
    have hext : ((B s).drop e.f0.toNat).take (e.f1.toNat - e.f0.toNat) = B (s.extract e.f0.toNat e.f1.toNat) := (B_ext _ _ _).symm
    generalize (tL l).foldr Ed.st (B s) = y at *
    rw [lnL_cons, hcons]
    obtain ⟨c, m, d, x, g1, g2, g3, g4, g5, g6, g7, g8⟩ := ln_spec s e (by omega) h2 h3
    cases hbr : br s e with
    | true =>
      rw [if_pos rfl, ihe]
      unfold br at hbr
      have hbr' := of_decide_eq_true hbr
      simp only [Ed.st, tE]
      rw [← hbr', ← hext, ← hseg, Ed.take_seg y _ _ (by omega), List.take_append_drop]
    | false =>
      rw [if_neg (by simp)]
      have hc2 : (tL (ln s e :: lnL s l)).foldr Ed.st (B s) = Ed.st (tE (ln s e)) ((tL (lnL s l)).foldr Ed.st (B s)) := rfl
      rw [hc2, ihe]
      have hst := (st_lean y e.f0.toNat e.f1.toNat c m d x (B e.f2) (by omega) hylen (by rw [hseg, hext, g1]) g2).1
      have e0 : (ln s e).f0.toNat = e.f0.toNat + c.length := by simp only [ln]; rw [g3]; omega
      have e1 : (ln s e).f1.toNat = e.f1.toNat - d.length := by simp only [ln]; rw [g4]; omega
      simp only [tE]
      rw [e0, e1, g5]
      exact hst
theorem refLean_true (s : ByteArray) (e : X) (hs : s.size ≤ 1000000) (he : e.f2.size ≤ 1000000) (h0 : 0 ≤ e.f0) (h1 : e.f0 ≤ e.f1) (h2 : e.f1 ≤ s.size) (hb : br s e = false) : frisketref01_Lean.f s (ln s e).f0 (ln s e).f1 (ln s e).f2 = some true := by
  obtain ⟨k1, k2, k3, k4, k5⟩ := ln_in s e h0 h1 h2
  obtain ⟨c, m, d, x, g1, g2, g3, g4, g5, g6, g7, g8⟩ := ln_spec s e h0 h1 h2
  unfold frisketref01_Lean.f
  rw [if_pos ⟨by omega, k2, by omega, by omega, by omega⟩]
  have hnb : ¬ (m = [] ∧ x = []) := by
    rintro ⟨rfl, rfl⟩
    unfold br at hb
    have := of_decide_eq_false hb
    exact this (by rw [g1, g2])
  have hbt : ∀ (b : ByteArray) (i : Nat), i < b.size → ∃ z : UInt8, (B b)[i]? = some z ∧ bt b (i : Int) = (z.toNat : Int) := by
    intro b i hi
    refine ⟨b[i], ?_, (bt_at b (i : Int) hi).symm⟩
    have : i < (B b).length := by rw [B_size]; exact hi
    rw [List.getElem?_eq_getElem this]
    rfl
  generalize s.extract (ln s e).f0.toNat (ln s e).f1.toNat = o at *
  generalize (ln s e).f2 = w at *
  have so : o.size = m.length := by rw [← B_size, g6]
  have sw : w.size = x.length := by rw [← B_size, g5]
  unfold frisketref01_Lean.v
  by_cases hz : o.size = 0 ∨ w.size = 0
  · rw [if_pos hz]
    have : 0 < o.size + w.size := by
      rcases Nat.eq_zero_or_pos (o.size + w.size) with h | h
      · exact absurd ⟨List.length_eq_zero_iff.1 (by omega), List.length_eq_zero_iff.1 (by omega)⟩ hnb
      · exact h
    rw [decide_eq_true this]
  · rw [if_neg hz]
    have hm : m ≠ [] := by intro h; rw [h] at so; exact hz (Or.inl so)
    have hx : x ≠ [] := by intro h; rw [h] at sw; exact hz (Or.inr sw)
    have hg : m[0]? ≠ x[0]? ∧ m[m.length - 1]? ≠ x[x.length - 1]? := by
      rcases g7 with g7 | g7 | g7
      · exact absurd g7 hm
      · exact absurd g7 hx
      · exact g7
    obtain ⟨z1, a1, b1⟩ := hbt o 0 (by omega)
    obtain ⟨z2, a2, b2⟩ := hbt w 0 (by omega)
    obtain ⟨z3, a3, b3⟩ := hbt o (o.size - 1) (by omega)
    obtain ⟨z4, a4, b4⟩ := hbt w (w.size - 1) (by omega)
    rw [g6] at a1 a3
    rw [g5] at a2 a4
    rw [so] at a3
    rw [sw] at a4
    have n1 : z1 ≠ z2 := by intro h; exact hg.1 (by rw [a1, a2, h])
    have n2 : z3 ≠ z4 := by intro h; exact hg.2 (by rw [a3, a4, h])
    have i1 : (o.size : Int) - 1 = ((o.size - 1 : Nat) : Int) := by omega
    have i2 : (w.size : Int) - 1 = ((w.size - 1 : Nat) : Int) := by omega
    have c0 : ((0 : Nat) : Int) = 0 := rfl
    rw [c0] at b1 b2
    rw [i1, i2, b1, b2, b3, b4]
    have t : ∀ u v : UInt8, u ≠ v → ((u.toNat : Int) != (v.toNat : Int)) = true := by
      intro u v h
      rw [bne_iff_ne]
      intro h2
      exact h (UInt8.toNat_inj.1 (Int.ofNat.inj h2))
    rw [t _ _ n1, t _ _ n2]
    rfl
end Go.Proofs.Ytgdkdamikcnjhaa.PEditsC
