/- EditsLean's plain law: its loop over the edits and what is left of them. -/
import Derived.Test.YtgdkdamikcnjhaaEditsML2
import Derived.Test.YtgdkdamikcnjhaaPEditsMx6
namespace Go.Proofs.Ytgdkdamikcnjhaa.PEditsM
open Go.RowKit Go.Proofs.YtgdkdamikcnjhaaW.PrintWords Go.Proofs.YtgdkdamikcnjhaaW.PrintLast
set_option linter.unusedVariables false
set_option linter.unusedSimpArgs false
/-- The inner loop: how many bytes are the same at the beginning; then the outer one goes on. -/
theorem EL_l1 (s : ByteArray) (l m : List X) (x7 x8 x10 : Int) (o : ByteArray) (k : Nat) (h8 : 0 ≤ x8) (h8' : x8 < l.length) (ho : o.size ≤ 1000000) (hw : (rd_T36 l x8).f2.size ≤ 1000000) : ∀ (d i : Nat), edits_lean.pre ((B o).drop i) ((B (rd_T36 l x8).f2).drop i) = d →
    frisketlaw01_EditsLean.l1 (2 * d + 2 + k) s l m x7 x8 o x10 (i : Int) = (if x10 = ((i + d : Nat) : Int) then frisketlaw01_EditsLean.l0 k s l m (wrap64 (x7 + 1)) (wrap64 (x8 + 1)) else some false) := by
  have hbt : ∀ (b : ByteArray) (i : Nat) (hi : i < (B b).length), bt b (i : Int) = (((B b)[i]).toNat : Int) := by
    intro b i hi
    have hi' : i < b.size := by rw [← B_size]; exact hi
    exact (bt_at b (i : Int) hi').symm
  generalize hW : (rd_T36 l x8).f2 = w at hw
  intro d
  induction d with
  | zero =>
    intro i hd
    rw [show 2 * 0 + 2 + k = k + 1 + 1 from by omega]
    have hj5 : frisketlaw01_EditsLean.j5 (k + 1) s l m x7 x8 o x10 (i : Int) false = (if x10 = ((i + 0 : Nat) : Int) then frisketlaw01_EditsLean.l0 k s l m (wrap64 (x7 + 1)) (wrap64 (x8 + 1)) else some false) := by
      simp only [frisketlaw01_EditsLean.j5]
      rw [if_neg (by simp)]
      rfl
    rw [frisketlaw01_EditsLean.l1.eq_2, hW]
    by_cases c1 : (i : Int) < (o.size : Int)
    · rw [if_pos c1, if_pos h8, if_pos h8']
      by_cases c2 : (i : Int) < (w.size : Int)
      · have e1 : i < (B o).length := by rw [B_size]; omega
        have e2 : i < (B w).length := by rw [B_size]; omega
        have hne : (B o)[i] ≠ (B w)[i] := by
          intro he
          have := edits_lean.pre_step (B o) (B w) i e1 e2 he
          omega
        rw [if_pos c2, if_pos (by omega), hbt o i e1, hbt w i e2]
        have : ((((B o)[i]).toNat : Int) == (((B w)[i]).toNat : Int)) = false := by
          rw [beq_eq_false_iff_ne]
          intro h
          exact hne (UInt8.toNat_inj.1 (Int.ofNat.inj h))
        rw [this, hj5]
      · rw [if_neg c2, hj5]
    · rw [if_neg c1, hj5]
  | succ d ih =>
    intro i hd
    have e1 : i < (B o).length := by
      rcases Nat.lt_or_ge i (B o).length with h | h
      · exact h
      · have := edits_lean.pre_end (B o) (B w) i (Or.inl h); omega
    have e2 : i < (B w).length := by
      rcases Nat.lt_or_ge i (B w).length with h | h
      · exact h
      · have := edits_lean.pre_end (B o) (B w) i (Or.inr h); omega
    have heq : (B o)[i] = (B w)[i] := by
      rcases Classical.em ((B o)[i] = (B w)[i]) with h | h
      · exact h
      · have := edits_lean.pre_stop (B o) (B w) i e1 e2 h; omega
    have hd' : edits_lean.pre ((B o).drop (i + 1)) ((B w).drop (i + 1)) = d := by
      have := edits_lean.pre_step (B o) (B w) i e1 e2 heq
      omega
    have s1 := e1
    have s2 := e2
    rw [B_size] at s1 s2
    rw [show 2 * (d + 1) + 2 + k = (2 * d + 2 + k) + 1 + 1 from by omega, frisketlaw01_EditsLean.l1.eq_2, hW]
    rw [if_pos (by omega), if_pos h8, if_pos h8', if_pos (by omega), if_pos (by omega), hbt o i e1, hbt w i e2, heq]
    rw [show ((((B w)[i]).toNat : Int) == (((B w)[i]).toNat : Int)) = true from beq_self_eq_true _, frisketlaw01_EditsLean.j5.eq_2, if_pos rfl]
    have hw6 : wrap64 ((i : Int) + 1) = ((i + 1 : Nat) : Int) := by rw [w64 _ (by omega) (by omega)]; omega
    rw [hw6, ih (i + 1) hd', show i + 1 + d = i + (d + 1) from by omega]
theorem EL_l0 (s : ByteArray) (hs : s.size ≤ 1000000) : ∀ (q p mp : List X) (a : Int), (p ++ q).length ≤ 4398046511103 → mp.length ≤ p.length → 0 ≤ a → rt s.size a q = true → (∀ e ∈ q, e.f2.size ≤ 1000000) →
    ∃ K, ∀ k, K ≤ k → frisketlaw01_EditsLean.l0 k s (p ++ q) (mp ++ lnL s q) (mp.length : Int) (p.length : Int) = some true := by
  intro q
  induction q with
  | nil =>
    intro p mp a hb hmp ha _ _
    refine ⟨20, fun k hk => ?_⟩
    obtain ⟨k, rfl⟩ : ∃ j, k = j + 1 := ⟨k - 1, by omega⟩
    rw [frisketlaw01_EditsLean.l0.eq_2, if_neg (by simp), if_pos (by simp [lnL]), awake_eq k (by omega)]
    rfl
  | cons e q ih =>
    intro p mp a hb hmp ha h hz
    obtain ⟨h1, h2, h3, h4⟩ := rt_cons h
    have hl := mid_len p e q
    have hze := hz e List.mem_cons_self
    have hrd : rd_T36 (p ++ e :: q) (p.length : Int) = e := rd_mid p e q
    have w6 : wrap64 ((p.length : Int) + 1) = ((p ++ [e]).length : Int) := by rw [w64 _ (by omega) (by omega), snoc_len]
    rw [lnL_cons]
    cases hbr : br s e with
    | true =>
      obtain ⟨K, hK⟩ := ih (p ++ [e]) mp e.f1 (by rw [← mid_assoc]; exact hb) (by simp; omega) (by omega) h4 (fun x hx => hz x (List.mem_cons_of_mem _ hx))
      refine ⟨K + 1, fun k hk => ?_⟩
      obtain ⟨k, rfl⟩ : ∃ j, k = j + 1 := ⟨k - 1, by omega⟩
      have hb1 : (s.extract e.f0.toNat e.f1.toNat).toList = e.f2.toList := by
        unfold br at hbr
        rw [ByteArray.toList_eq, ByteArray.toList_eq]
        exact of_decide_eq_true hbr
      rw [if_pos rfl, frisketlaw01_EditsLean.l0.eq_2, if_pos (by omega), if_pos (by omega), hrd, if_pos (by omega), if_pos h2, if_pos h3, if_pos hb1, w6, mid_assoc p e q]
      exact hK k (by omega)
    | false =>
      obtain ⟨K, hK⟩ := ih (p ++ [e]) (mp ++ [ln s e]) e.f1 (by rw [← mid_assoc]; exact hb) (by simp; omega) (by omega) h4 (fun x hx => hz x (List.mem_cons_of_mem _ hx))
      obtain ⟨k1, k2, k3, k4, k5⟩ := ln_in s e (by omega) h2 h3
      refine ⟨K + (2 * lnN s e + 2) + 1 + 1, fun k hk => ?_⟩
      obtain ⟨k, rfl⟩ : ∃ j, k = (2 * lnN s e + 2 + j) + 1 + 1 := ⟨k - (2 * lnN s e + 2) - 2, by omega⟩
      have hb1 : ¬ (s.extract e.f0.toNat e.f1.toNat).toList = e.f2.toList := by
        unfold br at hbr
        rw [ByteArray.toList_eq, ByteArray.toList_eq]
        exact of_decide_eq_false hbr
      rw [if_neg (by simp)]
      have hml : (mp ++ ln s e :: lnL s q).length = mp.length + (lnL s q).length + 1 := mid_len mp _ _
      have hrm : rd_T36 (mp ++ ln s e :: lnL s q) (mp.length : Int) = ln s e := rd_mid mp _ _
      rw [frisketlaw01_EditsLean.l0.eq_2, if_pos (by omega), if_pos (by omega), hrd, if_pos (by omega), if_pos h2, if_pos h3, if_neg hb1, if_neg (by omega), if_pos (by omega), if_pos (by omega), hrm, if_neg (by omega), if_neg (by omega)]
      rw [refLean_true s e hs hze (by omega) h2 h3 hbr]
      simp only [Option.bind_some, Bool.not_true]
      rw [frisketlaw01_EditsLean.j3.eq_2, if_neg (by simp), if_pos (by omega), if_pos (by omega), if_pos (by omega), if_pos (by omega), hrm, hrd]
      have hx10 : wrap64 ((ln s e).f0 - e.f0) = (lnN s e : Int) := by
        have hle : (lnN s e : Int) ≤ 1000000 := by omega
        rw [w64 _ (by omega) (by omega)]; omega
      have hosz : (s.extract e.f0.toNat e.f1.toNat).size ≤ 1000000 := by rw [ByteArray.size_extract]; omega
      have hi := EL_l1 s (p ++ e :: q) (mp ++ ln s e :: lnL s q) (mp.length : Int) (p.length : Int) (lnN s e : Int) (s.extract e.f0.toNat e.f1.toNat) k (by omega) (by omega) hosz (by rw [hrd]; exact hze) (lnN s e) 0 (by rw [hrd]; rfl)
      rw [hx10]
      have h0 : ((0 : Nat) : Int) = 0 := rfl
      rw [h0] at hi
      rw [hi, if_pos (by simp), w6]
      have w7 : wrap64 ((mp.length : Int) + 1) = ((mp ++ [ln s e]).length : Int) := by rw [w64 _ (by omega) (by omega), snoc_len]
      rw [w7, mid_assoc p e q, mid_assoc mp (ln s e) (lnL s q)]
      exact hK k (by omega)
theorem EditsLean_pure (s : ByteArray) (l : List X) (hs : s.size ≤ 140737488351232) (hb0 : l.length * 32 ≤ 140737488351232) : ∃ k, frisketlaw01_EditsLean.f k s l = some true := by
  have hb : l.length ≤ 4398046511103 := by omega
  have hj0t : ∀ k, 20 ≤ k → frisketlaw01_EditsLean.j0 k s l true = some true := by
    intro k hk
    obtain ⟨k, rfl⟩ : ∃ m, k = m + 1 := ⟨k - 1, by omega⟩
    simp only [frisketlaw01_EditsLean.j0, if_true]
    rw [awake_eq _ (by omega)]
    rfl
  by_cases c1 : (s.size : Int) > 300
  · refine ⟨40, ?_⟩
    unfold frisketlaw01_EditsLean.f
    rw [if_pos c1]; exact hj0t _ (by omega)
  cases hg : gr l with
  | true =>
    refine ⟨l.length + 40, ?_⟩
    unfold frisketlaw01_EditsLean.f
    rw [if_neg c1, Great_eq l _ (by omega) (by omega)]
    simp only [Option.bind_some]
    rw [hg]
    exact hj0t _ (by omega)
  | false =>
    obtain ⟨g1, g2⟩ := gr_len hg
    have hz := sz_le g2
    cases hr : rt s.size 0 l with
    | false =>
      refine ⟨l.length + 39 + 1, ?_⟩
      unfold frisketlaw01_EditsLean.f
      rw [if_neg c1, Great_eq l _ (by omega) (by omega)]
      simp only [Option.bind_some]
      rw [hg, frisketlaw01_EditsLean.j0.eq_2, if_neg (by simp), Lean_no s l _ (by omega) (by omega) hr]
      simp only [Option.bind_some]
      rw [refRight_eq _ _ _ (by omega) (by omega), hr]
      simp only [Option.bind_some]
      rw [if_neg (by simp), if_pos (by simp), if_pos trivial, awake_eq _ (by omega)]
      rfl
    | true =>
      obtain ⟨K, hK⟩ := EL_l0 s (by omega) l [] [] 0 (by simpa using hb) (Nat.le_refl _) (Int.le_refl 0) hr (fun e he => Nat.le_trans (g2 e he) (by omega))
      simp only [List.nil_append, List.length_nil] at hK
      refine ⟨K + l.length + 40 + 1 + 1, ?_⟩
      unfold frisketlaw01_EditsLean.f
      rw [if_neg c1, Great_eq l _ (by omega) (by omega)]
      simp only [Option.bind_some]
      rw [hg, frisketlaw01_EditsLean.j0.eq_2, if_neg (by simp), Lean_yes s l _ (by omega) (by omega) (by omega) hr (fun e he => Nat.le_trans (g2 e he) (by omega))]
      simp only [Option.bind_some]
      have hR1 := rt_R s.size l 0 (Int.le_refl 0) hr
      have hrt2 := lnL_rt s l 0 0 (Int.le_refl 0) hr (Int.le_refl 0)
      have hR2 := rt_R s.size _ 0 (Int.le_refl 0) hrt2
      have hll := lnL_len s l
      have hz2 : Ed.sz (tL (lnL s l)) ≤ 100 * (lnL s l).length := by
        refine sz_le fun e he => ?_
        unfold lnL at he
        obtain ⟨x, hx, rfl⟩ := List.mem_map.1 he
        have hx1 := (List.mem_filter.1 hx).1
        have hp := rt_pos (Int.le_refl 0) hr x hx1
        have hk := (ln_in s x hp.1 hp.2.1 hp.2.2).2.2.2.2
        have := g2 x hx1
        omega
      rw [refRight_eq _ _ _ (by omega) (by omega), hr]
      simp only [Option.bind_some, if_true]
      rw [refRight_eq _ _ _ (by omega) (by omega), hrt2]
      simp only [Option.bind_some, if_true]
      rw [refApply_eq s _ _ (by omega) (by omega) hrt2 (by omega)]
      simp only [Option.bind_some]
      rw [refApply_eq s _ _ (by omega) (by omega) hr (by omega)]
      simp only [Option.bind_some]
      have hfo := lnL_foldr s l 0 (Int.le_refl 0) hr
      rw [Ed.foldr_ap _ _ (B_size s) _ hR1, Ed.foldr_ap _ _ (B_size s) _ hR2] at hfo
      rw [hfo]
      have hne : ((⟨(Ed.ap (B s) 0 (tL l)).toArray⟩ : ByteArray).toList != (⟨(Ed.ap (B s) 0 (tL l)).toArray⟩ : ByteArray).toList) = false := bne_self_eq_false _
      rw [hne, frisketlaw01_EditsLean.j1.eq_2, if_neg (by simp)]
      exact hK _ (by omega)
end Go.Proofs.Ytgdkdamikcnjhaa.PEditsM
