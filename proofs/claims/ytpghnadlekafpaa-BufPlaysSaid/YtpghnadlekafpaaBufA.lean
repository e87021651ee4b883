/- A step taken from a stack. -/
import Derived.Test.YtpghnadlekafpaaBuf9
namespace Go.Proofs.Ytpghnadlekafpaa.PBuf
open Go.RowKit Go.Proofs.YtpghnadlekafpaaW.PrintWords Go.Proofs.YtpghnadlekafpaaW.PrintLast Go.Proofs.YtpghnadlekafpaaW.PrintMore
set_option linter.unusedVariables false
set_option linter.unusedSimpArgs false
theorem Q_last {w : World} {base m c : Nat} {ok : Nat → Prop} {A : Option Addr} {ys : List St} {x : St} (h : Kd.Q kS 63 w base ok (.slice A m c) (ys ++ [x])) : ∃ ad va vb, A = some ad ∧ w.cell? (ad.add (ys.length * 2)) = some va ∧ w.cell? ⟨(ad.add (ys.length * 2)).block, (ad.add (ys.length * 2)).off + 1, none⟩ = some vb ∧ kS.M w base (fun k => ok k ∧ some k ≠ (Value.slice A m c).ownBlock) x [va, vb] := by
  obtain ⟨hm, _, _⟩ := Kd.Q_reads' h
  subst hm
  obtain ⟨h0, inner, hq, hr⟩ := h
  obtain ⟨ad, e, hc⟩ := q_cells hq (by simp)
  have hx := hr.2 ys.length x (by simp)
  rw [show kS.sz = 2 from rfl] at hx
  obtain ⟨va, vb, hcs, _, _⟩ := k63_openM hx
  have hget : ∀ i, i < 2 → inner[ys.length * 2 + i]? = [va, vb][i]? := by
    intro i hi
    rw [← hcs, List.getElem?_take, if_pos hi, List.getElem?_drop]
  refine ⟨ad, va, vb, e, hc _ _ (by have := hget 0 (by omega); simpa using this), ?_, by rw [hcs] at hx; exact hx⟩
  rw [← add_field _ _ 1 (by omega)]
  exact hc _ _ (hget 1 (by omega))
set_option maxHeartbeats 4000000 in
set_option maxRecDepth 100000 in
theorem pop_none {w : World} {g t : Nat} {cs : Array Value} (j : Nat) {A : Option Addr} {c : Nat} (hc : w.heap[g]? = some (.cells cs t (0, 0))) (hj : cs[j]? = some (.slice A 0 c)) :
    Calls Try.prog 24 #[.pointer (some ⟨g, j, none⟩)] w fun e w' => e = .returned (.tuple #[.agg #[.slice none 0 0, .slice none 0 0], .bool false]) ∧ Below w.heap.size w w' := by
  have cg : w.cell? ⟨g, j, none⟩ = some (.slice A 0 c) := (blk_cell hc j).trans hj
  have hlt := blk_lt hc
  have ng1 : (w.heap.size = g) = False := eq_false (by omega)
  have ng2 : (g = w.heap.size) = False := eq_false (by omega)
  have ng3 : (w.heap.size + 1 = g) = False := eq_false (by omega)
  have ng4 : (g = w.heap.size + 1) = False := eq_false (by omega)
  have cg1 : (w.alloc (.cells #[.slice none 0 0, .slice none 0 0] 63)).cell? ⟨g, j, none⟩ = some (.slice A 0 c) := (blk_cell (blk_alloc hc _) j).trans hj
  have cg2 : ((w.alloc (.cells #[.slice none 0 0, .slice none 0 0] 63)).alloc (.cells #[.slice none 0 0, .slice none 0 0] 63)).cell? ⟨g, j, none⟩ = some (.slice A 0 c) := (blk_cell (blk_alloc (blk_alloc hc _) _) j).trans hj
  have HC := Aside0.mk hc
  clear hc hj hlt
  go_enter Try.func24, Try.ntmps24
  go_wp2
  refine bodyPost_ret (v := .tuple #[.agg #[.slice none 0 0, .slice none 0 0], .bool false]) ?_ rfl ⟨rfl, below_alloc (below_alloc (Below.refl _ _) _) _⟩
  simp [results, Try.results24, go_sem]
theorem Q_fr {w w' : World} {base g t : Nat} {cs : Array Value} {ok : Nat → Prop} {V : Value} {xs : List St} (h : Kd.Q kS 63 w base ok V xs) (hc : w.heap[g]? = some (.cells cs t (0, 0))) (ht : t ≠ 63 ∧ t ≠ 40) (hf : Fr (fun i => i = g) w w') : Kd.Q kS 63 w' base ok V xs :=
  Kd.Q_mono (Kd.Q_step (Kd.Q_types h hc (fun q hq => by rw [show kS.E = [40, 40] from rfl] at hq; simp at hq; rcases hq with rfl | rfl; exact fun h => ht.1 h.symm; exact fun h => ht.2 h.symm)) (fun k hk hlt => hf.block k hlt hk.2)) (fun _ hk => hk.1)
theorem M_fr {w w' : World} {base g t : Nat} {cs cx : List Value} {ca : Array Value} {ok : Nat → Prop} {x : St} (h : kS.M w base ok x cx) (hc : w.heap[g]? = some (.cells ca t (0, 0))) (ht : t ≠ 63 ∧ t ≠ 40) (hf : Fr (fun i => i = g) w w') : kS.M w' base ok x cx :=
  kS.M_mono (fun _ hk => hk.1) (Kd.M_step (Kd.M_types h hc (fun q hq => by rw [show kS.E = [40, 40] from rfl] at hq; simp at hq; rcases hq with rfl; exact fun h => ht.2 h.symm)) (fun k hk hlt => hf.block k hlt hk.2))
set_option maxHeartbeats 4000000 in
set_option maxRecDepth 100000 in
theorem pop_some {w : World} {base g t : Nat} {cs : Array Value} (j : Nat) {V : Value} {ys : List St} {x : St} {ok : Nat → Prop} (hc : w.heap[g]? = some (.cells cs t (0, 0))) (hj : cs[j]? = some V) (ht : t ≠ 63 ∧ t ≠ 40) (hQ : Kd.Q kS 63 w base ok V (ys ++ [x])) (hl : ys.length ≤ 1000000) :
    Calls Try.prog 24 #[.pointer (some ⟨g, j, none⟩)] w fun e w' => ∃ va vb, e = .returned (.tuple #[.agg #[va, vb], .bool true]) ∧ kS.M w' base (fun k => ok k ∧ some k ≠ V.ownBlock) x [va, vb] ∧ ∃ V', w'.heap[g]? = some (.cells (cs.setIfInBounds j V') t (0, 0)) ∧ Kd.Q kS 63 w' base ok V' ys ∧ V'.ownBlock = V.ownBlock ∧ Fr (fun i => i = g) w w' := by
  obtain ⟨A, c, rfl, hlc, -⟩ := Kd.Q_reads hQ
  obtain ⟨m, hm⟩ : ∃ m, (ys ++ [x]).length = m := ⟨_, rfl⟩
  rw [hm] at hj hQ hlc
  have hm2 : m = ys.length + 1 := by rw [← hm]; simp
  obtain ⟨ad, va, vb, rfl, hx0, hx1, hM⟩ := Q_last hQ
  obtain ⟨v0, v1, hcs, r0, r1⟩ := k63_openM hM
  obtain ⟨rfl, rfl⟩ : va = v0 ∧ vb = v1 := by injection hcs with h1 h2; injection h2 with h2 _; exact ⟨h1, h2⟩
  obtain ⟨a0, c0, rfl, -⟩ := R_slice0 r0
  obtain ⟨a1, c1, rfl, -⟩ := R_slice0 r1
  clear r0 r1 hcs
  obtain ⟨va, hva⟩ : ∃ va, va = Value.slice a0 x.f0.length c0 := ⟨_, rfl⟩
  obtain ⟨vb, hvb⟩ : ∃ vb, vb = Value.slice a1 x.f1.length c1 := ⟨_, rfl⟩
  have ew : wrap64 ((m : Int) - 1) = (ys.length : Int) := by unfold wrap64; omega
  have ewn : (wrap64 ((m : Int) - 1)).toNat = ys.length := by rw [ew]; exact Int.toNat_natCast _
  have hlt := blk_lt hc
  have ng1 : (w.heap.size = g) = False := eq_false (by omega)
  have ng2 : (g = w.heap.size) = False := eq_false (by omega)
  have ng3 : (w.heap.size + 1 = g) = False := eq_false (by omega)
  have ng4 : (g = w.heap.size + 1) = False := eq_false (by omega)
  obtain ⟨W2, hW2⟩ : ∃ W2, W2 = (w.alloc (.cells #[.slice none 0 0, .slice none 0 0] 63)).alloc (.cells #[.slice none 0 0, .slice none 0 0] 63) := ⟨_, rfl⟩
  have hb2 : Below w.heap.size w W2 := by rw [hW2]; exact below_alloc (below_alloc (Below.refl _ _) _) _
  have cg2 : W2.cell? ⟨g, j, none⟩ = some (.slice (some ad) m c) := (blk_cell (blk_below hc hb2) j).trans hj
  have cx0 : W2.cell? (ad.add ((wrap64 ((m : Int) - 1)).toNat * 2)) = some (.slice a0 x.f0.length c0) := by rw [ewn]; exact (hb2.cell (World.block_lt_of_cell? w _ hx0)).trans hx0
  have cx1 : W2.cell? ⟨(ad.add ((wrap64 ((m : Int) - 1)).toNat * 2)).block, (ad.add ((wrap64 ((m : Int) - 1)).toNat * 2)).off + 1, none⟩ = some (.slice a1 x.f1.length c1) := by rw [ewn]; exact (hb2.cell (World.block_lt_of_cell? w _ hx1)).trans hx1
  have cgf2 := blk_frozen (blk_below hc hb2) j
  rw [hW2] at cg2 cx0 cx1 cgf2
  obtain ⟨W3, hW3⟩ : ∃ W3, W3 = (w.alloc (.cells #[.slice none 0 0, .slice none 0 0] 63)).alloc (.cells #[.slice a0 x.f0.length c0, .slice a1 x.f1.length c1] 63) := ⟨_, rfl⟩
  have hb3 : Below w.heap.size w W3 := by rw [hW3]; exact below_alloc (below_alloc (Below.refl _ _) _) _
  have cg3 : W3.cell? ⟨g, j, none⟩ = some (.slice (some ad) m c) := (blk_cell (blk_below hc hb3) j).trans hj
  have cgf3 := blk_frozen (blk_below hc hb3) j
  rw [hW3] at cg3 cgf3
  have HW3 := Aside0.mk hW3
  have HB3 := Aside0.mk hb3
  clear hW3 hb3
  have d0 : decide (wrap64 ((m : Int) - 1) < 0) = false := decide_eq_false (by rw [ew]; omega)
  have s0 : decide (0 ≤ wrap64 ((m : Int) - 1)) = true := decide_eq_true (by rw [ew]; omega)
  have s1 : (0 ≤ wrap64 ((m : Int) - 1)) = True := eq_true (by rw [ew]; omega)
  have s2 : decide (wrap64 ((m : Int) - 1) < (m : Int)) = true := decide_eq_true (by rw [ew]; omega)
  have s3 : (wrap64 ((m : Int) - 1) < (m : Int)) = True := eq_true (by rw [ew]; omega)
  have s4 : decide (wrap64 ((m : Int) - 1) ≤ (c : Int)) = true := decide_eq_true (by rw [ew]; omega)
  have s5 : (wrap64 ((m : Int) - 1) ≤ (c : Int)) = True := eq_true (by rw [ew]; omega)
  have HC := Aside0.mk hc
  have HQ := Aside0.mk hQ
  have HM := Aside0.mk hM
  have HT := Aside0.mk ht
  have HW2 := Aside0.mk hW2
  have HB2 := Aside0.mk hb2
  have HLT := Aside0.mk hlt
  have EWN := Aside0.mk ewn
  have HMM := Aside0.mk hm2
  clear hc hj hQ hlc hm hm2 hx0 hx1 hM ew ewn hlt hW2 hva hvb va vb hb2 hl ht
  go_enter Try.func24, Try.ntmps24
  go_wp2
  obtain ⟨V2, hV2⟩ : ∃ V2, V2 = Value.slice (some ad) (wrap64 ((m : Int) - 1)).toNat c := ⟨_, rfl⟩
  have hq := Kd.Q_take (m := ys.length) HQ.out (by simp)
  rw [List.take_left' rfl] at hq
  rw [← EWN.out, ← hV2] at hq
  have hlt := HLT.out
  have hw3 := HW3.out
  have hb3 := HB3.out
  have SB3 : W3.heap[w.heap.size]? = some (.cells #[.slice none 0 0, .slice none 0 0] 63 (0, 0)) := by rw [hw3]; exact blk_alloc (blk_new _ _) _
  rw [← hw3, ← hV2]
  obtain ⟨WF, hWF⟩ : ∃ WF, WF = (((W3.setCell ⟨g, j, none⟩ V2).setCell ⟨w.heap.size, 0, none⟩ (.slice a0 x.f0.length c0)).setCell ⟨w.heap.size, 1, none⟩ (.slice a1 x.f1.length c1)) := ⟨_, rfl⟩
  have GBf : WF.heap[g]? = some (.cells (cs.setIfInBounds j V2) t (0, 0)) := by
    rw [hWF]
    exact blk_far (p := ⟨w.heap.size, 1, none⟩) (blk_far (p := ⟨w.heap.size, 0, none⟩) (blk_put (blk_below HC.out hb3) j V2 rfl) (by show g ≠ w.heap.size; omega) (.slice a0 x.f0.length c0)) (by show g ≠ w.heap.size; omega) (.slice a1 x.f1.length c1)
  have SBf : WF.heap[w.heap.size]? = some (.cells #[.slice a0 x.f0.length c0, .slice a1 x.f1.length c1] 63 (0, 0)) := by
    rw [hWF]
    exact blk_put (blk_put (blk_far (p := ⟨g, j, none⟩) SB3 (by show w.heap.size ≠ g; omega) V2) 0 (.slice a0 x.f0.length c0) rfl) 1 (.slice a1 x.f1.length c1) rfl
  have hf : Fr (fun i => i = g) w WF := by
    rw [hWF]
    have f := fun (W : World) (p : Addr) (u : Value) (h : p.block = g ∨ w.heap.size ≤ p.block) (k : Fr (fun i => i = g ∨ w.heap.size ≤ i) w W) => k.trans (Fr.set (S := fun i => i = g ∨ w.heap.size ≤ i) p u h) (fun i _ hi => hi)
    have k0 : Fr (fun i => i = g ∨ w.heap.size ≤ i) w W3 := Fr.of_below hb3
    exact (f _ ⟨w.heap.size, 1, none⟩ _ (.inr (Nat.le_refl _)) (f _ ⟨w.heap.size, 0, none⟩ _ (.inr (Nat.le_refl _)) (f _ ⟨g, j, none⟩ _ (.inl rfl) k0))).mono (fun i hi h => h.elim id (fun h2 => by omega))
  have k0 : WF.cell? ⟨w.heap.size, 0, none⟩ = some (.slice a0 x.f0.length c0) := (blk_cell SBf 0).trans rfl
  have k1 : WF.cell? ⟨w.heap.size, 1, none⟩ = some (.slice a1 x.f1.length c1) := (blk_cell SBf 1).trans rfl
  rw [← hWF]
  refine bodyPost_ret (v := .tuple #[.agg #[.slice a0 x.f0.length c0, .slice a1 x.f1.length c1], .bool true]) ?_ rfl ?_
  · simp [results, Try.results24, go_sem, k0, k1]
  · exact ⟨_, _, rfl, M_fr (cs := []) HM.out HC.out HT.out hf, V2, GBf, Q_fr hq HC.out HT.out hf, by rw [hV2]; rfl, hf⟩
end Go.Proofs.Ytpghnadlekafpaa.PBuf
