/- A step put on a stack, taken from it. -/
import Derived.Test.YtpghnadlekafpaaBuf8
namespace Go.Proofs.Ytpghnadlekafpaa.PBuf
open Go.RowKit Go.Proofs.YtpghnadlekafpaaW.PrintWords Go.Proofs.YtpghnadlekafpaaW.PrintLast Go.Proofs.YtpghnadlekafpaaW.PrintMore
set_option linter.unusedVariables false
set_option linter.unusedSimpArgs false
theorem infoS : (Try.prog.info? 63).map (fun i => (i.zero, i.size, i.bytes)) = some (some (.agg #[.slice none 0 0, .slice none 0 0]), 2, 48) := by kernel_rfl
theorem below_weak {w w' : World} {B base : Nat} (h : Below B w w') (hb : base ≤ B) : Below base w w' := ⟨h.os, h.tape, h.output, h.size, fun i hi => h.block i (Nat.lt_of_lt_of_le hi hb)⟩
def trim (ys : List St) : List St := ys.drop (ys.length - 1000)
theorem trim_short (ys : List St) (h : ys.length ≤ 1000) : trim ys = ys := by unfold trim; rw [show ys.length - 1000 = 0 from by omega]; rfl
def pu1.T : Bool × List (List Nat × List Nat) := (true, [([], []), ([], []), ([1], [1]), ([2], [2]), ([3], [3]), ([], []), ([5], [5]), ([4, 6], [4, 6]), ([0, 0, 1, 2, 3, 4, 5, 6, 7], [0]), ([8, 0, 1, 2, 3, 4, 5, 6, 7], [8]), ([9, 7, 7, 0, 1, 2, 3, 4, 5, 6, 7], [7, 9])])
def pu1.B : List Nat := [0, 0, 2, 6, 14, 0, 32, 126, 255, 511, 1023]
theorem pu1.tab : rtab .any (opsOf Try.f25 1) = pu1.T := by kernel_rfl
theorem pu1.bits : waitsOk pu1.T.2 pu1.B = true := by kernel_rfl
theorem fin_ {w w9 : World} {base g t j m : Nat} {cs : Array Value} {V V1 V2 : Value} {ys : List St} {ok : Nat → Prop} (GB : w9.heap[g]? = some (.cells (cs.setIfInBounds j V1) t (0, 0))) (hd : Kd.Q kS 63 w9 base ok V2 (ys.drop (m - 1000))) (hf : Fr (fun i => i = g ∨ some i = V.ownBlock) w w9) (hm : ys.length = m) (ht : t ≠ 63 ∧ t ≠ 40) (hat : V1.ownBlock = V.ownBlock ∨ ∃ b, V1.ownBlock = some b ∧ w.heap.size ≤ b) (he : V2.ownBlock = V1.ownBlock) :
    Ending.returned (.tuple #[]) = Ending.returned (.tuple #[]) ∧ ∃ V', (w9.setCell ⟨g, j, none⟩ V2).heap[g]? = some (.cells (cs.setIfInBounds j V') t (0, 0)) ∧ Kd.Q kS 63 (w9.setCell ⟨g, j, none⟩ V2) base ok V' (trim ys) ∧ Fr (fun i => i = g ∨ some i = V.ownBlock) w (w9.setCell ⟨g, j, none⟩ V2) ∧ (V'.ownBlock = V.ownBlock ∨ ∃ b, V'.ownBlock = some b ∧ w.heap.size ≤ b) := by
  refine ⟨rfl, V2, blk_put GB j V2 (by simp), ?_, hf.trans (Fr.set (S := fun i => i = g ∨ some i = V.ownBlock) ⟨g, j, none⟩ V2 (.inl rfl)) (fun i _ hi => hi), by rw [he]; exact hat⟩
  unfold trim
  rw [hm]
  exact Kd.Q_set hd GB (fun q hq => by rw [show kS.E = [40, 40] from rfl] at hq; simp at hq; rcases hq with rfl | rfl; exact fun h => ht.1 h.symm; exact fun h => ht.2 h.symm) j V2
set_option maxHeartbeats 4000000 in
set_option maxRecDepth 100000 in
theorem push {w : World} {base g t : Nat} {cs : Array Value} (j : Nat) {V : Value} {xs : List St} {ok okp : Nat → Prop} (hc : w.heap[g]? = some (.cells cs t (0, 0))) (hj : cs[j]? = some V) (ht : t ≠ 63 ∧ t ≠ 40) (hQ : Kd.Q kS 63 w base ok V xs) (hfresh : ∀ k, w.heap.size ≤ k → ok k) (hb : base ≤ w.heap.size) (hg : base ≤ g)
    (va vb : Value) (x : St) (hM : kS.M w base okp x [va, vb]) (hokp : ∀ k, okp k → ok k ∧ some k ≠ V.ownBlock) (hl : xs.length ≤ 1000000) :
    Calls Try.prog 25 #[.pointer (some ⟨g, j, none⟩), .agg #[va, vb], .int .i64 1000] w fun e w' => e = .returned (.tuple #[]) ∧ ∃ V', w'.heap[g]? = some (.cells (cs.setIfInBounds j V') t (0, 0)) ∧ Kd.Q kS 63 w' base ok V' (trim (xs ++ [x])) ∧ Fr (fun i => i = g ∨ some i = V.ownBlock) w w' ∧ (V'.ownBlock = V.ownBlock ∨ ∃ b, V'.ownBlock = some b ∧ w.heap.size ≤ b) := by
  have hone := kS.K_one (kS.K_of_M hM)
  have ho0 := hone va (by simp)
  have ho1 := hone vb (by simp)
  have HJ := Aside0.mk hj
  have HT := Aside0.mk ht
  have HL := Aside0.mk hl
  have HBS := Aside0.mk hb
  have HG := Aside0.mk hg
  have HFS := Aside0.mk hfresh
  have HOK := Aside0.mk hokp
  have HV := Aside0.mk (fun k (hk : V.ownBlock = some k) => And.intro (Kd.Q_lt hQ k hk) (Kd.Q_base hQ k hk))
  have HB := Aside0.mk (below_drew1 (below_alloc (Below.refl w.heap.size w) (.cells #[va, vb] 63)))
  have EB := Aside0.mk (blk_drew (blk_new w (.cells #[va, vb] 63)))
  have GB := Aside0.mk (blk_drew (blk_alloc hc (.cells #[va, vb] 63)))
  have QV := Aside0.mk (Kd.Q_drew (Kd.Q_alloc hQ (.cells #[va, vb] 63)))
  have MX := Aside0.mk (Kd.M_below hM (below_drew1 (below_alloc (Below.refl w.heap.size w) (.cells #[va, vb] 63))))
  have HNE := Aside0.mk (Kd.Q_ne hQ hc (fun h => ht.1 h.symm))
  have GLT := Aside0.mk (blk_lt hc)
  clear hc hj ht hQ hfresh hb hg hM hokp hl hone
  go_enter Try.func25, Try.ntmps25
  go_wp2
  refine start_ (n := 11) (S := fun w' => w'.cell? ⟨g, j, none⟩ = some V ∧ w'.cell? ⟨w.heap.size, 0, none⟩ = some va ∧ w'.cell? ⟨w.heap.size, 1, none⟩ = some vb) (ds := [10]) #[false, false, false, false, false, false, false, false, false, false, false] (by kernel_rfl) rfl rfl ⟨(blk_cell GB.out j).trans HJ.out, (blk_cell EB.out 0).trans rfl, (blk_cell EB.out 1).trans rfl⟩ (fun hHeld => ?_); refine with_tabW pu1.tab pu1.bits (fun HT_ HW_ => ?_)
  generalize (w.alloc (.cells #[va, vb] 63)).drew = w5 at HB EB GB QV MX hHeld ⊢
  refine pure_ (i := 0) (N := some 7) (v := ?_) (a' := ?_) #[true, false, false, false, false, false, false, false, false, false, false] rfl rfl (any_of HT_.out (by kernel_rfl)) (fun _ _ _ h => h) (Or.inl ⟨by rfl, ?_⟩) ?_ ?_
  rotate_left
  · intro w'
    go_simp
    try with_reducible rfl
  rotate_left
  · simp only [Act.put, List.setIfInBounds_toArray, List.set_cons_zero, List.set_cons_succ, i64_w, i32_w]
    rfl
  refine pure_ (i := 1) (N := some 8) (v := ?_) (a' := ?_) #[true, true, false, false, false, false, false, false, false, false, false] rfl rfl (any_of HT_.out (by kernel_rfl)) (fun _ _ _ h => h) (Or.inl ⟨by rfl, ?_⟩) ?_ ?_
  rotate_left
  · intro w'
    go_simp
    try with_reducible rfl
  rotate_left
  · simp only [Act.put, List.setIfInBounds_toArray, List.set_cons_zero, List.set_cons_succ, i64_w, i32_w]
    rfl
  refine pure_ (i := 2) (N := some 9) (v := ?_) (a' := ?_) #[true, true, true, false, false, false, false, false, false, false, false] rfl rfl (any_of HT_.out (by kernel_rfl)) (fun _ _ _ h => h) (Or.inl ⟨by rfl, ?_⟩) ?_ ?_
  rotate_left
  · intro w'
    go_simp
    try with_reducible rfl
  rotate_left
  · simp only [Act.put, List.setIfInBounds_toArray, List.set_cons_zero, List.set_cons_succ, i64_w, i32_w]
    rfl
  refine pure_ (i := 3) (N := some 10) (v := ?_) (a' := ?_) #[true, true, true, true, false, false, false, false, false, false, false] rfl rfl (any_of HT_.out (by kernel_rfl)) (fun _ _ _ h => h) (Or.inl ⟨by rfl, ?_⟩) ?_ ?_
  rotate_left
  · intro w'
    go_simp
    try with_reducible rfl
  rotate_left
  · simp only [Act.put, List.setIfInBounds_toArray, List.set_cons_zero, List.set_cons_succ, i64_w, i32_w]
    rfl
  refine take_ (i := 4) (N := some 11) (v := ?_) (a' := ?_) #[true, true, true, true, true, false, false, false, false, false, false] rfl rfl (take_ofW HT_.out HW_.out (by kernel_rfl)) (fun _ _ _ h => h) (Or.inl ⟨by rfl, ?_⟩) hHeld ?_ ?_
  rotate_left
  · rintro w' ⟨s0, s1, s2⟩
    go_simp
    try with_reducible rfl
  rotate_left
  · simp only [Act.put, List.setIfInBounds_toArray, List.set_cons_zero, List.set_cons_succ, i64_w, i32_w]
    rfl
  refine take_ (i := 5) (N := some 12) (v := ?_) (a' := ?_) #[true, true, true, true, true, true, false, false, false, false, false] rfl rfl (take_ofW HT_.out HW_.out (by kernel_rfl)) (fun _ _ _ h => h) (Or.inl ⟨by rfl, ?_⟩) hHeld ?_ ?_
  rotate_left
  · rintro w' ⟨s0, s1, s2⟩
    go_simp
    try with_reducible rfl
  rotate_left
  · simp only [Act.put, List.setIfInBounds_toArray, List.set_cons_zero, List.set_cons_succ, i64_w, i32_w]
    rfl
  refine one_ (i := 6) (N := some 13) #[true, true, true, true, true, true, true, false, false, false, false] rfl rfl (one_of HT_.out (by kernel_rfl)) (by decide) (fun K hK => ?_)
  refine event_step (v := .slice (some ⟨w5.heap.size, 0, none⟩) 1 1) (w1 := w5.alloc (.cells #[va, vb] 63 (0, 0))) rfl (by first | (go_simp; done) | (go_simp; rfl)) ?_
  refine hK.out _ _ ⟨(blk_cell (blk_alloc GB.out _) j).trans HJ.out, (blk_cell (blk_alloc EB.out _) 0).trans rfl, (blk_cell (blk_alloc EB.out _) 1).trans rfl⟩ (fun hHeld => ?_)
  clear hK K
  refine norm_ (a' := ?_) ?_ ?_
  rotate_left
  · show Act.put _ (some 13) _ = _
    simp only [Act.put, List.setIfInBounds_toArray, List.set_cons_zero, List.set_cons_succ, i64_w, i32_w]
    rfl
  refine one_ (i := 7) (N := some 14) #[true, true, true, true, true, true, true, true, false, false, false] rfl rfl (one_of HT_.out (by kernel_rfl)) (by decide) (fun K hK => ?_)
  refine Kd.Q_append_step kS (w0 := w) base rfl (.tmp 11) (.tmp 13) 55 63 (.agg #[.slice none 0 0, .slice none 0 0]) 48 rfl Try.underlying55 infoS rfl (by decide) (by omega) V xs x [va, vb] ok _ rfl rfl MX.out HOK.out (fun k hk => HFS.out k (Nat.le_trans HB.out.size hk)) QV.out (below_weak HB.out HBS.out) (Nat.le_trans HBS.out HB.out.size) (by have := HL.out; omega) ?_
  intro V1 w8 hQ1 hb1 hg1 hat1
  have HAT := Aside0.mk (show V1.ownBlock = V.ownBlock ∨ ∃ b, V1.ownBlock = some b ∧ w.heap.size ≤ b from hat1.imp id (fun ⟨b, e, hle⟩ => ⟨b, e, Nat.le_trans HB.out.size hle⟩))
  have n1_ := Aside0.mk (blk_grown GB.out hg1 HNE.out)
  have n2_ := Aside0.mk (blk_grown EB.out hg1 (fun e9 => by have := (HV.out _ e9.symm).1; omega))
  have HFR := Aside0.mk ((Fr.of_below (S := fun i => i = g ∨ some i = V.ownBlock) HB.out).trans (Fr.of_grown (S := fun i => i = g ∨ some i = V.ownBlock) hg1 (fun i _ hS he => hS (.inr he))) (fun i _ hi => hi))
  clear GB EB QV MX HB
  have GB := n1_
  have EB := n2_
  have QV := Aside0.mk hQ1
  clear n1_ n2_ hQ1 hb1 hg1 hat1
  refine hK.out _ _ ⟨(blk_cell GB.out j).trans HJ.out, (blk_cell EB.out 0).trans rfl, (blk_cell EB.out 1).trans rfl⟩ (fun hHeld => ?_)
  clear hK K
  refine norm_ (a' := ?_) ?_ ?_
  rotate_left
  · show Act.put _ (some 14) _ = _
    simp only [Act.put, List.setIfInBounds_toArray, List.set_cons_zero, List.set_cons_succ, i64_w, i32_w]
    rfl
  refine pure_ (i := 8) (N := some 15) (v := ?_) (a' := ?_) #[true, true, true, true, true, true, true, true, true, false, false] rfl rfl (any_of HT_.out (by kernel_rfl)) (fun _ _ _ h => h) (Or.inl ⟨by rfl, ?_⟩) ?_ ?_
  rotate_left
  · intro w'
    go_simp
    try with_reducible rfl
  rotate_left
  · simp only [Act.put, List.setIfInBounds_toArray, List.set_cons_zero, List.set_cons_succ, i64_w, i32_w]
    rfl
  refine pure_ (i := 9) (N := some 16) (v := ?_) (a' := ?_) #[true, true, true, true, true, true, true, true, true, true, false] rfl rfl (any_of HT_.out (by kernel_rfl)) (fun _ _ _ h => h) (Or.inl ⟨by rfl, ?_⟩) ?_ ?_
  rotate_left
  · intro w'
    go_simp
    try with_reducible rfl
  rotate_left
  · simp only [Act.put, List.setIfInBounds_toArray, List.set_cons_zero, List.set_cons_succ, i64_w, i32_w]
    rfl
  obtain ⟨m, hm⟩ : ∃ m, (xs ++ [x]).length = m := ⟨_, rfl⟩
  obtain ⟨A1, c1, rfl, hl1, hC1⟩ : ∃ A c, V1 = .slice A m c ∧ m ≤ c ∧ Kd.C kS w8 A m (xs ++ [x]) := by rw [← hm]; exact Kd.Q_reads QV.out
  obtain ⟨ad, rfl, -⟩ := hC1.2.2 (by rw [← hm]; simp)
  have HM := Aside0.mk hm
  have HC1 := Aside0.mk hl1
  clear hm hl1 hC1
  refine last_ (i := 10) (N := none) #[true, true, true, true, true, true, true, true, true, true, true] rfl rfl (one_of HT_.out (by kernel_rfl)) (by decide) (fun K hK => ?_)
  have hs0 : w8.cell? ⟨g, j, none⟩ = some V := (blk_cell GB.out j).trans HJ.out
  have hfs0 := blk_frozen GB.out j
  refine skip_ (w1 := ?_) (by rfl) rfl ?_ ?_
  rotate_left
  · go_simp
    rfl
  have n1_ := Aside0.mk (blk_put GB.out j (.slice (some ad) m c1) rfl)
  have n2_ := Aside0.mk (Kd.Q_set QV.out GB.out (fun q hq => by rw [show kS.E = [40, 40] from rfl] at hq; simp at hq; rcases hq with rfl | rfl; exact fun h => HT.out.1 h.symm; exact fun h => HT.out.2 h.symm) j (.slice (some ad) m c1))
  have n3_ := Aside0.mk (HFR.out.trans (Fr.set (S := fun i => i = g ∨ some i = V.ownBlock) ⟨g, j, none⟩ (.slice (some ad) m c1) (.inl rfl)) (fun i _ hi => hi))
  have HSZ := Aside0.mk (show w.heap.size ≤ (w8.setCell ⟨g, j, none⟩ (.slice (some ad) m c1)).heap.size from n3_.out.size)
  clear GB EB QV HFR hs0 hfs0
  generalize w8.setCell ⟨g, j, none⟩ (.slice (some ad) m c1) = w9 at n1_ n2_ n3_ HSZ ⊢
  have GB := n1_
  have QV := n2_
  have HFR := n3_
  clear n1_ n2_ n3_
  refine hK.out _ _ ?_
  clear hK K
  refine done_ (done_of HT_.out (by kernel_rfl)) ?_
  clear hHeld
  have hjlt : j < cs.size := by
    have := Array.getElem?_eq_some_iff.1 HJ.out
    exact this.1
  have cj : w9.cell? ⟨g, j, none⟩ = some (.slice (some ad) m c1) := (blk_cell GB.out j).trans (by rw [Array.getElem?_setIfInBounds]; simp [hjlt])
  have fj := blk_frozen GB.out j
  clear hjlt
  by_cases hc : m ≤ 1000
  · have d1 : decide (wrap64 ((m : Int) - 1000) > 0) = false := decide_eq_false (by unfold wrap64; omega)
    have d1b : decide (0 < wrap64 ((m : Int) - 1000)) = false := d1
    have HTR := Aside0.mk (trim_short (xs ++ [x]) (by rw [HM.out]; exact hc))
    clear hc
    go_wp2
    go_end0
    exact ⟨rfl, _, GB.out, by rw [HTR.out]; exact QV.out, HFR.out, HAT.out⟩
  · have hm2 : m ≤ 1000001 := by have := HM.out; have := HL.out; rw [List.length_append, List.length_singleton] at *; omega
    have ew : wrap64 ((m : Int) - 1000) = ((m - 1000 : Nat) : Int) := by unfold wrap64; omega
    have d1 : decide (wrap64 ((m : Int) - 1000) > 0) = true := decide_eq_true (by rw [ew]; omega)
    have d1b : decide (0 < wrap64 ((m : Int) - 1000)) = true := d1
    have si0 : decide (0 ≤ wrap64 ((m : Int) - 1000)) = true := decide_eq_true (by rw [ew]; omega)
    have si1 : decide (wrap64 ((m : Int) - 1000) ≤ (m : Int)) = true := decide_eq_true (by rw [ew]; omega)
    have si2 : (wrap64 ((m : Int) - 1000) ≤ (m : Int)) = True := eq_true (by rw [ew]; omega)
    have si3 : (0 ≤ wrap64 ((m : Int) - 1000)) = True := eq_true (by rw [ew]; omega)
    have si4 : ((m : Int) ≤ (c1 : Int)) = True := eq_true (by have := HC1.out; omega)
    have si5 : decide ((m : Int) ≤ (c1 : Int)) = true := decide_eq_true (by have := HC1.out; omega)
    have EW := Aside0.mk ew
    have HMC := Aside0.mk hc
    clear hc hm2 ew
    go_wp2
    case inl =>
      have ewn : (wrap64 ((m : Int) - 1000)).toNat = m - 1000 := by rw [EW.out]; exact Int.toNat_natCast _
      go_end0
      have hd := Kd.Q_drop (k := m - 1000) QV.out (by rw [HM.out]; omega)
      have hc1 : c1 = m - 1000 := by rw [← ewn]; assumption
      rw [if_pos hc1, show c1 - (m - 1000) = 0 from by omega] at hd
      rw [ewn]
      exact fin_ GB.out hd HFR.out HM.out HT.out HAT.out (by first | rfl | (simp [Value.ownBlock, Addr.add]; split <;> rfl))
    case inr =>
      have ewn : (wrap64 ((m : Int) - 1000)).toNat = m - 1000 := by rw [EW.out]; exact Int.toNat_natCast _
      go_end0
      have hd := Kd.Q_drop (k := m - 1000) QV.out (by rw [HM.out]; omega)
      rw [if_neg (by rw [← ewn]; assumption)] at hd
      rw [ewn]
      exact fin_ GB.out hd HFR.out HM.out HT.out HAT.out (by first | rfl | (simp [Value.ownBlock, Addr.add]; split <;> rfl))
end Go.Proofs.Ytpghnadlekafpaa.PBuf
