/- Layer 24: boxes of boxes. -/
import Derived.Test.YtjgaikmejccdkaaDoorDoc3
namespace Go.Proofs.YtjgaikmejccdkaaDoor.PDoc
open Go.RowKit Go.Proofs.YtjgaikmejccdkaaDoorW.PrintWords Go.Proofs.YtjgaikmejccdkaaDoorW.PrintLast Go.Proofs.YtjgaikmejccdkaaDoorW.PrintMore
set_option linter.unusedVariables false
set_option linter.unusedSimpArgs false
theorem wds_snoc (l : List D) (d : D) : wds (l ++ [d]) = wds l + wd d := by
  unfold wds
  induction l with
  | nil => simp
  | cons x r ih => simp only [List.cons_append, List.map_cons, List.foldr_cons, ih]; omega
theorem szs_snoc (l : List D) (d : D) : szs (l ++ [d]) = szs l + sz d := by
  unfold szs
  induction l with
  | nil => simp
  | cons x r ih => simp only [List.cons_append, List.map_cons, List.foldr_cons, ih]; omega
theorem hds_snoc (l : List D) (d : D) : hds (l ++ [d]) = (hds l || hd d) := by simp [hds]
/-- Sizes that a machine can hold. -/
structure Nn (d : D) : Prop where
  w : 0 ≤ wd d
  s : 0 ≤ sz d
theorem pre_le (l : List D) (h : ∀ d ∈ l, Nn d) (i : Nat) : 0 ≤ wds (l.take i) ∧ 0 ≤ szs (l.take i) ∧ wds (l.take i) ≤ wds l ∧ szs (l.take i) ≤ szs l := by
  induction l generalizing i with
  | nil => simp [wds, szs]
  | cons x r ih =>
    have hx := h x List.mem_cons_self
    have h1 := hx.w
    have h2 := hx.s
    cases i with
    | zero =>
      have := ih (fun d hd => h d (List.mem_cons_of_mem _ hd)) r.length
      rw [List.take_of_length_le (Nat.le_refl _)] at this
      simp only [List.take_zero]
      simp only [wds, szs, List.map_cons, List.map_nil, List.foldr_cons, List.foldr_nil] at this ⊢
      omega
    | succ i =>
      have := ih (fun d hd => h d (List.mem_cons_of_mem _ hd)) i
      simp only [wds, szs, List.take_succ_cons, List.map_cons, List.foldr_cons] at this ⊢
      omega
theorem blk_put3 {w : World} {g t : Nat} {cs : Array Value} (h : w.heap[g]? = some (.cells cs t (0, 0))) (x y z : Value) (h3 : 3 ≤ cs.size) :
    (((w.setCell ⟨g, 0, none⟩ x).setCell ⟨g, 1, none⟩ y).setCell ⟨g, 2, none⟩ z).heap[g]? = some (.cells (((cs.setIfInBounds 0 x).setIfInBounds 1 y).setIfInBounds 2 z) t (0, 0)) := by
  simp [World.setCell, Array.getElem?_modify, h]
/-- A box of boxes, its parts given. -/
def bD (k b : Int) (l : List D) : D := some ⟨wds l, hds l, 1 + szs l, k, ⟨#[]⟩, b, l⟩
def bx5.T : Bool × List (List Nat × List Nat) := (true, [([], []), ([], []), ([1], [1]), ([2], [2]), ([3], [3]), ([], []), ([5], [5]), ([4, 6, 6], [4, 6]), ([0, 0, 1, 2, 3, 4, 5, 6, 7], [0]), ([8, 0, 1, 2, 3, 4, 5, 6, 7], [8]), ([9, 7, 7, 0, 1, 2, 3, 4, 5, 6, 7], [7, 9])])
def bx5.B : List Nat := [0, 0, 2, 6, 14, 0, 32, 126, 255, 511, 1023]
theorem bx5.tab : rtab .any (opsOf Tryd.f34 5) = bx5.T := by kernel_rfl
theorem bx5.bits : waitsOk bx5.T.2 bx5.B = true := by kernel_rfl
theorem rob_row {Sb : Nat → Prop} {w w1 wr w' : World} {A1 : Option Addr} {n c1 : Nat} {l : List D} (h : (rob kD Sb w).C w1 A1 n l) (hbase : ∀ k, (Value.slice A1 n c1).ownBlock = some k → w.heap.size ≤ k) (hb : Below w1.heap.size w1 wr) (h' : Fr Sb wr w') (hS : ∀ k, Sb k → k < w.heap.size) (hf : ∀ w2, Fr Sb wr w2 → Fr Sb w w2) : kD.C w' A1 n l := by
  refine ⟨h.1, h.2.1, fun hp => ?_⟩
  obtain ⟨ad, e, hc⟩ := h.2.2 hp
  subst e
  refine ⟨ad, rfl, fun j p hj => ?_⟩
  obtain ⟨cs, hl, hK, hcell⟩ := hc j p hj
  refine ⟨cs, hl, hK w' (hf w' h'), fun i u hu => ?_⟩
  have h1 := hcell i u hu
  have hlt := World.block_lt_of_cell? w1 _ h1
  have hlt2 : (ad.add (j * 1 + i)).block < wr.heap.size := Nat.lt_of_lt_of_le hlt hb.size
  have hge : w.heap.size ≤ ad.block := hbase ad.block rfl
  have hbk : (ad.add (j * 1 + i)).block = ad.block := by unfold Addr.add; split <;> rfl
  have h2 : wr.cell? (ad.add (j * 1 + i)) = some u := (hb.cell hlt).trans h1
  have h3 := h'.block _ hlt2 (fun hs => by have := hS _ hs; omega)
  show w'.cell? (ad.add (j * 1 + i)) = some u
  rw [← h2]
  unfold World.cell?
  rw [h3]
set_option maxHeartbeats 4000000 in
set_option maxRecDepth 100000 in
theorem box_X (Sb : Nat → Prop) (kk by_ : Int) (A : Option Addr) (c : Nat) (l : List D) (w : World) (hC : (rob kD Sb w).C w A l.length l) (hSb : ∀ k, Sb k → k < w.heap.size) (hc : l.length ≤ c) (hl : l.length ≤ 1000000) (hn : ∀ d ∈ l, Nn d) (hw : wds l ≤ 1000000000000) (hs : szs l ≤ 1000000000000) :
    Calls Tryd.prog 34 #[.int .i64 kk, .int .i64 by_, .slice A l.length c] w fun e w' => ∃ v, e = .returned v ∧ DVX Sb w' v (bD kk by_ l) ∧ Below w.heap.size w w' := by
  have HCR := Aside0.mk hC
  have HSB := Aside0.mk hSb
  replace hC : kD.C w A l.length l := ReadsRow.imp_ hC (Below.refl _ _) (fun x cs hk => hk w (Fr.refl _ _))
  have HC := Aside0.mk hC
  have HCC := Aside0.mk hc
  have HL := Aside0.mk hl
  have HP := Aside0.mk (fun i => pre_le l hn i)
  have HN := Aside0.mk hn
  have HW := Aside0.mk (And.intro hw hs)
  clear hC hc hl hn hw hs hSb
  go_enter Tryd.func34, Tryd.ntmps34
  go_wp2_with (at_builtin; refine Kd.R_append_rows (rob kD Sb w) (Rr := (rob kD Sb w).K w) (w0 := w) w.heap.size rfl _ _ 40 24 (.pointer none) 8 rfl Tryd.underlying40 info24 rfl (Nat.lt_succ_self 0) (by omega) (.slice none 0 0) [] l A l.length c (fun _ => True) (fun _ => False) rfl rfl (Kd.R_nil _ _ _ _ _) HCR.out (fun x cs h => h) (fun _ h => h.elim) (fun _ _ => trivial) (Below.refl _ _) (Nat.le_refl _) (by have := HL.out; simp only [List.length_nil]; omega) ?_; intro v1 w1 hR hB _ _; rw [List.nil_append] at hR; obtain ⟨A1, c1, rfl, hl1, hC1⟩ := Kd.R_reads hR; have HB1 := Aside0.mk hB; have HRB := Aside0.mk (Kd.R_base hR); have HC1 := Aside0.mk (And.intro hl1 hC1); clear hR hB hl1 hC1)
  have HG0 := Aside0.mk (blk_new w1 (.cells #[.int .i64 0, .bool false, .int .i64 1, .int .i64 kk, .string ⟨#[]⟩, .int .i64 by_, .slice A1 l.length c1] 65))
  have HGE := Aside0.mk (Nat.le_refl w1.heap.size)
  have HB0 := Aside0.mk (below_alloc HB1.out (.cells #[.int .i64 0, .bool false, .int .i64 1, .int .i64 kk, .string ⟨#[]⟩, .int .i64 by_, .slice A1 l.length c1] 65))
  have HB10 := Aside0.mk (below_alloc (Below.refl w1.heap.size w1) (.cells #[.int .i64 0, .bool false, .int .i64 1, .int .i64 kk, .string ⟨#[]⟩, .int .i64 by_, .slice A1 l.length c1] 65))
  go_loopg [19] (l.length + 1) (fun kq v19 w' => ∃ (i : Nat) (W : Int) (H : Bool) (S : Int), v19 = .int .i64 (i : Int) ∧ Aside0 (i ≤ l.length ∧ kq + i = l.length + 1) ∧ Aside0 (W = wds (l.take i) ∧ H = hds (l.take i) ∧ S = 1 + szs (l.take i)) ∧ Aside0 (w'.heap[w1.heap.size]? = some (.cells #[.int .i64 W, .bool H, .int .i64 S, .int .i64 kk, .string ⟨#[]⟩, .int .i64 by_, .slice A1 l.length c1] 65 (0, 0))) ∧ Aside0 (Below w.heap.size w w') ∧ Aside0 (Below w1.heap.size w1 w'))
  case atStart => exact ⟨0, 0, false, 1, rfl, ⟨by omega, by simp⟩, ⟨⟨by simp [wds], by simp [hds], by simp [szs]⟩⟩, HG0, HB0, HB10⟩
  case round =>
    clear HG0 HB0 HB10
    obtain ⟨i, W, H, S, rfl, HI, HS, HG, HB, HBB⟩ := hrel
    by_cases c9 : i < l.length
    · have d1 : decide (i < l.length) = true := decide_eq_true c9
      obtain ⟨ad, v, e1, hcell, hv⟩ := at_D HC.out i c9
      subst e1
      have HV := Aside0.mk hv
      have hcw := pw_cell_below (show Below w.heap.size w wr from HB.out) hcell
      have HKN := Aside0.mk (fun (u : World) (hb : Below w.heap.size w u) => known_ (hv.below hb))
      have hsn := List.take_succ_eq_append_getElem c9
      have hp0 := HP.out i
      have hp1 := HP.out (i + 1)
      have hnd := HN.out l[i] (List.getElem_mem c9)
      have hnw := hnd.w
      have hns := hnd.s
      have hhs := HS.out
      have hww := HW.out
      have e2 : wds (l.take (i + 1)) = W + wd l[i] := by rw [hsn, wds_snoc, hhs.1]
      have e3 : hds (l.take (i + 1)) = (H || hd l[i]) := by rw [hsn, hds_snoc, hhs.2.1]
      have e4 : 1 + szs (l.take (i + 1)) = S + sz l[i] := by rw [hsn, szs_snoc, hhs.2.2]; omega
      have hwi : doc_sum_with.f W H S (wd l[i]) (hd l[i]) (sz l[i]) = some (W + wd l[i], H || hd l[i], S + sz l[i]) := by
        unfold doc_sum_with.f
        rw [w64 _ (by omega) (by omega), w64 _ (by omega) (by omega)]
        cases H <;> simp
      have HWI := Aside0.mk hwi
      have HE := Aside0.mk (And.intro e2 (And.intro e3 e4))
      have C9 := Aside0.mk c9
      clear hcell hv hsn hp0 hp1 hnd hnw hns hhs hww e2 e3 e4 hwi
      generalize hx : l[i] = x at HV HKN HWI HE
      clear hx c9
      have c9x := C9.out
      go_wp2
      clear c9x
      have n0_ := Aside0.mk (blk_drew HG.out)
      have n1_ := Aside0.mk (below_drew1 HB.out)
      have n2_ := Aside0.mk (below_drew1 HBB.out)
      clear HG HB HBB hcw
      have HG := n0_
      have HB := n1_
      have HBB := n2_
      clear n0_ n1_ n2_
      refine start_ (n := 11) (S := fun w' => w'.cell? ⟨w1.heap.size, 0, none⟩ = some (.int .i64 W) ∧ w'.cell? ⟨w1.heap.size, 1, none⟩ = some (.bool H) ∧ w'.cell? ⟨w1.heap.size, 2, none⟩ = some (.int .i64 S)) (ds := [10]) #[false, false, false, false, false, false, false, false, false, false, false] (by kernel_rfl) rfl rfl ⟨(blk_cell HG.out 0).trans rfl, (blk_cell HG.out 1).trans rfl, (blk_cell HG.out 2).trans rfl⟩ (fun hHeld => ?_); refine with_tabW bx5.tab bx5.bits (fun HT_ HW_ => ?_)
      generalize wr.drew = w5 at HB HBB HG hHeld ⊢
      refine pure_ (i := 0) (N := some 23) (v := ?_) (a' := ?_) #[true, false, false, false, false, false, false, false, false, false, false] rfl rfl (any_of HT_.out (by kernel_rfl)) (fun _ _ _ h => h) (Or.inl ⟨by rfl, ?_⟩) ?_ ?_
      rotate_left
      · intro w'
        go_simp
        try with_reducible rfl
      rotate_left
      · simp only [Act.put, List.setIfInBounds_toArray, List.set_cons_zero, List.set_cons_succ, i64_w, i32_w]
        rfl
      refine pure_ (i := 1) (N := some 24) (v := ?_) (a' := ?_) #[true, true, false, false, false, false, false, false, false, false, false] rfl rfl (any_of HT_.out (by kernel_rfl)) (fun _ _ _ h => h) (Or.inl ⟨by rfl, ?_⟩) ?_ ?_
      rotate_left
      · intro w'
        go_simp
        try with_reducible rfl
      rotate_left
      · simp only [Act.put, List.setIfInBounds_toArray, List.set_cons_zero, List.set_cons_succ, i64_w, i32_w]
        rfl
      refine pure_ (i := 2) (N := some 25) (v := ?_) (a' := ?_) #[true, true, true, false, false, false, false, false, false, false, false] rfl rfl (any_of HT_.out (by kernel_rfl)) (fun _ _ _ h => h) (Or.inl ⟨by rfl, ?_⟩) ?_ ?_
      rotate_left
      · intro w'
        go_simp
        try with_reducible rfl
      rotate_left
      · simp only [Act.put, List.setIfInBounds_toArray, List.set_cons_zero, List.set_cons_succ, i64_w, i32_w]
        rfl
      refine pure_ (i := 3) (N := some 26) (v := ?_) (a' := ?_) #[true, true, true, true, false, false, false, false, false, false, false] rfl rfl (any_of HT_.out (by kernel_rfl)) (fun _ _ _ h => h) (Or.inl ⟨by rfl, ?_⟩) ?_ ?_
      rotate_left
      · intro w'
        go_simp
        try with_reducible rfl
      rotate_left
      · simp only [Act.put, List.setIfInBounds_toArray, List.set_cons_zero, List.set_cons_succ, i64_w, i32_w]
        rfl
      refine take_ (i := 4) (N := some 27) (v := ?_) (a' := ?_) #[true, true, true, true, true, false, false, false, false, false, false] rfl rfl (take_ofW HT_.out HW_.out (by kernel_rfl)) (fun _ _ _ h => h) (Or.inl ⟨by rfl, ?_⟩) hHeld ?_ ?_
      rotate_left
      · rintro w' ⟨s0, s1, s2⟩
        go_simp
        try with_reducible rfl
      rotate_left
      · simp only [Act.put, List.setIfInBounds_toArray, List.set_cons_zero, List.set_cons_succ, i64_w, i32_w]
        rfl
      refine pure_ (i := 5) (N := some 28) (v := ?_) (a' := ?_) #[true, true, true, true, true, true, false, false, false, false, false] rfl rfl (any_of HT_.out (by kernel_rfl)) (fun _ _ _ h => h) (Or.inl ⟨by rfl, ?_⟩) ?_ ?_
      rotate_left
      · intro w'
        go_simp
        try with_reducible rfl
      rotate_left
      · simp only [Act.put, List.setIfInBounds_toArray, List.set_cons_zero, List.set_cons_succ, i64_w, i32_w]
        rfl
      refine one_ (i := 6) (N := some 29) #[true, true, true, true, true, true, true, false, false, false, false] rfl rfl (one_of HT_.out (by kernel_rfl)) (by decide) (fun K hK => ?_)
      refine goes_ Tryd.func37 (by kernel_rfl) rfl #[v] (by rfl) rfl rfl (by (try simp only [List.map_toArray, List.map_cons, List.map_nil]); first | done | rfl) ?_
      refine (HKN.out _ HB.out).mono ?_
      rintro e w6 ⟨rfl, hb⟩
      refine ⟨_, rfl, ?_⟩
      have n0_ := Aside0.mk (blk_below HG.out hb)
      have n1_ := Aside0.mk (below_step HB.out hb)
      have n2_ := Aside0.mk (below_step HBB.out hb)
      clear HG HB HBB hb
      have HG := n0_
      have HB := n1_
      have HBB := n2_
      clear n0_ n1_ n2_
      refine hK.out _ _ ⟨(blk_cell HG.out 0).trans rfl, (blk_cell HG.out 1).trans rfl, (blk_cell HG.out 2).trans rfl⟩ (fun hHeld => ?_)
      clear hK K
      refine norm_ (a' := ?_) ?_ ?_
      rotate_left
      · show Act.put _ (some 29) _ = _
        simp only [Act.put, List.setIfInBounds_toArray, List.set_cons_zero, List.set_cons_succ, i64_w, i32_w]
        rfl
      refine one_ (i := 7) (N := some 30) #[true, true, true, true, true, true, true, true, false, false, false] rfl rfl (one_of HT_.out (by kernel_rfl)) (by decide) (fun K hK => ?_)
      refine goes_ Tryd.func46 (by kernel_rfl) rfl #[.agg #[.int .i64 W, .bool H, .int .i64 S], .agg #[.int .i64 (wd x), .bool (hd x), .int .i64 (sz x)]] (by rfl) rfl rfl (by (try simp only [List.map_toArray, List.map_cons, List.map_nil]); first | done | rfl) ?_
      refine (doc_sum_with.calls _ _ _ _ _ _ _ _ _ _ HWI.out).mono ?_
      rintro e w7 ⟨rfl, hb⟩
      refine ⟨_, rfl, ?_⟩
      have n0_ := Aside0.mk (blk_below HG.out hb)
      have n1_ := Aside0.mk (below_step HB.out hb)
      have n2_ := Aside0.mk (below_step HBB.out hb)
      clear HG HB HBB hb
      have HG := n0_
      have HB := n1_
      have HBB := n2_
      clear n0_ n1_ n2_
      refine hK.out _ _ ⟨(blk_cell HG.out 0).trans rfl, (blk_cell HG.out 1).trans rfl, (blk_cell HG.out 2).trans rfl⟩ (fun hHeld => ?_)
      clear hK K
      refine norm_ (a' := ?_) ?_ ?_
      rotate_left
      · show Act.put _ (some 30) _ = _
        simp only [Act.put, List.setIfInBounds_toArray, List.set_cons_zero, List.set_cons_succ, i64_w, i32_w]
        rfl
      refine pure_ (i := 8) (N := some 31) (v := ?_) (a' := ?_) #[true, true, true, true, true, true, true, true, true, false, false] rfl rfl (any_of HT_.out (by kernel_rfl)) (fun _ _ _ h => h) (Or.inl ⟨by rfl, ?_⟩) ?_ ?_
      rotate_left
      · intro w'
        go_simp
        try with_reducible rfl
      rotate_left
      · simp only [Act.put, List.setIfInBounds_toArray, List.set_cons_zero, List.set_cons_succ, i64_w, i32_w]
        rfl
      refine pure_ (i := 9) (N := some 32) (v := ?_) (a' := ?_) #[true, true, true, true, true, true, true, true, true, true, false] rfl rfl (any_of HT_.out (by kernel_rfl)) (fun _ _ _ h => h) (Or.inl ⟨by rfl, ?_⟩) ?_ ?_
      rotate_left
      · intro w'
        go_simp
        try with_reducible rfl
      rotate_left
      · simp only [Act.put, List.setIfInBounds_toArray, List.set_cons_zero, List.set_cons_succ, i64_w, i32_w]
        rfl
      refine last_ (i := 10) (N := none) #[true, true, true, true, true, true, true, true, true, true, true] rfl rfl (one_of HT_.out (by kernel_rfl)) (by decide) (fun K hK => ?_)
      obtain ⟨hs0, hs1, hs2⟩ := hHeld
      have hf0 := blk_frozen HG.out 0
      have hf1 := blk_frozen HG.out 1
      have hf2 := blk_frozen HG.out 2
      refine skip_ (w1 := ?_) (by rfl) rfl ?_ ?_
      rotate_left
      · go_simp
        rfl
      have n0_ := Aside0.mk (blk_put3 HG.out (.int .i64 (W + wd x)) (.bool (H || hd x)) (.int .i64 (S + sz x)) (by simp))
      have n1_ := Aside0.mk (((HB.out.setCell (p := ⟨w1.heap.size, 0, none⟩) (Nat.le_trans HB1.out.size HGE.out) (.int .i64 (W + wd x))).setCell (p := ⟨w1.heap.size, 1, none⟩) (Nat.le_trans HB1.out.size HGE.out) (.bool (H || hd x))).setCell (p := ⟨w1.heap.size, 2, none⟩) (Nat.le_trans HB1.out.size HGE.out) (.int .i64 (S + sz x)))
      have n2_ := Aside0.mk (((HBB.out.setCell (p := ⟨w1.heap.size, 0, none⟩) HGE.out (.int .i64 (W + wd x))).setCell (p := ⟨w1.heap.size, 1, none⟩) HGE.out (.bool (H || hd x))).setCell (p := ⟨w1.heap.size, 2, none⟩) HGE.out (.int .i64 (S + sz x)))
      clear HG HB HBB hs0 hs1 hs2 hf0 hf1 hf2
      generalize ((w7.setCell ⟨w1.heap.size, 0, none⟩ (.int .i64 (W + wd x))).setCell ⟨w1.heap.size, 1, none⟩ (.bool (H || hd x))).setCell ⟨w1.heap.size, 2, none⟩ (.int .i64 (S + sz x)) = w9 at n0_ n1_ n2_ ⊢
      have HG : Aside0 (w9.heap[w1.heap.size]? = some (.cells #[.int .i64 (W + wd x), .bool (H || hd x), .int .i64 (S + sz x), .int .i64 kk, .string ⟨#[]⟩, .int .i64 by_, .slice A1 l.length c1] 65 (0, 0))) := n0_
      have HB := n1_
      have HBB := n2_
      clear n0_ n1_ n2_
      refine hK.out _ _ ?_
      clear hK K
      refine done_ (done_of HT_.out (by kernel_rfl)) ?_
      have hlb := HL.out
      have hic := C9.out
      go_wp2
      go_roundg (gk - 1)
      case measure => have := HI.out; have := C9.out; omega
      case rel => exact ⟨i + 1, W + wd x, H || hd x, S + sz x, by go_num, ⟨by have := C9.out; omega, by have := HI.out; omega⟩, ⟨⟨HE.out.1.symm, HE.out.2.1.symm, HE.out.2.2.symm⟩⟩, HG, HB, HBB⟩
    · have d1 : decide (i < l.length) = false := decide_eq_false c9
      have hi : i = l.length := by have := HI.out; omega
      clear c9
      go_wp2
      go_ret
      have hs := HS.out
      rw [hi, List.take_of_length_le (Nat.le_refl _)] at hs
      obtain ⟨rfl, rfl, rfl⟩ := hs
      exact ⟨_, rfl, fun w' h' => Bx.dv (x := ⟨wds l, hds l, 1 + szs l, kk, ⟨#[]⟩, by_, l⟩) (A := A1) (c := c1) ⟨(h'.block _ (Array.getElem?_eq_some_iff.1 HG.out).1 (fun hs => by have h1 := HSB.out _ hs; have h2 := HB1.out.size; omega)).trans HG.out, HC1.out.1, rob_row HC1.out.2 (fun k hk => HRB.out k hk) HBB.out h' HSB.out (fun w2 => (Fr.of_below HB.out).trans)⟩, HB.out⟩
theorem box_ (kk by_ : Int) (A : Option Addr) (c : Nat) (l : List D) (w : World) (hC : kD.C w A l.length l) (hc : l.length ≤ c) (hl : l.length ≤ 1000000) (hn : ∀ d ∈ l, Nn d) (hw : wds l ≤ 1000000000000) (hs : szs l ≤ 1000000000000) :
    Calls Tryd.prog 34 #[.int .i64 kk, .int .i64 by_, .slice A l.length c] w fun e w' => ∃ v, e = .returned v ∧ DV w' v (bD kk by_ l) ∧ Below w.heap.size w w' :=
  (box_X (fun _ => False) kk by_ A c l w (rob_of hC (Below.refl _ _) (fun _ h => h.elim)) (fun _ h => h.elim) hc hl hn hw hs).mono fun e w' ⟨v, h1, h2, h3⟩ => ⟨v, h1, h2.dv, h3⟩
end Go.Proofs.YtjgaikmejccdkaaDoor.PDoc
