/- A buffer's pieces, split at a place. -/
import Derived.Test.YtpghnadlekafpaaBuf4
import Derived.Deep.RegionLawGrows
namespace Go.Proofs.Ytpghnadlekafpaa.PBuf
open Go.RowKit Go.Proofs.YtpghnadlekafpaaW.PrintWords Go.Proofs.YtpghnadlekafpaaW.PrintLast Go.Proofs.YtpghnadlekafpaaW.PrintMore
set_option linter.unusedVariables false
set_option linter.unusedSimpArgs false
theorem infoP : (Try.prog.info? 53).map (fun i => (i.zero, i.size, i.bytes)) = some (some (.agg #[.string ⟨#[]⟩]), 1, 16) := by kernel_rfl
def cl (H : List Pc) : List Value := H.map fun p => .string p.f0
theorem cl_get (H : List Pc) (j : Nat) (u : Value) (h : (cl H)[j]? = some u) : j < H.length ∧ u = .string (H.getD j z53).f0 := by
  unfold cl at h
  rw [List.getElem?_map] at h
  cases hj : H[j]? with
  | none => rw [hj] at h; cases h
  | some p =>
    rw [hj] at h
    have := List.getElem?_eq_some_iff.1 hj
    refine ⟨this.1, ?_⟩
    rw [List.getD_eq_getElem?_getD, hj]
    exact (Option.some.inj h).symm
theorem C_cells {w : World} {b : Addr} {n : Nat} {H : List Pc} (h : Kd.C kP w (some b) n H) (hn : n = H.length) : ∀ j u, (cl H)[j]? = some u → w.cell? (b.add j) = some u := by
  intro j u hu
  obtain ⟨hj, rfl⟩ := cl_get H j u hu
  obtain ⟨ad, c, e, _, hK, hc0⟩ := Kd.C_get h z53 (j : Int) (by omega) (by omega)
  cases e
  obtain rfl := k53_open hK
  have := hc0 0 _ rfl
  simpa [show kP.sz = 1 from rfl] using this
theorem reps_cl (w : World) (base : Nat) (ok : Nat → Prop) : ∀ H : List Pc, Reps (kP.M w base ok) 1 H (cl H) := by
  intro H
  induction H with
  | nil => exact Reps.none _ _
  | cons p H ih => exact Reps.one (k53_mkM w base ok p) ih
theorem R_of_own {w : World} {base : Nat} {v : Value} {H : List Pc} (h : w.ownsRow base 53 1 v H.length (cl H)) : Kd.R kP 53 w base (fun _ => True) v H :=
  ⟨fun _ _ => trivial, cl H, h, reps_cl w base _ H⟩
/-- append(H[:n:n], piece): always a new row. -/
theorem grow_step {ops : Array Oper} {o : Oper} {a : Act} {W : World} {K : Act → World → Prop} {Q : Exit → Act → World → Prop} {E : Prop} (hg : o.guard = none) (s x : Operand)
    (hop : o.op = .call { callee := .builtin .append, args := #[s, x], argTypes := #[54, 54] }) (A : Option Addr) (H : List Pc) (hs : a.eval s = .slice A H.length H.length) (hC : Kd.C kP W A H.length H) (hA : A = none → H.length = 0) (b : Nat) (u : ByteArray) (hx : a.eval x = .slice (some ⟨b, 0, none⟩) 1 1)
    (hc : W.cell? ⟨b, 0, none⟩ = some (.string u)) (hl : H.length ≤ 4398046511104)
    (hK : ∀ v' w', Kd.R kP 53 w' W.heap.size (fun _ => True) v' (H ++ [⟨u⟩]) → Below W.heap.size W w' → K (a.put o.dst v') w') : if Region.wanted o (yielded ops a.tmps) = true then Oper.wp Try.prog o a W K Q else E := by
  obtain ⟨i0, hi, hzz⟩ := Option.map_eq_some_iff.1 infoP
  simp only [Prod.mk.injEq] at hzz
  obtain ⟨hz0, hz1, hz2⟩ := hzz
  refine step_append_grows hg s x 54 hop 53 i0 _ 1 16 Try.underlying54 hi hz0 hz1 hz2 rfl (by omega) A H.length H.length (cl H) hs (fun h => ⟨hA h, hA h⟩) (by simp [cl]) (fun b hb => C_cells (hb ▸ hC) rfl) ⟨b, 0, none⟩ 1 1 [.string u] hx rfl ?_ ?_ (by omega) (by simp only [maxLen]; omega) (by omega) ?_
  · intro j v hj
    cases j with
    | zero => cases hj; exact hc
    | succ j => simp at hj
  · intro v hv
    rw [List.mem_singleton.1 hv]
    rfl
  · intro v' w' ho hgr
    refine hK v' w' (R_of_own ?_) ((Below.refl _ _).grown hgr (Nat.le_refl _) (fun k hk => by cases hk))
    simpa [cl] using ho
/-- A literal of one element in a region that draws. -/
theorem lit1_step {P : Program} {ops : Array Oper} {o : Oper} {a : Act} {Q : Exit → Act → World → Prop} {Kc : Act → World → Prop} {W : World} (hw : Region.wanted o (yielded ops a.tmps) = true) {N : Tmp} (_hd : o.dst = some N) {u : Value} {t : TypeId}
    (hrun : (execOp a.eval o).run P W = .ok (.value (.slice (some ⟨W.heap.size, 0, none⟩) 1 1)) (W.alloc (.cells #[u] t (0, 0))))
    (h : ∀ g, g = W.heap.size → ∀ w1, w1.heap[g]? = some (.cells #[u] t (0, 0)) → Below W.heap.size W w1 → Kc (a.put o.dst (.slice (some ⟨g, 0, none⟩) 1 1)) w1) : if Region.wanted o (yielded ops a.tmps) = true then Oper.wp P o a W Kc Q else Kc (a.put o.dst undef) W :=
  event_step hw hrun (h _ rfl _ (blk_new W _) (below_alloc (Below.refl _ _) _))
theorem ReadsRow.take_ {α : Type} {R : α → List Value → Prop} {size : Nat} {w : World} {A : Option Addr} {n m : Nat} {ps : List α} (h : ReadsRow R size w A n ps) (hm : m ≤ n) : ReadsRow R size w A m (ps.take m) := by
  obtain ⟨h1, h2, h3⟩ := h
  refine ⟨by rw [List.length_take]; omega, by omega, fun h0 => ?_⟩
  obtain ⟨ad, e, hc⟩ := h3 (by omega)
  refine ⟨ad, e, fun j p hj => hc j p ?_⟩
  rw [List.getElem?_take] at hj
  split at hj
  · exact hj
  · cases hj
/-- The pieces ahead of a place, and behind it. -/
def hdP : List Pc → Nat → List Pc
  | [], _ => []
  | p :: q, k => if k ≤ p.f0.size then [⟨p.f0.extract 0 k⟩] else p :: hdP q (k - p.f0.size)
def tlP : List Pc → Nat → List Pc
  | [], _ => []
  | p :: q, k => if k ≤ p.f0.size then ⟨p.f0.extract k p.f0.size⟩ :: q else tlP q (k - p.f0.size)
theorem ext_list (b : ByteArray) (i j : Nat) : (b.extract i j).data.toList = (b.data.toList.drop i).take (j - i) := by simp [ByteArray.data_extract]
theorem tP_hd : ∀ (P : List Pc) (k : Nat), tP (hdP P k) = Bu.hd (tP P) k := by
  intro P
  induction P with
  | nil => intro k; rfl
  | cons p q ih =>
    intro k
    have hs : p.f0.data.toList.length = p.f0.size := by simp
    have hc : tP (p :: q) = p.f0.data.toList :: tP q := rfl
    rw [hc]
    simp only [hdP, Bu.hd, hs]
    split
    · simp [tP, ext_list]
    · rw [show tP (p :: hdP q (k - p.f0.size)) = p.f0.data.toList :: tP (hdP q (k - p.f0.size)) from rfl, ih]
theorem tP_tl : ∀ (P : List Pc) (k : Nat), tP (tlP P k) = Bu.tl (tP P) k := by
  intro P
  induction P with
  | nil => intro k; rfl
  | cons p q ih =>
    intro k
    have hs : p.f0.data.toList.length = p.f0.size := by simp
    have hc : tP (p :: q) = p.f0.data.toList :: tP q := rfl
    rw [hc]
    simp only [tlP, Bu.tl, hs]
    split
    · rename_i h
      rw [show ∀ z : Pc, tP (z :: q) = z.f0.data.toList :: tP q from fun _ => rfl, ext_list]
      congr 1
      rw [List.take_of_length_le (by simp)]
    · exact ih _
def sp7.T : Bool × List (List Nat × List Nat) := (true, [([], []), ([0], [0]), ([1], [1]), ([2], [2]), ([], []), ([], []), ([3, 4, 5], [3, 4, 5]), ([], []), ([7], [7]), ([], []), ([8, 9], [8, 9]), ([10], [10]), ([11], [11]), ([6, 12], [6, 12]), ([13, 13, 0, 1, 2, 3, 4, 5, 6, 7, 8, 9, 10, 11, 12, 13], [13])])
def sp7.B : List Nat := [0, 1, 3, 7, 0, 0, 63, 0, 128, 0, 896, 1920, 3968, 8191, 16383]
theorem sp7.tab : rtab .any (opsOf Try.f37 7) = sp7.T := by kernel_rfl
theorem sp7.bits : waitsOk sp7.T.2 sp7.B = true := by kernel_rfl
def sp8.T : Bool × List (List Nat × List Nat) := (true, [([], []), ([0], [0]), ([], []), ([1, 2], [1, 2]), ([3], [3]), ([4], [4]), ([], []), ([6], [6]), ([7], [7]), ([8], [8]), ([], []), ([10], [10]), ([9, 11], [9, 11]), ([5, 12], [5, 12]), ([13, 13, 0, 1, 2, 3, 4, 5, 6, 7, 8, 9, 10, 11, 12, 13], [13])])
def sp8.B : List Nat := [0, 1, 0, 7, 15, 31, 0, 64, 192, 448, 0, 1024, 4032, 8191, 16383]
theorem sp8.tab : rtab .any (opsOf Try.f37 8) = sp8.T := by kernel_rfl
theorem sp8.bits : waitsOk sp8.T.2 sp8.B = true := by kernel_rfl
set_option maxHeartbeats 4000000 in
set_option maxRecDepth 100000 in
theorem split {w : World} {base g : Nat} {Vp Vf Vl : Value} {n : Int} {P : List Pc} {past fut : List St} (hB : Bf w base g Vp Vf Vl n P past fut) (hl : P.length ≤ 4398046511103) (hs : (tx P).length ≤ 140737488355328) (x : Int) (h0 : 0 ≤ x) (h1 : x ≤ n) :
    Calls Try.prog 37 #[.pointer (some ⟨g, 0, none⟩), .int .i64 x] w fun e w' => ∃ Vh Vt, e = .returned (.tuple #[Vh, Vt]) ∧ Kd.R kP 53 w' w.heap.size (fun _ => True) Vh (hdP P x.toNat) ∧ Kd.R kP 53 w' w.heap.size (fun _ => True) Vt (tlP P x.toNat) ∧ Below w.heap.size w w' := by
  have c3 : w.cell? ⟨g, 2, none⟩ = some Vl := (blk_cell hB.c 2).trans rfl
  obtain ⟨A, c, rfl, hlc, hC⟩ := R_reads0 hB.l
  have HR := Aside0.mk hC
  have HLen := Aside0.mk hl
  have HN := Aside0.mk hB.n
  have HS := Aside0.mk hs
  have HE := Aside0.mk hB.ne
  have HX := Aside0.mk (And.intro h0 h1)
  have HLC := Aside0.mk hlc
  have HG := Aside0.mk c3
  have HB0 := Aside0.mk (Below.refl w.heap.size w)
  clear hB hlc hC hl h0 h1 hs
  go_enter Try.func37, Try.ntmps37
  go_wp2
  clear c3
  go_loopg [6, 17] (P.length + 1) (fun kq v6 v17 w' => ∃ (x6 x17 : Int), v6 = .int .i64 x6 ∧ v17 = .int .i64 x17 ∧ Aside0 (0 ≤ x6 ∧ (x6 < x ∨ x17 = 0) ∧ x6 ≤ x ∧ x6 + ((tx (P.drop x17.toNat)).length : Int) = ((tx P).length : Int)) ∧ Aside0 (hdP P x.toNat = P.take x17.toNat ++ hdP (P.drop x17.toNat) (x - x6).toNat ∧ tlP P x.toNat = tlP (P.drop x17.toNat) (x - x6).toNat) ∧ Aside0 (0 ≤ x17 ∧ x17.toNat ≤ P.length ∧ kq + x17.toNat = P.length + 1) ∧ Aside0 (Below w.heap.size w w'))
  case atStart => exact ⟨0, 0, rfl, rfl, ⟨Int.le_refl 0, .inr rfl, HX.out.1, by simp⟩, ⟨by simp, by simp⟩, ⟨by omega, Nat.zero_le _, by simp⟩, HB0⟩
  case round =>
    clear HB0
    obtain ⟨x6, x17, rfl, rfl, HA, HD, HI, HB⟩ := hrel
    have p1 : 0 ≤ x17 := HI.out.1
    by_cases c1 : x17 < (P.length : Int)
    · have c1n : x17.toNat < P.length := by omega
      have d1 : decide (x17 < (P.length : Int)) = true := decide_eq_true c1
      have hE := HA.out
      have hD := HD.out
      rw [List.drop_eq_getElem_cons c1n] at hE hD
      have hrd : P[x17.toNat] = rd_T53 P x17 := by simp [rd_T53, List.getD, c1n]
      rw [hrd] at hE hD
      rw [tx_cons] at hE
      have PG := Aside0.mk (show P[x17.toNat]? = some (rd_T53 P x17) from by rw [List.getElem?_eq_getElem c1n, hrd])
      clear hrd
      obtain ⟨ad, e1, hx0⟩ := at_T53 HR.out x17 p1 c1
      cases e1
      replace hx0 := (HB.out.cell (World.block_lt_of_cell? w _ hx0)).trans hx0
      clear c1n HA HD
      replace p1 := eq_true p1
      have C1 := Aside0.mk c1
      replace c1 := eq_true c1
      generalize rd_T53 P x17 = p at hE hD hx0 PG
      obtain ⟨s⟩ := p
      dsimp only at hE hD hx0
      have hsl : s.data.toList.length = s.size := by simp
      have hE4 := hE.2.2.2
      rw [List.length_append, hsl] at hE4
      have hsz : x6 + (s.size : Int) ≤ 140737488355328 := by have := HS.out; omega
      have ew : wrap64 (x6 + (s.size : Int)) = x6 + (s.size : Int) := by have := hE.1; unfold wrap64; omega
      by_cases c2 : x6 + (s.size : Int) ≥ x
      · have d2 : decide (x ≤ wrap64 (x6 + (s.size : Int))) = true := by rw [ew]; exact decide_eq_true c2
        have d2b : decide (wrap64 (x6 + (s.size : Int)) ≥ x) = true := d2
        clear ew
        obtain ⟨k, hk⟩ : ∃ k : Int, k = x - x6 := ⟨_, rfl⟩
        have ewk : wrap64 (x - x6) = k := by have := hE.1; have := hE.2.2.1; have := HX.out; have := HN.out; have := HS.out; rw [hk]; unfold wrap64; omega
        have EWK := Aside0.mk ewk
        clear ewk
        have k0 : 0 ≤ k := by have := hE.2.2.1; omega
        have k1 : k ≤ (s.size : Int) := by omega
        rw [← hk] at hD
        have hDh : hdP P x.toNat = P.take x17.toNat ++ [⟨s.extract 0 k.toNat⟩] := by
          rw [hD.1]; simp only [hdP]; rw [if_pos (by omega)]
        have hDt : tlP P x.toNat = ⟨s.extract k.toNat s.size⟩ :: P.drop (x17.toNat + 1) := by
          rw [hD.2]; simp only [tlP]; rw [if_pos (by omega)]
        have DH := Aside0.mk hDh
        have DT := Aside0.mk hDt
        have gk0 := eq_true k0
        have gk1 := eq_true k1
        have dk0 : decide (0 ≤ k) = true := decide_eq_true k0
        have dk1 : decide (k ≤ (s.size : Int)) = true := decide_eq_true k1
        clear hE hE4 hD hDh hDt hsl hsz c2 k0 k1 hk
        go_wp2
        rw [EWK.out]
        have n0_ : Aside0 (Below w.heap.size w (wr.alloc (.cells #[.string s] 53)).drew) := ⟨below_drew1 (below_alloc HB.out _)⟩
        have n1_ : Aside0 ((wr.alloc (.cells #[.string s] 53)).drew.heap[wr.heap.size]? = some (.cells #[.string s] 53 (0, 0))) := ⟨blk_new wr _⟩
        clear HB
        have HB := n0_
        have BX := n1_
        clear n0_ n1_
        have ix0 : 0 ≤ x17 := HI.out.1
        have HTK := Aside0.mk (show (P.take x17.toNat).length = x17.toNat by rw [List.length_take]; have := HI.out; omega)
        have si0 : decide (0 ≤ x17) = true := decide_eq_true ix0
        have si1 : decide (x17 ≤ (c : Int)) = true := decide_eq_true (by have := HLC.out; have := C1.out; omega)
        have si2 : decide (x17 ≤ x17) = true := decide_eq_true (Int.le_refl _)
        have si3 : (x17 ≤ (c : Int)) = True := eq_true (by have := HLC.out; have := C1.out; omega)
        have HGe := Aside0.mk (World.block_lt_of_cell? w _ HG.out)
        clear ix0
        refine start_ (n := 15) (S := fun w' => w'.cell? ⟨g, 2, none⟩ = some (.slice (some ad) P.length c) ∧ w'.cell? ⟨wr.heap.size, 0, none⟩ = some (.string s)) (ds := []) #[false, false, false, false, false, false, false, false, false, false, false, false, false, false, false] (by kernel_rfl) rfl rfl ⟨(HB.out.cell (World.block_lt_of_cell? w _ HG.out)).trans HG.out, (blk_cell BX.out 0).trans rfl⟩ (fun hHeld => ?_); refine with_tabW sp7.tab sp7.bits (fun HT_ HW_ => ?_)
        generalize (wr.alloc (.cells #[.string s] 53)).drew = w5 at HB BX hHeld ⊢
        refine pure_ (i := 0) (N := some 32) (v := ?_) (a' := ?_) #[true, false, false, false, false, false, false, false, false, false, false, false, false, false, false] rfl rfl (any_of HT_.out (by kernel_rfl)) (fun _ _ _ h => h) (Or.inl ⟨by rfl, ?_⟩) ?_ ?_
        rotate_left
        · intro w'
          go_simp
          try with_reducible rfl
        rotate_left
        · simp only [Act.put, List.setIfInBounds_toArray, List.set_cons_zero, List.set_cons_succ, i64_w, i32_w]
          rfl
        refine pure_ (i := 1) (N := some 33) (v := ?_) (a' := ?_) #[true, true, false, false, false, false, false, false, false, false, false, false, false, false, false] rfl rfl (any_of HT_.out (by kernel_rfl)) (fun _ _ _ h => h) (Or.inl ⟨by rfl, ?_⟩) ?_ ?_
        rotate_left
        · intro w'
          go_simp
          try with_reducible rfl
        rotate_left
        · simp only [Act.put, List.setIfInBounds_toArray, List.set_cons_zero, List.set_cons_succ, i64_w, i32_w]
          rfl
        refine pure_ (i := 2) (N := some 34) (v := ?_) (a' := ?_) #[true, true, true, false, false, false, false, false, false, false, false, false, false, false, false] rfl rfl (any_of HT_.out (by kernel_rfl)) (fun _ _ _ h => h) (Or.inl ⟨by rfl, ?_⟩) ?_ ?_
        rotate_left
        · intro w'
          go_simp
          try with_reducible rfl
        rotate_left
        · simp only [Act.put, List.setIfInBounds_toArray, List.set_cons_zero, List.set_cons_succ, i64_w, i32_w]
          rfl
        refine take_ (i := 3) (N := some 35) (v := ?_) (a' := ?_) #[true, true, true, true, false, false, false, false, false, false, false, false, false, false, false] rfl rfl (take_ofW HT_.out HW_.out (by kernel_rfl)) (fun _ _ _ h => h) (Or.inl ⟨by rfl, ?_⟩) hHeld ?_ ?_
        rotate_left
        · rintro w' ⟨s0, s1⟩
          go_simp
          try with_reducible rfl
        rotate_left
        · simp only [Act.put, List.setIfInBounds_toArray, List.set_cons_zero, List.set_cons_succ, i64_w, i32_w]
          rfl
        refine pure_ (i := 4) (N := some 36) (v := ?_) (a' := ?_) #[true, true, true, true, true, false, false, false, false, false, false, false, false, false, false] rfl rfl (any_of HT_.out (by kernel_rfl)) (fun _ _ _ h => h) (Or.inl ⟨by rfl, ?_⟩) ?_ ?_
        rotate_left
        · intro w'
          go_simp
          try with_reducible rfl
        rotate_left
        · simp only [Act.put, List.setIfInBounds_toArray, List.set_cons_zero, List.set_cons_succ, i64_w, i32_w]
          rfl
        refine pure_ (i := 5) (N := some 37) (v := ?_) (a' := ?_) #[true, true, true, true, true, true, false, false, false, false, false, false, false, false, false] rfl rfl (any_of HT_.out (by kernel_rfl)) (fun _ _ _ h => h) (Or.inl ⟨by rfl, ?_⟩) ?_ ?_
        rotate_left
        · intro w'
          go_simp
          try with_reducible rfl
        rotate_left
        · simp only [Act.put, List.setIfInBounds_toArray, List.set_cons_zero, List.set_cons_succ, i64_w, i32_w]
          rfl
        refine pure_ (i := 6) (N := some 38) (v := ?_) (a' := ?_) #[true, true, true, true, true, true, true, false, false, false, false, false, false, false, false] rfl rfl (any_of HT_.out (by kernel_rfl)) (fun _ _ _ h => h) (Or.inl ⟨by rfl, ?_⟩) ?_ ?_
        rotate_left
        · intro w'
          go_simp
          try with_reducible rfl
        rotate_left
        · simp only [Act.put, List.setIfInBounds_toArray, List.set_cons_zero, List.set_cons_succ, i64_w, i32_w]
          rfl
        refine pure_ (i := 7) (N := some 39) (v := ?_) (a' := ?_) #[true, true, true, true, true, true, true, true, false, false, false, false, false, false, false] rfl rfl (any_of HT_.out (by kernel_rfl)) (fun _ _ _ h => h) (Or.inl ⟨by rfl, ?_⟩) ?_ ?_
        rotate_left
        · intro w'
          go_simp
          try with_reducible rfl
        rotate_left
        · simp only [Act.put, List.setIfInBounds_toArray, List.set_cons_zero, List.set_cons_succ, i64_w, i32_w]
          rfl
        refine take_ (i := 8) (N := some 40) (v := ?_) (a' := ?_) #[true, true, true, true, true, true, true, true, true, false, false, false, false, false, false] rfl rfl (take_ofW HT_.out HW_.out (by kernel_rfl)) (fun _ _ _ h => h) (Or.inl ⟨by rfl, ?_⟩) hHeld ?_ ?_
        rotate_left
        · rintro w' ⟨s0, s1⟩
          go_simp
          try with_reducible rfl
        rotate_left
        · simp only [Act.put, List.setIfInBounds_toArray, List.set_cons_zero, List.set_cons_succ, i64_w, i32_w]
          rfl
        refine pure_ (i := 9) (N := some 41) (v := ?_) (a' := ?_) #[true, true, true, true, true, true, true, true, true, true, false, false, false, false, false] rfl rfl (any_of HT_.out (by kernel_rfl)) (fun _ _ _ h => h) (Or.inl ⟨by rfl, ?_⟩) ?_ ?_
        rotate_left
        · intro w'
          go_simp
          try with_reducible rfl
        rotate_left
        · simp only [Act.put, List.setIfInBounds_toArray, List.set_cons_zero, List.set_cons_succ, i64_w, i32_w]
          rfl
        refine pure_ (i := 10) (N := some 42) (v := ?_) (a' := ?_) #[true, true, true, true, true, true, true, true, true, true, true, false, false, false, false] rfl rfl (any_of HT_.out (by kernel_rfl)) (fun _ _ _ h => h) (Or.inl ⟨by rfl, ?_⟩) ?_ ?_
        rotate_left
        · intro w'
          go_simp
          try with_reducible rfl
        rotate_left
        · simp only [Act.put, List.setIfInBounds_toArray, List.set_cons_zero, List.set_cons_succ, i64_w, i32_w]
          rfl
        refine pure_ (i := 11) (N := some 43) (v := ?_) (a' := ?_) #[true, true, true, true, true, true, true, true, true, true, true, true, false, false, false] rfl rfl (any_of HT_.out (by kernel_rfl)) (fun _ _ _ h => h) (Or.inl ⟨by rfl, ?_⟩) ?_ ?_
        rotate_left
        · intro w'
          go_simp
          try with_reducible rfl
        rotate_left
        · simp only [Act.put, List.setIfInBounds_toArray, List.set_cons_zero, List.set_cons_succ, i64_w, i32_w]
          rfl
        refine one_ (i := 12) (N := some 44) #[true, true, true, true, true, true, true, true, true, true, true, true, true, false, false] rfl rfl (one_of HT_.out (by kernel_rfl)) (by decide) (fun K hK => ?_)
        refine lit1_step ?hg (N := 44) ?hd (u := .string (s.extract 0 k.toNat)) (t := 53) ?hr ?_; (case hd => rfl); (case hg => rfl); (case hr => first | (go_simp; done) | (go_simp; rfl))
        intro gl hgl w6 hbox hb
        have n0_ := Aside0.mk (below_step HB.out hb)
        have n1_ := Aside0.mk (blk_below BX.out hb)
        clear HB BX
        have HB := n0_
        have BX := n1_
        have BL := Aside0.mk hbox
        clear n0_ n1_ hb hbox hgl
        refine hK.out _ _ ⟨(HB.out.cell (World.block_lt_of_cell? w _ HG.out)).trans HG.out, (blk_cell BX.out 0).trans rfl⟩ (fun hHeld => ?_)
        clear hK K
        refine norm_ (a' := ?_) ?_ ?_
        rotate_left
        · show Act.put _ (some 44) _ = _
          simp only [Act.put, List.setIfInBounds_toArray, List.set_cons_zero, List.set_cons_succ, i64_w, i32_w]
          rfl
        refine one_ (i := 13) (N := some 45) #[true, true, true, true, true, true, true, true, true, true, true, true, true, true, false] rfl rfl (one_of HT_.out (by kernel_rfl)) (by decide) (fun K hK => ?_)
        refine grow_step rfl (.tmp 38) (.tmp 44) rfl (some ad) (P.take x17.toNat) ?hs ?hC (fun h => by cases h) gl (s.extract 0 k.toNat) rfl ((blk_cell BL.out 0).trans rfl) ?hl ?_
        case hs => rw [HTK.out]; rfl
        case hC => rw [HTK.out]; exact ReadsRow.take_ (Kd.C_below HR.out HB.out) (by have := HI.out; omega)
        case hl => have := HTK.out; have := HI.out; have := HLen.out; omega
        intro Vh w7 hR hb
        have n0_ := Aside0.mk (below_step HB.out hb)
        have n1_ := Aside0.mk (blk_below BX.out hb)
        have HRh := Aside0.mk (Kd.R_lower hR HB.out.size)
        clear HB BX BL
        have HB := n0_
        have BX := n1_
        clear n0_ n1_ hb hR
        refine hK.out _ _ ⟨(HB.out.cell (World.block_lt_of_cell? w _ HG.out)).trans HG.out, (blk_cell BX.out 0).trans rfl⟩ (fun hHeld => ?_)
        clear hK K
        refine norm_ (a' := ?_) ?_ ?_
        rotate_left
        · show Act.put _ (some 45) _ = _
          simp only [Act.put, List.setIfInBounds_toArray, List.set_cons_zero, List.set_cons_succ, i64_w, i32_w]
          rfl
        refine pure_ (i := 14) (N := some 10) (v := ?_) (a' := ?_) #[true, true, true, true, true, true, true, true, true, true, true, true, true, true, true] rfl rfl (any_of HT_.out (by kernel_rfl)) (fun _ _ _ h => h) (Or.inl ⟨by rfl, ?_⟩) ?_ ?_
        rotate_left
        · intro w'
          go_simp
          try with_reducible rfl
        rotate_left
        · simp only [Act.put, List.setIfInBounds_toArray, List.set_cons_zero, List.set_cons_succ, i64_w, i32_w]
          rfl
        refine done_ (done_of HT_.out (by kernel_rfl)) ?_
        clear hHeld
        have HHf := Aside0.mk (R_slice0 HRh.out)
        go_wp2
        have n0_ := Aside0.mk (below_drew1 HB.out)
        have n1_ := Aside0.mk (blk_drew BX.out)
        have n2_ := Aside0.mk (Kd.R_drew HRh.out)
        clear HB BX HRh
        have HB := n0_
        have BX := n1_
        have HRh := n2_
        clear n0_ n1_ n2_
        have e17 : wrap64 (x17 + 1) = x17 + 1 := by have := HI.out; have := HLen.out; unfold wrap64; omega
        have E17 := Aside0.mk e17
        have ti0 : decide (0 ≤ wrap64 (x17 + 1)) = true := by rw [e17]; exact decide_eq_true (by have := HI.out; omega)
        have ti1 : decide (wrap64 (x17 + 1) ≤ (P.length : Int)) = true := by rw [e17]; exact decide_eq_true (by have := C1.out; omega)
        have ti2 : (wrap64 (x17 + 1) ≤ (P.length : Int)) = True := by rw [e17]; exact eq_true (by have := C1.out; omega)
        have ti3 : (0 ≤ wrap64 (x17 + 1)) = True := by rw [e17]; exact eq_true (by have := HI.out; omega)
        have ti4 : ((P.length : Int) ≤ (c : Int)) = True := eq_true (by have := HLC.out; omega)
        have ti5 : decide ((P.length : Int) ≤ (c : Int)) = true := decide_eq_true (by have := HLC.out; omega)
        clear e17
        refine start_ (n := 15) (S := fun w' => w'.cell? ⟨g, 2, none⟩ = some (.slice (some ad) P.length c) ∧ w'.cell? ⟨wr.heap.size, 0, none⟩ = some (.string s)) (ds := []) #[false, false, false, false, false, false, false, false, false, false, false, false, false, false, false] (by kernel_rfl) rfl rfl ⟨(HB.out.cell (World.block_lt_of_cell? w _ HG.out)).trans HG.out, (blk_cell BX.out 0).trans rfl⟩ (fun hHeld => ?_); refine with_tabW sp8.tab sp8.bits (fun HT_ HW_ => ?_)
        generalize w7.drew = w8 at HB BX HRh hHeld ⊢
        refine pure_ (i := 0) (N := some 46) (v := ?_) (a' := ?_) #[true, false, false, false, false, false, false, false, false, false, false, false, false, false, false] rfl rfl (any_of HT_.out (by kernel_rfl)) (fun _ _ _ h => h) (Or.inl ⟨by rfl, ?_⟩) ?_ ?_
        rotate_left
        · intro w'
          go_simp
          try with_reducible rfl
        rotate_left
        · simp only [Act.put, List.setIfInBounds_toArray, List.set_cons_zero, List.set_cons_succ, i64_w, i32_w]
          rfl
        refine take_ (i := 1) (N := some 47) (v := ?_) (a' := ?_) #[true, true, false, false, false, false, false, false, false, false, false, false, false, false, false] rfl rfl (take_ofW HT_.out HW_.out (by kernel_rfl)) (fun _ _ _ h => h) (Or.inl ⟨by rfl, ?_⟩) hHeld ?_ ?_
        rotate_left
        · rintro w' ⟨s0, s1⟩
          go_simp
          try with_reducible rfl
        rotate_left
        · simp only [Act.put, List.setIfInBounds_toArray, List.set_cons_zero, List.set_cons_succ, i64_w, i32_w]
          rfl
        refine pure_ (i := 2) (N := some 48) (v := ?_) (a' := ?_) #[true, true, true, false, false, false, false, false, false, false, false, false, false, false, false] rfl rfl (any_of HT_.out (by kernel_rfl)) (fun _ _ _ h => h) (Or.inl ⟨by rfl, ?_⟩) ?_ ?_
        rotate_left
        · intro w'
          go_simp
          try with_reducible rfl
        rotate_left
        · simp only [Act.put, List.setIfInBounds_toArray, List.set_cons_zero, List.set_cons_succ, i64_w, i32_w]
          rfl
        refine pure_ (i := 3) (N := some 49) (v := ?_) (a' := ?_) #[true, true, true, true, false, false, false, false, false, false, false, false, false, false, false] rfl rfl (any_of HT_.out (by kernel_rfl)) (fun _ _ _ h => h) (Or.inl ⟨by rfl, ?_⟩) ?_ ?_
        rotate_left
        · intro w'
          go_simp
          try with_reducible rfl
        rotate_left
        · simp only [Act.put, List.setIfInBounds_toArray, List.set_cons_zero, List.set_cons_succ, i64_w, i32_w]
          rfl
        refine pure_ (i := 4) (N := some 50) (v := ?_) (a' := ?_) #[true, true, true, true, true, false, false, false, false, false, false, false, false, false, false] rfl rfl (any_of HT_.out (by kernel_rfl)) (fun _ _ _ h => h) (Or.inl ⟨by rfl, ?_⟩) ?_ ?_
        rotate_left
        · intro w'
          go_simp
          try with_reducible rfl
        rotate_left
        · simp only [Act.put, List.setIfInBounds_toArray, List.set_cons_zero, List.set_cons_succ, i64_w, i32_w]
          rfl
        refine pure_ (i := 6) (N := some 52) (v := ?_) (a' := ?_) #[true, true, true, true, true, false, true, false, false, false, false, false, false, false, false] rfl rfl (any_of HT_.out (by kernel_rfl)) (fun _ _ _ h => h) (Or.inl ⟨by rfl, ?_⟩) ?_ ?_
        rotate_left
        · intro w'
          go_simp
          try with_reducible rfl
        rotate_left
        · simp only [Act.put, List.setIfInBounds_toArray, List.set_cons_zero, List.set_cons_succ, i64_w, i32_w]
          rfl
        refine pure_ (i := 7) (N := some 53) (v := ?_) (a' := ?_) #[true, true, true, true, true, false, true, true, false, false, false, false, false, false, false] rfl rfl (any_of HT_.out (by kernel_rfl)) (fun _ _ _ h => h) (Or.inl ⟨by rfl, ?_⟩) ?_ ?_
        rotate_left
        · intro w'
          go_simp
          try with_reducible rfl
        rotate_left
        · simp only [Act.put, List.setIfInBounds_toArray, List.set_cons_zero, List.set_cons_succ, i64_w, i32_w]
          rfl
        refine pure_ (i := 8) (N := some 54) (v := ?_) (a' := ?_) #[true, true, true, true, true, false, true, true, true, false, false, false, false, false, false] rfl rfl (any_of HT_.out (by kernel_rfl)) (fun _ _ _ h => h) (Or.inl ⟨by rfl, ?_⟩) ?_ ?_
        rotate_left
        · intro w'
          go_simp
          try with_reducible rfl
        rotate_left
        · simp only [Act.put, List.setIfInBounds_toArray, List.set_cons_zero, List.set_cons_succ, i64_w, i32_w]
          rfl
        refine take_ (i := 9) (N := some 55) (v := ?_) (a' := ?_) #[true, true, true, true, true, false, true, true, true, true, false, false, false, false, false] rfl rfl (take_ofW HT_.out HW_.out (by kernel_rfl)) (fun _ _ _ h => h) (Or.inl ⟨by rfl, ?_⟩) hHeld ?_ ?_
        rotate_left
        · rintro w' ⟨s0, s1⟩
          go_simp
          try with_reducible rfl
        rotate_left
        · simp only [Act.put, List.setIfInBounds_toArray, List.set_cons_zero, List.set_cons_succ, i64_w, i32_w]
          rfl
        refine pure_ (i := 10) (N := some 56) (v := ?_) (a' := ?_) #[true, true, true, true, true, false, true, true, true, true, true, false, false, false, false] rfl rfl (any_of HT_.out (by kernel_rfl)) (fun _ _ _ h => h) (Or.inl ⟨by rfl, ?_⟩) ?_ ?_
        rotate_left
        · intro w'
          go_simp
          try with_reducible rfl
        rotate_left
        · simp only [Act.put, List.setIfInBounds_toArray, List.set_cons_zero, List.set_cons_succ, i64_w, i32_w]
          rfl
        refine pure_ (i := 11) (N := some 57) (v := ?_) (a' := ?_) #[true, true, true, true, true, false, true, true, true, true, true, true, false, false, false] rfl rfl (any_of HT_.out (by kernel_rfl)) (fun _ _ _ h => h) (Or.inl ⟨by rfl, ?_⟩) ?_ ?_
        rotate_left
        · intro w'
          go_simp
          try with_reducible rfl
        rotate_left
        · simp only [Act.put, List.setIfInBounds_toArray, List.set_cons_zero, List.set_cons_succ, i64_w, i32_w]
          rfl
        refine pure_ (i := 12) (N := some 58) (v := ?_) (a' := ?_) #[true, true, true, true, true, false, true, true, true, true, true, true, true, false, false] rfl rfl (any_of HT_.out (by kernel_rfl)) (fun _ _ _ h => h) (Or.inl ⟨by rfl, ?_⟩) ?_ ?_
        rotate_left
        · intro w'
          go_simp
          try with_reducible rfl
        rotate_left
        · simp only [Act.put, List.setIfInBounds_toArray, List.set_cons_zero, List.set_cons_succ, i64_w, i32_w]
          rfl
        refine one_ (i := 5) (N := some 51) #[true, true, true, true, true, true, true, true, true, true, true, true, true, false, false] rfl rfl (one_of HT_.out (by kernel_rfl)) (by decide) (fun K hK => ?_)
        refine Kd.R_lit_step kP (w0 := w) w.heap.size 53 ?hw (N := 51) ?hd (xs := [(⟨s.extract k.toNat s.size⟩ : Pc)]) (inner := [.string (s.extract k.toNat s.size)]) (ok := fun _ => True) (okp := fun _ => False) ?hr ?rep (fun _ h => h.elim) trivial HB.out HB.out.size (by simp) ?_; (case hd => rfl); (case hw => rfl); (case hr => first | (go_simp; done) | (go_simp; rfl)); (case rep => exact Reps.one (k53_mkM _ _ _ (⟨s.extract k.toNat s.size⟩ : Pc)) (Reps.none _ _))
        intro Vq w9 ho hb hg hat
        have hbb : Below w8.heap.size w8 w9 := (Below.refl _ _).grown hg (Nat.le_refl _) (fun k hk => by cases hk)
        have n0_ := Aside0.mk (below_step HB.out hbb)
        have HBXlt := Aside0.mk (blk_lt BX.out)
        have n1_ := Aside0.mk (blk_below BX.out hbb)
        have n2_ := Aside0.mk (Kd.R_below (Kd.R_mono (ok' := fun k => k < w8.heap.size) (Kd.R_bound HRh.out) (fun k hk => hk.2.2.1)) hbb)
        clear HB BX HRh
        have HB := n0_
        have BX := n1_
        have HRh := n2_
        have HRq := Aside0.mk ho
        have HQ8 := Aside0.mk hat
        clear n0_ n1_ n2_ ho hb hg hat hbb
        refine hK.out _ _ ⟨(HB.out.cell (World.block_lt_of_cell? w _ HG.out)).trans HG.out, (blk_cell BX.out 0).trans rfl⟩ (fun hHeld => ?_)
        clear hK K
        refine norm_ (a' := ?_) ?_ ?_
        rotate_left
        · show Act.put _ (some 51) _ = _
          simp only [Act.put, List.setIfInBounds_toArray, List.set_cons_zero, List.set_cons_succ, i64_w, i32_w]
          rfl
        refine one_ (i := 13) (N := some 59) #[true, true, true, true, true, true, true, true, true, true, true, true, true, true, false] rfl rfl (one_of HT_.out (by kernel_rfl)) (by decide) (fun K hK => ?_)
        refine Kd.R_append_rows_step kP (Rr := kP.K w9) (w0 := w) w.heap.size rfl (.tmp 51) (.tmp 58) 54 53 (.agg #[.string ⟨#[]⟩]) 16 rfl Try.underlying54 infoP rfl (by decide) (by omega) Vq [(⟨s.extract k.toNat s.size⟩ : Pc)] (P.drop (x17.toNat + 1)) (if c = (wrap64 (x17 + 1)).toNat then some ad else some (ad.add (wrap64 (x17 + 1)).toNat)) (P.length - (wrap64 (x17 + 1)).toNat) (c - (wrap64 (x17 + 1)).toNat) (fun _ => True) (fun _ => False) rfl rfl HRq.out ?HR (fun x cs h => by obtain rfl := k53_open h; exact k53_mkM _ _ _ x) (fun _ h => h.elim) (fun _ _ => trivial) HB.out HB.out.size ?hl ?_
        case HR => rw [E17.out]; have h17 : (x17 + 1).toNat = x17.toNat + 1 := (by have := HI.out; omega); rw [h17]; have hCd := Kd.C_drop (m := x17.toNat + 1) (c := c) (Kd.C_below HR.out HB.out) (by have := C1.out; have := HI.out; omega) HLC.out; rw [List.length_drop, show kP.sz = 1 from rfl, Nat.mul_one] at hCd; exact hCd
        case hl => have := HLen.out; simp only [List.length_singleton]; omega
        intro Vt w10 hR hb hg hat
        have n0_ := Aside0.mk (hb)
        have n1_ := Aside0.mk (blk_grown BX.out hg (by obtain ⟨b8, hb8, hle8⟩ := HQ8.out; rw [hb8]; intro e8; injection e8 with e8; have := HBXlt.out; omega))
        have n2_ := Aside0.mk (Kd.R_mono (ok' := fun _ => True) (Kd.R_grown HRh.out hg (fun k hk => by obtain ⟨b8, hb8, hle8⟩ := HQ8.out; rw [hb8]; intro e8; injection e8 with e8; omega)) (fun _ _ => trivial))
        have HRt := Aside0.mk hR
        clear HB BX HRh HRq HQ8
        have HB := n0_
        have BX := n1_
        have HRh := n2_
        clear n0_ n1_ n2_ hR hb hg hat
        refine hK.out _ _ ⟨(HB.out.cell (World.block_lt_of_cell? w _ HG.out)).trans HG.out, (blk_cell BX.out 0).trans rfl⟩ (fun hHeld => ?_)
        clear hK K
        refine norm_ (a' := ?_) ?_ ?_
        rotate_left
        · show Act.put _ (some 59) _ = _
          simp only [Act.put, List.setIfInBounds_toArray, List.set_cons_zero, List.set_cons_succ, i64_w, i32_w]
          rfl
        refine pure_ (i := 14) (N := some 11) (v := ?_) (a' := ?_) #[true, true, true, true, true, true, true, true, true, true, true, true, true, true, true] rfl rfl (any_of HT_.out (by kernel_rfl)) (fun _ _ _ h => h) (Or.inl ⟨by rfl, ?_⟩) ?_ ?_
        rotate_left
        · intro w'
          go_simp
          try with_reducible rfl
        rotate_left
        · simp only [Act.put, List.setIfInBounds_toArray, List.set_cons_zero, List.set_cons_succ, i64_w, i32_w]
          rfl
        refine done_ (done_of HT_.out (by kernel_rfl)) ?_
        clear hHeld
        go_wp2
        all_goals go_ret2
        all_goals exact ⟨_, _, rfl, by rw [DH.out]; exact HRh.out, by rw [DT.out]; exact HRt.out, HB.out⟩
      · have d2 : decide (x ≤ wrap64 (x6 + (s.size : Int))) = false := by rw [ew]; exact decide_eq_false c2
        have d2b : decide (wrap64 (x6 + (s.size : Int)) ≥ x) = false := d2
        have e2 : (x17 + 1).toNat = x17.toNat + 1 := by have := HI.out.1; omega
        have hA2 : 0 ≤ x6 + (s.size : Int) ∧ (x6 + (s.size : Int) < x ∨ x17 + 1 = 0) ∧ x6 + (s.size : Int) ≤ x ∧ x6 + (s.size : Int) + ((tx (P.drop (x17.toNat + 1))).length : Int) = ((tx P).length : Int) := ⟨by have := hE.1; omega, .inl (by omega), by omega, by omega⟩
        have hD2 : hdP P x.toNat = P.take (x17.toNat + 1) ++ hdP (P.drop (x17.toNat + 1)) (x - (x6 + (s.size : Int))).toNat ∧ tlP P x.toNat = tlP (P.drop (x17.toNat + 1)) (x - (x6 + (s.size : Int))).toNat := by
          have ek : (x - (x6 + (s.size : Int))).toNat = (x - x6).toNat - s.size := by omega
          rw [ek]
          refine ⟨?_, ?_⟩
          · rw [hD.1]; simp only [hdP]; rw [if_neg (by omega)]
            rw [List.take_add_one, PG.out, List.append_assoc]
            rfl
          · rw [hD.2]; simp only [tlP]; rw [if_neg (by omega)]
        have A2 := Aside0.mk hA2
        have D2 := Aside0.mk hD2
        have E2 := Aside0.mk e2
        have EW := Aside0.mk ew
        clear hE hE4 hD hsl hsz c2 hA2 hD2 e2 ew
        go_wp2
        go_roundg (gk - 1)
        case measure => have := HI.out; omega
        case rel =>
          have hi := HI.out
          have hm := HLen.out
          have hlt := C1.out
          have ew2 : wrap64 (x17 + 1) = x17 + 1 := by unfold wrap64; omega
          exact ⟨_, _, by rw [EW.out], by rw [ew2], by rw [E2.out]; exact A2, by rw [E2.out]; exact D2, ⟨by omega, by omega, by omega⟩, ⟨HB.out.alloc HB.out.size _⟩⟩
    · have hE := HA.out
      have hdr : P.drop x17.toNat = [] := List.drop_eq_nil_of_le (by omega)
      rw [hdr] at hE
      have h0 : (tx ([] : List Pc)).length = 0 := rfl
      have hne := HE.out
      have hN := HN.out
      have hX := HX.out
      have hpos : 0 < P.length := List.length_pos_iff.2 hne
      exfalso
      rcases hE.2.1 with h | h
      · have := hE.2.2.2; omega
      · omega
end Go.Proofs.Ytpghnadlekafpaa.PBuf
