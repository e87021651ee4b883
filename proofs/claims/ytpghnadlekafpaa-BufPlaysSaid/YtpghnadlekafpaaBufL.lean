/- BufLooks, walked. -/
import Derived.Test.YtpghnadlekafpaaBufJ
namespace Go.Proofs.Ytpghnadlekafpaa.PBuf
open Go.RowKit Go.Proofs.YtpghnadlekafpaaW.PrintWords Go.Proofs.YtpghnadlekafpaaW.PrintLast Go.Proofs.YtpghnadlekafpaaW.PrintMore
set_option linter.unusedVariables false
set_option linter.unusedSimpArgs false
abbrev Ac := S37
abbrev kA := k37
theorem Great2_l0 : ∀ (q p : List X) (k : Nat), q.length < k → (p ++ q).length ≤ 9223372036854775807 → frisketref01_Great.l0 k (p ++ q) (p.length : Int) = some ((q.any fun e => decide ((e.f2.size : Int) > 100)) || decide (((p ++ q).length : Int) > 30)) := by
  intro q
  induction q with
  | nil =>
    intro p k hk hb
    obtain ⟨k, rfl⟩ : ∃ m, k = m + 1 := ⟨k - 1, by simp at hk; omega⟩
    simp only [frisketref01_Great.l0]
    rw [if_neg (by simp)]
    simp
  | cons e q ih =>
    intro p k hk hb
    obtain ⟨k, rfl⟩ : ∃ m, k = m + 1 := ⟨k - 1, by simp at hk; omega⟩
    have hl := mid_len p e q
    simp only [frisketref01_Great.l0]
    rw [if_pos (by omega), if_pos (by omega)]
    rw [show rd_T40 (p ++ e :: q) (p.length : Int) = e from rd_mid p e q]
    by_cases c1 : (e.f2.size : Int) > 100
    · rw [if_pos c1, List.any_cons, decide_eq_true c1]; rfl
    · rw [if_neg c1, w64 _ (by omega) (by omega), List.any_cons, decide_eq_false c1, Bool.false_or, mid_assoc, ← snoc_len p e]
      exact ih (p ++ [e]) k (by simp at hk; omega) (by rw [← mid_assoc]; exact hb)
theorem Great2_eq (l : List X) (k : Nat) (hk : l.length < k) (hb : l.length ≤ 9223372036854775807) : frisketref01_Great.f k l = some (gr l) := by
  unfold frisketref01_Great.f
  exact Great2_l0 l [] k hk hb
def grA (l : List Ac) : Bool := (l.any fun a => decide ((a.f3.size : Int) > 100) || gr a.f4) || decide ((l.length : Int) > 60)
def wt : List Ac → Nat
  | [] => 1
  | a :: l => a.f4.length + 2 + wt l
theorem rdA_mid (p : List Ac) (e : Ac) (q : List Ac) : rd_T37 (p ++ e :: q) (p.length : Int) = e := by
  simp [rd_T37, List.getD]
theorem great_l0 : ∀ (q p : List Ac) (k : Nat), wt q ≤ k → (p ++ q).length ≤ 9223372036854775807 → (∀ a ∈ q, a.f4.length ≤ 9223372036854775807) → frisketlaw02_great.l0 k (p ++ q) (p.length : Int) = some ((q.any fun a => decide ((a.f3.size : Int) > 100) || gr a.f4) || decide (((p ++ q).length : Int) > 60)) := by
  intro q
  induction q with
  | nil =>
    intro p k hk hb _
    obtain ⟨k, rfl⟩ : ∃ m, k = m + 1 := ⟨k - 1, by simp [wt] at hk; omega⟩
    simp only [frisketlaw02_great.l0]
    rw [if_neg (by simp)]
    simp
  | cons e q ih =>
    intro p k hk hb hi
    simp only [wt] at hk
    obtain ⟨k, rfl⟩ : ∃ m, k = m + 1 := ⟨k - 1, by omega⟩
    have hl : (p ++ e :: q).length = p.length + q.length + 1 := by simp; omega
    have ha : p ++ e :: q = (p ++ [e]) ++ q := by simp
    have hs : ((p ++ [e]).length : Int) = (p.length : Int) + 1 := by simp
    simp only [frisketlaw02_great.l0]
    rw [if_pos (by omega), if_pos (by omega)]
    rw [show rd_T37 (p ++ e :: q) (p.length : Int) = e from rdA_mid p e q]
    by_cases c1 : (e.f3.size : Int) > 100
    · rw [if_pos c1, List.any_cons, decide_eq_true c1]; rfl
    · rw [if_neg c1, Great2_eq e.f4 k (by omega) (hi e List.mem_cons_self), Option.bind_some, List.any_cons, decide_eq_false c1, Bool.false_or]
      cases hg : gr e.f4 with
      | true => rw [if_pos rfl]; rfl
      | false =>
        rw [if_neg (by simp), w64 _ (by omega) (by omega), Bool.false_or, ha, ← hs]
        exact ih (p ++ [e]) k (by omega) (by rw [← ha]; exact hb) (fun x hx => hi x (List.mem_cons_of_mem _ hx))
theorem C_inner {w : World} {A : Option Addr} {n : Nat} {l : List Ac} (h : Kd.C kA w A n l) : ∀ a ∈ l, a.f4.length ≤ 9223372036854775807 := by
  intro a ha
  obtain ⟨i, hi, rfl⟩ := List.getElem_of_mem ha
  obtain ⟨ad, A4, c4, -, -, -, -, -, -, -, hc⟩ := at_T37 h (i : Int) (by omega) (by have := h.1; omega)
  have e : rd_T37 l (i : Int) = l[i] := by simp [rd_T37, List.getD, hi]
  rw [e] at hc
  exact hc.2.1
theorem great_eq {w : World} {A : Option Addr} {n : Nat} (l : List Ac) (h : Kd.C kA w A n l) : frisketlaw02_great.f (wt l) l = some (grA l) := by
  unfold frisketlaw02_great.f
  have := great_l0 l [] (wt l) (Nat.le_refl _) (by have := h.1; have := h.2.1; simp; omega) (C_inner h)
  exact this
theorem grA_no {l : List Ac} (h : grA l = false) : l.length ≤ 60 ∧ ∀ a ∈ l, a.f3.size ≤ 100 ∧ gr a.f4 = false := by
  unfold grA at h
  rw [Bool.or_eq_false_iff] at h
  obtain ⟨h1, h2⟩ := h
  refine ⟨by have := of_decide_eq_false h2; omega, fun e he => ?_⟩
  have := List.any_eq_false.1 h1 e he
  simp at this
  exact ⟨by omega, by simpa using this.2⟩
theorem Bf.lower {w : World} {base b g : Nat} {Vp Vf Vl : Value} {n : Int} {P : List Pc} {past fut : List St} (h : Bf w base g Vp Vf Vl n P past fut) (hb : b ≤ base) : Bf w b g Vp Vf Vl n P past fut := ⟨h.c, Nat.le_trans hb h.g0, Kd.Q_lower h.p hb, Kd.Q_lower h.f hb, Kd.R_lower h.l hb, h.n, h.ne⟩
theorem sp_tx (P : List Pc) (x y : Int) (t : ByteArray) : tx (dosP P [⟨x, y, t⟩]) = (tx P).take x.toNat ++ t.data.toList ++ (tx P).drop y.toNat := tx_sp P _ _ t
/-- One splice, whatever comes of it. -/
theorem Splice_any {w0 w : World} {g : Nat} {Vp Vf Vl : Value} {n : Int} {P : List Pc} {past fut : List St} (hB : Bf w w0.heap.size g Vp Vf Vl n P past fut) (hw : Below w0.heap.size w0 w) (x y : Int) (t : ByteArray) (m : Nat) (hm : m ≤ 1000) (hn : n ≤ 300 + 100 * (m : Int)) (hz : t.size ≤ 100) (hP : P.length ≤ 1 + 2 * m) (hpl : past.length ≤ m) :
    Calls Try.prog 10 #[.pointer (some ⟨g, 0, none⟩), .int .i64 x, .int .i64 y, .string t] w fun e w' => ∃ z, e = .returned (.int .i64 z) ∧ ∃ Vp' Vf' Vl' n' P' past' fut', Bf w' w0.heap.size g Vp' Vf' Vl' n' P' past' fut' ∧ Below w0.heap.size w0 w' ∧ n' ≤ 300 + 100 * ((m + 1 : Nat) : Int) ∧ P'.length ≤ 1 + 2 * (m + 1) ∧ past'.length ≤ m + 1 := by
  cases hr : rt n 0 [(⟨x, y, t⟩ : X)] with
  | false =>
    refine (Splice_range hB x y t hr).mono ?_
    rintro e w' ⟨z, rfl, -, hb⟩
    exact ⟨z, rfl, Vp, Vf, Vl, n, P, past, fut, hB.below hb, below_step hw hb, by omega, by omega, by omega⟩
  | true =>
    obtain ⟨q1, q2, q3, -⟩ := rt_cons hr
    dsimp only at q1 q2 q3
    have hg := gw1 x y t
    have hN := hB.n
    refine (Splice_yes hB x y t (by omega) hr (by omega) (by omega) hw.size (by omega) (by omega)).mono ?_
    rintro e w' ⟨z, rfl, -, Vp', Vl', n', h1, h2, -⟩
    have hl := (dos_len P n [⟨x, y, t⟩] 0 hr).1
    have hn' := h1.n
    have hts : t.data.toList.length = t.size := by simp
    rw [sp_tx, List.length_append, List.length_append, List.length_take, List.length_drop, hts] at hn'
    refine ⟨z, rfl, Vp', _, Vl', n', _, _, _, h1, hw.trans (h2.below (fun i hi => (hB.foot_lt i hi).2) hw.size), by omega, by simp at hl; omega, ?_⟩
    unfold trim
    simp only [List.length_drop, List.length_append, List.length_singleton]
    omega
def lk7.T : Bool × List (List Nat × List Nat) := (true, [([], []), ([], []), ([], []), ([1, 2], [1, 2]), ([3], [3]), ([4], [4]), ([], []), ([], []), ([6, 7], [6, 7]), ([8], [8]), ([9], [9]), ([], []), ([], []), ([11, 12], [11, 12]), ([13], [13]), ([14], [14]), ([0, 5, 10, 15], [0, 5, 10, 15])])
def lk7.B : List Nat := [0, 0, 0, 6, 14, 30, 0, 0, 192, 448, 960, 0, 0, 6144, 14336, 30720, 65535]
theorem lk7.tab : rtab .any (opsOf Try.f5 7) = lk7.T := by kernel_rfl
theorem lk7.bits : waitsOk lk7.T.2 lk7.B = true := by kernel_rfl
set_option maxHeartbeats 8000000 in
set_option maxRecDepth 100000 in
theorem BufLooks (s : ByteArray) (A : Option Addr) (c : Nat) (l : List Ac) (x y : Int) (w : World) (hC : Kd.C kA w A l.length l) (hc : l.length ≤ c) : Calls Try.prog 5 #[.string s, .slice A l.length c, .int .i64 x, .int .i64 y] w fun e w' => e = .returned (.bool true) ∧ Below w.heap.size w w' := by
  have HB := Aside0.mk (Below.refl w.heap.size w)
  have HGR := Aside0.mk (fun (w1 : World) (hb : Below w.heap.size w w1) => (frisketlaw02_great.calls (wt l) A c l (grA l) w1 (Kd.C_below hC hb) hc (great_eq l hC)).mono (R' := fun e w' => e = .returned (.bool (grA l)) ∧ Below w1.heap.size w1 w') (fun e w' h => ⟨h.1, h.2.below⟩))
  have HC := Aside0.mk hC
  clear hC hc
  by_cases c1 : (s.size : Int) > 300
  · have d1 : decide ((s.size : Int) > 300) = true := decide_eq_true c1
    have d1b : decide (300 < (s.size : Int)) = true := d1
    clear c1
    go_enter Try.func5, Try.ntmps5
    go_wp2_with (go_at_call 8; refine (awake _).mono ?_; rintro e w3 ⟨rfl, hb⟩; have n0_ := Aside0.mk (below_step HB.out hb); clear HB hb; have HB := n0_; clear n0_)
    go_ret
    exact ⟨rfl, HB.out⟩
  have d1 : decide ((s.size : Int) > 300) = false := decide_eq_false c1
  have d1b : decide (300 < (s.size : Int)) = false := d1
  have HS := Aside0.mk (show s.size ≤ 300 by omega)
  clear c1
  cases hg : grA l with
  | true =>
    rw [hg] at HGR
    clear hg
    go_enter Try.func5, Try.ntmps5
    go_wp2_with (first | (go_at_call 14; refine (HGR.out _ HB.out).mono ?_; rintro e w3 ⟨rfl, hb⟩; have n0_ := Aside0.mk (below_step HB.out hb); clear HB hb; have HB := n0_; clear n0_) | (go_at_call 8; refine (awake _).mono ?_; rintro e w3 ⟨rfl, hb⟩; have n0_ := Aside0.mk (below_step HB.out hb); clear HB hb; have HB := n0_; clear n0_))
    go_ret
    exact ⟨rfl, HB.out⟩
  | false =>
    rw [hg] at HGR
    have HNO := Aside0.mk (grA_no hg)
    clear hg
    go_enter Try.func5, Try.ntmps5
    go_wp2_with (first | (go_at_call 14; refine (HGR.out _ HB.out).mono ?_; rintro e w3 ⟨rfl, hb⟩; have n0_ := Aside0.mk (below_step HB.out hb); clear HB hb; have HB := n0_; clear n0_) | (go_at_call 8; refine (awake _).mono ?_; rintro e w3 ⟨rfl, hb⟩; have n0_ := Aside0.mk (below_step HB.out hb); clear HB hb; have HB := n0_; clear n0_) | (go_at_call 9; refine (New s (by have := HS.out; omega) _).mono ?_; rintro e w4 ⟨g, Vl0, rfl, hB, hb⟩; have HF0 := Aside0.mk (Bf.lower hB HB.out.size); have n0_ := Aside0.mk (below_step HB.out hb); clear HB hb hB; have HB := n0_; clear n0_))
    all_goals (
    go_loopg [11] (l.length + 1) (fun kq v11 w' => ∃ (x11 : Int) (Vp Vf Vl : Value) (n : Int) (P : List Pc) (past fut : List St), v11 = .int .i64 x11 ∧ Aside0 (0 ≤ x11 ∧ x11.toNat ≤ l.length ∧ kq + x11.toNat = l.length + 1) ∧ Aside0 (Bf w' w.heap.size g Vp Vf Vl n P past fut) ∧ Aside0 (n ≤ 300 + 100 * (x11.toNat : Int) ∧ P.length ≤ 1 + 2 * x11.toNat ∧ past.length ≤ x11.toNat) ∧ Aside0 (Below w.heap.size w w'))
    case atStart => exact ⟨0, _, _, _, _, _, _, _, rfl, ⟨by omega, Nat.zero_le _, by simp⟩, HF0, ⟨by have := HS.out; simp; omega, by simp, by simp⟩, HB⟩
    case round =>
      clear HF0 HB
      obtain ⟨x11, Vp, Vf, Vl, n, P, past, fut, rfl, HI, HF, HN, HB⟩ := hrel
      have p1 : 0 ≤ x11 := HI.out.1
      by_cases c1 : x11 < (l.length : Int)
      · have d2 : decide (x11 < (l.length : Int)) = true := decide_eq_true c1
        obtain ⟨ad, A4, c4, e1, -, hx1, hx2, hx3, -, -, -⟩ := at_T37 HC.out x11 p1 c1
        cases e1
        replace hx1 := (HB.out.cell (World.block_lt_of_cell? w _ hx1)).trans hx1
        replace hx2 := (HB.out.cell (World.block_lt_of_cell? w _ hx2)).trans hx2
        replace hx3 := (HB.out.cell (World.block_lt_of_cell? w _ hx3)).trans hx3
        have hz : (rd_T37 l x11).f3.size ≤ 100 := by
          have hlt : x11.toNat < l.length := by omega
          have e : rd_T37 l x11 = l[x11.toNat] := by simp [rd_T37, List.getD, hlt]
          rw [e]
          exact (HNO.out.2 _ (List.getElem_mem hlt)).1
        generalize rd_T37 l x11 = a at hx1 hx2 hx3 hz
        obtain ⟨f0, f1, f2, f3, f4⟩ := a
        dsimp only at hx1 hx2 hx3 hz
        have HZ := Aside0.mk hz
        have C1 := Aside0.mk c1
        clear hz
        have g0 := eq_true p1
        have g1 := eq_true c1
        have e2 : (x11 + 1).toNat = x11.toNat + 1 := by omega
        have E2 := Aside0.mk e2
        have ew : wrap64 (x11 + 1) = x11 + 1 := by have := HNO.out.1; unfold wrap64; omega
        have EW := Aside0.mk ew
        clear e2 ew p1 c1
        go_wp2
        have HX := Aside0.mk (show wr.drew.cell? _ = _ ∧ wr.drew.cell? _ = _ ∧ wr.drew.cell? _ = _ from ⟨hx1, hx2, hx3⟩)
        have n0_ := Aside0.mk HF.out.drew
        have n1_ := Aside0.mk (below_drew1 HB.out)
        clear HF HB hx1 hx2 hx3
        have HF := n0_
        have HB := n1_
        clear n0_ n1_
        refine start_ (n := 17) (S := fun w' => w'.cell? ⟨(ad.add (x11.toNat * 5)).block, (ad.add (x11.toNat * 5)).off + 1, none⟩ = some (.int .i64 f1) ∧ w'.cell? ⟨(ad.add (x11.toNat * 5)).block, (ad.add (x11.toNat * 5)).off + 2, none⟩ = some (.int .i64 f2) ∧ w'.cell? ⟨(ad.add (x11.toNat * 5)).block, (ad.add (x11.toNat * 5)).off + 3, none⟩ = some (.string f3)) (ds := [16]) #[false, false, false, false, false, false, false, false, false, false, false, false, false, false, false, false, false] (by kernel_rfl) rfl rfl HX.out (fun hHeld => ?_); refine with_tabW lk7.tab lk7.bits (fun HT_ HW_ => ?_)
        generalize wr.drew = w5 at HF HB HX hHeld ⊢
        refine pure_ (i := 0) (N := some 41) (v := ?_) (a' := ?_) #[true, false, false, false, false, false, false, false, false, false, false, false, false, false, false, false, false] rfl rfl (any_of HT_.out (by kernel_rfl)) (fun _ _ _ h => h) (Or.inl ⟨by rfl, ?_⟩) ?_ ?_
        rotate_left
        · intro w'
          go_simp
          try with_reducible rfl
        rotate_left
        · simp only [Act.put, List.setIfInBounds_toArray, List.set_cons_zero, List.set_cons_succ, i64_w, i32_w]
          rfl
        refine pure_ (i := 1) (N := some 42) (v := ?_) (a' := ?_) #[true, true, false, false, false, false, false, false, false, false, false, false, false, false, false, false, false] rfl rfl (any_of HT_.out (by kernel_rfl)) (fun _ _ _ h => h) (Or.inl ⟨by rfl, ?_⟩) ?_ ?_
        rotate_left
        · intro w'
          go_simp
          try with_reducible rfl
        rotate_left
        · simp only [Act.put, List.setIfInBounds_toArray, List.set_cons_zero, List.set_cons_succ, i64_w, i32_w]
          rfl
        refine pure_ (i := 2) (N := some 43) (v := ?_) (a' := ?_) #[true, true, true, false, false, false, false, false, false, false, false, false, false, false, false, false, false] rfl rfl (any_of HT_.out (by kernel_rfl)) (fun _ _ _ h => h) (Or.inl ⟨by rfl, ?_⟩) ?_ ?_
        rotate_left
        · intro w'
          go_simp
          try with_reducible rfl
        rotate_left
        · simp only [Act.put, List.setIfInBounds_toArray, List.set_cons_zero, List.set_cons_succ, i64_w, i32_w]
          rfl
        refine pure_ (i := 3) (N := some 44) (v := ?_) (a' := ?_) #[true, true, true, true, false, false, false, false, false, false, false, false, false, false, false, false, false] rfl rfl (any_of HT_.out (by kernel_rfl)) (fun _ _ _ h => h) (Or.inl ⟨by rfl, ?_⟩) ?_ ?_
        rotate_left
        · intro w'
          go_simp
          try with_reducible rfl
        rotate_left
        · simp only [Act.put, List.setIfInBounds_toArray, List.set_cons_zero, List.set_cons_succ, i64_w, i32_w]
          rfl
        refine pure_ (i := 4) (N := some 45) (v := ?_) (a' := ?_) #[true, true, true, true, true, false, false, false, false, false, false, false, false, false, false, false, false] rfl rfl (any_of HT_.out (by kernel_rfl)) (fun _ _ _ h => h) (Or.inl ⟨by rfl, ?_⟩) ?_ ?_
        rotate_left
        · intro w'
          go_simp
          try with_reducible rfl
        rotate_left
        · simp only [Act.put, List.setIfInBounds_toArray, List.set_cons_zero, List.set_cons_succ, i64_w, i32_w]
          rfl
        refine take_ (i := 5) (N := some 46) (v := ?_) (a' := ?_) #[true, true, true, true, true, true, false, false, false, false, false, false, false, false, false, false, false] rfl rfl (take_ofW HT_.out HW_.out (by kernel_rfl)) (fun _ _ _ h => h) (Or.inl ⟨by rfl, ?_⟩) hHeld ?_ ?_
        rotate_left
        · rintro w' ⟨s0, s1, s2⟩
          go_simp
          try with_reducible rfl
        rotate_left
        · simp only [Act.put, List.setIfInBounds_toArray, List.set_cons_zero, List.set_cons_succ, i64_w, i32_w]
          rfl
        refine pure_ (i := 6) (N := some 47) (v := ?_) (a' := ?_) #[true, true, true, true, true, true, true, false, false, false, false, false, false, false, false, false, false] rfl rfl (any_of HT_.out (by kernel_rfl)) (fun _ _ _ h => h) (Or.inl ⟨by rfl, ?_⟩) ?_ ?_
        rotate_left
        · intro w'
          go_simp
          try with_reducible rfl
        rotate_left
        · simp only [Act.put, List.setIfInBounds_toArray, List.set_cons_zero, List.set_cons_succ, i64_w, i32_w]
          rfl
        refine pure_ (i := 7) (N := some 48) (v := ?_) (a' := ?_) #[true, true, true, true, true, true, true, true, false, false, false, false, false, false, false, false, false] rfl rfl (any_of HT_.out (by kernel_rfl)) (fun _ _ _ h => h) (Or.inl ⟨by rfl, ?_⟩) ?_ ?_
        rotate_left
        · intro w'
          go_simp
          try with_reducible rfl
        rotate_left
        · simp only [Act.put, List.setIfInBounds_toArray, List.set_cons_zero, List.set_cons_succ, i64_w, i32_w]
          rfl
        refine pure_ (i := 8) (N := some 49) (v := ?_) (a' := ?_) #[true, true, true, true, true, true, true, true, true, false, false, false, false, false, false, false, false] rfl rfl (any_of HT_.out (by kernel_rfl)) (fun _ _ _ h => h) (Or.inl ⟨by rfl, ?_⟩) ?_ ?_
        rotate_left
        · intro w'
          go_simp
          try with_reducible rfl
        rotate_left
        · simp only [Act.put, List.setIfInBounds_toArray, List.set_cons_zero, List.set_cons_succ, i64_w, i32_w]
          rfl
        refine pure_ (i := 9) (N := some 50) (v := ?_) (a' := ?_) #[true, true, true, true, true, true, true, true, true, true, false, false, false, false, false, false, false] rfl rfl (any_of HT_.out (by kernel_rfl)) (fun _ _ _ h => h) (Or.inl ⟨by rfl, ?_⟩) ?_ ?_
        rotate_left
        · intro w'
          go_simp
          try with_reducible rfl
        rotate_left
        · simp only [Act.put, List.setIfInBounds_toArray, List.set_cons_zero, List.set_cons_succ, i64_w, i32_w]
          rfl
        refine take_ (i := 10) (N := some 51) (v := ?_) (a' := ?_) #[true, true, true, true, true, true, true, true, true, true, true, false, false, false, false, false, false] rfl rfl (take_ofW HT_.out HW_.out (by kernel_rfl)) (fun _ _ _ h => h) (Or.inl ⟨by rfl, ?_⟩) hHeld ?_ ?_
        rotate_left
        · rintro w' ⟨s0, s1, s2⟩
          go_simp
          try with_reducible rfl
        rotate_left
        · simp only [Act.put, List.setIfInBounds_toArray, List.set_cons_zero, List.set_cons_succ, i64_w, i32_w]
          rfl
        refine pure_ (i := 11) (N := some 52) (v := ?_) (a' := ?_) #[true, true, true, true, true, true, true, true, true, true, true, true, false, false, false, false, false] rfl rfl (any_of HT_.out (by kernel_rfl)) (fun _ _ _ h => h) (Or.inl ⟨by rfl, ?_⟩) ?_ ?_
        rotate_left
        · intro w'
          go_simp
          try with_reducible rfl
        rotate_left
        · simp only [Act.put, List.setIfInBounds_toArray, List.set_cons_zero, List.set_cons_succ, i64_w, i32_w]
          rfl
        refine pure_ (i := 12) (N := some 53) (v := ?_) (a' := ?_) #[true, true, true, true, true, true, true, true, true, true, true, true, true, false, false, false, false] rfl rfl (any_of HT_.out (by kernel_rfl)) (fun _ _ _ h => h) (Or.inl ⟨by rfl, ?_⟩) ?_ ?_
        rotate_left
        · intro w'
          go_simp
          try with_reducible rfl
        rotate_left
        · simp only [Act.put, List.setIfInBounds_toArray, List.set_cons_zero, List.set_cons_succ, i64_w, i32_w]
          rfl
        refine pure_ (i := 13) (N := some 54) (v := ?_) (a' := ?_) #[true, true, true, true, true, true, true, true, true, true, true, true, true, true, false, false, false] rfl rfl (any_of HT_.out (by kernel_rfl)) (fun _ _ _ h => h) (Or.inl ⟨by rfl, ?_⟩) ?_ ?_
        rotate_left
        · intro w'
          go_simp
          try with_reducible rfl
        rotate_left
        · simp only [Act.put, List.setIfInBounds_toArray, List.set_cons_zero, List.set_cons_succ, i64_w, i32_w]
          rfl
        refine pure_ (i := 14) (N := some 55) (v := ?_) (a' := ?_) #[true, true, true, true, true, true, true, true, true, true, true, true, true, true, true, false, false] rfl rfl (any_of HT_.out (by kernel_rfl)) (fun _ _ _ h => h) (Or.inl ⟨by rfl, ?_⟩) ?_ ?_
        rotate_left
        · intro w'
          go_simp
          try with_reducible rfl
        rotate_left
        · simp only [Act.put, List.setIfInBounds_toArray, List.set_cons_zero, List.set_cons_succ, i64_w, i32_w]
          rfl
        refine take_ (i := 15) (N := some 56) (v := ?_) (a' := ?_) #[true, true, true, true, true, true, true, true, true, true, true, true, true, true, true, true, false] rfl rfl (take_ofW HT_.out HW_.out (by kernel_rfl)) (fun _ _ _ h => h) (Or.inl ⟨by rfl, ?_⟩) hHeld ?_ ?_
        rotate_left
        · rintro w' ⟨s0, s1, s2⟩
          go_simp
          try with_reducible rfl
        rotate_left
        · simp only [Act.put, List.setIfInBounds_toArray, List.set_cons_zero, List.set_cons_succ, i64_w, i32_w]
          rfl
        refine last_ (i := 16) (N := some 57) #[true, true, true, true, true, true, true, true, true, true, true, true, true, true, true, true, true] rfl rfl (one_of HT_.out (by kernel_rfl)) (by decide) (fun K hK => ?_)
        refine goes_ Try.func10 (by kernel_rfl) rfl #[.pointer (some ⟨g, 0, none⟩), .int .i64 f1, .int .i64 f2, .string f3] (by rfl) rfl rfl (by (try simp only [List.map_toArray, List.map_cons, List.map_nil]); first | done | rfl) ?_
        refine (Splice_any HF.out HB.out f1 f2 f3 x11.toNat (by have := HNO.out.1; have := HI.out; omega) HN.out.1 HZ.out HN.out.2.1 HN.out.2.2).mono ?_
        rintro e w6 ⟨z, rfl, Vp6, Vf6, Vl6, n6, P6, past6, fut6, hB, hb, hn, hp, hq⟩
        refine ⟨_, rfl, ?_⟩
        have n0_ := Aside0.mk hB
        have n1_ := Aside0.mk hb
        have HN6 := Aside0.mk (And.intro hn (And.intro hp hq))
        clear HF HB HX hB hb hn hp hq
        have HF := n0_
        have HB := n1_
        clear n0_ n1_
        refine hK.out _ _ ?_
        clear hK K
        refine done_ (done_of HT_.out (by kernel_rfl)) ?_
        clear hHeld
        go_wp2
        go_roundg (gk - 1)
        case measure => have := HI.out; have := C1.out; omega
        case rel =>
          have hi := HI.out
          have hc := C1.out
          exact ⟨_, Vp6, Vf6, Vl6, n6, P6, past6, fut6, by rw [EW.out], ⟨by omega, by omega, by omega⟩, HF, by rw [E2.out]; exact HN6, HB⟩
      · have d2 : decide (x11 < (l.length : Int)) = false := decide_eq_false c1
        have hn : n ≤ 6300 := by have := HN.out.1; have := HI.out; have := HNO.out.1; omega
        have hN := HF.out.n
        have hP : P.length ≤ 121 := by have := HN.out.2.1; have := HI.out; have := HNO.out.1; omega
        obtain ⟨T, hT⟩ : ∃ T, tb P = T := ⟨_, rfl⟩
        have hTs : (T.size : Int) = n := by rw [← hT, tb_size, hN]
        have HTX := Aside0.mk (fun w1 (hb : Below wr.heap.size wr w1) => Text (HF.out.below hb) (by omega) (by omega))
        have HSY := Aside0.mk (fun (h : 0 ≤ x ∧ x ≤ y ∧ y ≤ n) w1 (hb : Below wr.heap.size wr w1) => Slice_yes (.pointer (some ⟨g, 0, none⟩)) n x y T w1 (Len (HF.out.below hb)) (fun w2 hb2 => by rw [← hT]; exact Text ((HF.out.below hb).below hb2) (by omega) (by omega)) hTs.symm h)
        have HSN := Aside0.mk (fun (h : ¬ (0 ≤ x ∧ x ≤ y ∧ y ≤ n)) w1 (hb : Below wr.heap.size wr w1) => Slice_no (.pointer (some ⟨g, 0, none⟩)) n x y w1 (Len (HF.out.below hb)) h)
        have HAN := Aside0.mk (fun (h : ¬ (0 ≤ x ∧ x < n)) w1 (hb : Below wr.heap.size wr w1) => At_no (.pointer (some ⟨g, 0, none⟩)) n x w1 (Len (HF.out.below hb)) h)
        have HAY := Aside0.mk (fun (h : 0 ≤ x ∧ x < n) (hx : x.toNat < T.size) w1 (hb : Below wr.heap.size wr w1) => by
          have := At_yes (HF.out.below hb) (by omega) (by omega) x h.1 h.2
          have e : (tx P).getD x.toNat 0 = T[x.toNat] := by
            have hl : x.toNat < (tx P).length := by omega
            rw [List.getD_eq_getElem?_getD, List.getElem?_eq_getElem hl]
            subst hT
            rfl
          rw [e] at this
          exact this)
        rw [hT] at HTX
        have HB0 := Aside0.mk (Below.refl wr.heap.size wr)
        clear hN hP hT hn c1 HF HN HI
        have hts := hTs
        clear hTs
        by_cases k1 : 0 ≤ x
        · by_cases k2 : x < n
          · by_cases k3 : y < x
            · have hk := And.intro k1 (And.intro k2 k3)
              clear k1 k2 k3
              obtain ⟨k1, k2, k3⟩ := hk
              have a0 : decide (x ≥ 0) = true := decide_eq_true (by omega)
              have a1 : decide (x < (T.size : Int)) = true := decide_eq_true (by omega)
              have a2 : (x < (T.size : Int)) = True := eq_true (by omega)
              have a3 : (0 ≤ x) = True := eq_true (by omega)
              have a4 : decide (0 ≤ x) = true := decide_eq_true (by omega)
              have a5 : decide (x < 0) = false := decide_eq_false (by omega)
              have hxT : x.toNat < T.size := by omega
              have HAT := Aside0.mk (HAY.out (by omega) hxT)
              have b0 : decide (y < x) = true := decide_eq_true (by omega)
              have HSL := Aside0.mk (HSN.out (by omega))
              clear HSY HSN HAY HAN hts k1 k2 k3
              go_wp2_with (first | (go_at_call 16; refine (HTX.out _ HB0.out).mono ?_; rintro e w3 ⟨rfl, hb⟩; have n0_ := Aside0.mk (below_step HB0.out hb); clear HB0 hb; have HB0 := n0_; clear n0_) | (go_at_call 18; refine (HSL.out _ HB0.out).mono ?_; rintro e w3 ⟨rfl, hb⟩; have n0_ := Aside0.mk (below_step HB0.out hb); clear HB0 hb; have HB0 := n0_; clear n0_) | (go_at_call 19; refine (HAT.out _ HB0.out).mono ?_; rintro e w3 ⟨rfl, hb⟩; have n0_ := Aside0.mk (below_step HB0.out hb); clear HB0 hb; have HB0 := n0_; clear n0_))
              all_goals go_ret
              all_goals exact ⟨by first | rfl | simp, below_step HB.out HB0.out⟩
            · by_cases k4 : y ≤ n
              · skip
                have a0 : decide (x ≥ 0) = true := decide_eq_true (by omega)
                have a1 : decide (x < (T.size : Int)) = true := decide_eq_true (by omega)
                have a2 : (x < (T.size : Int)) = True := eq_true (by omega)
                have a3 : (0 ≤ x) = True := eq_true (by omega)
                have a4 : decide (0 ≤ x) = true := decide_eq_true (by omega)
                have a5 : decide (x < 0) = false := decide_eq_false (by omega)
                have hxT : x.toNat < T.size := by omega
                have HAT := Aside0.mk (HAY.out (by omega) hxT)
                have b0 : decide (y < x) = false := decide_eq_false (by omega)
                have b1 : decide (y > (T.size : Int)) = false := decide_eq_false (by omega)
                have b1b : decide ((T.size : Int) < y) = false := b1
                have b2 : (x ≤ y) = True := eq_true (by omega)
                have b3 : (y ≤ (T.size : Int)) = True := eq_true (by omega)
                have b4 : decide (x ≤ y) = true := decide_eq_true (by omega)
                have b5 : decide (y ≤ (T.size : Int)) = true := decide_eq_true (by omega)
                have HSL := Aside0.mk (HSY.out (by omega))
                clear HSY HSN HAY HAN hts k1 k2 k3 k4
                go_wp2_with (first | (go_at_call 16; refine (HTX.out _ HB0.out).mono ?_; rintro e w3 ⟨rfl, hb⟩; have n0_ := Aside0.mk (below_step HB0.out hb); clear HB0 hb; have HB0 := n0_; clear n0_) | (go_at_call 18; refine (HSL.out _ HB0.out).mono ?_; rintro e w3 ⟨rfl, hb⟩; have n0_ := Aside0.mk (below_step HB0.out hb); clear HB0 hb; have HB0 := n0_; clear n0_) | (go_at_call 19; refine (HAT.out _ HB0.out).mono ?_; rintro e w3 ⟨rfl, hb⟩; have n0_ := Aside0.mk (below_step HB0.out hb); clear HB0 hb; have HB0 := n0_; clear n0_))
                all_goals go_ret
                all_goals exact ⟨by first | rfl | simp, below_step HB.out HB0.out⟩
              · skip
                have a0 : decide (x ≥ 0) = true := decide_eq_true (by omega)
                have a1 : decide (x < (T.size : Int)) = true := decide_eq_true (by omega)
                have a2 : (x < (T.size : Int)) = True := eq_true (by omega)
                have a3 : (0 ≤ x) = True := eq_true (by omega)
                have a4 : decide (0 ≤ x) = true := decide_eq_true (by omega)
                have a5 : decide (x < 0) = false := decide_eq_false (by omega)
                have hxT : x.toNat < T.size := by omega
                have HAT := Aside0.mk (HAY.out (by omega) hxT)
                have b0 : decide (y < x) = false := decide_eq_false (by omega)
                have b1 : decide (y > (T.size : Int)) = true := decide_eq_true (by omega)
                have b1b : decide ((T.size : Int) < y) = true := b1
                have HSL := Aside0.mk (HSN.out (by omega))
                clear HSY HSN HAY HAN hts k1 k2 k3 k4
                go_wp2_with (first | (go_at_call 16; refine (HTX.out _ HB0.out).mono ?_; rintro e w3 ⟨rfl, hb⟩; have n0_ := Aside0.mk (below_step HB0.out hb); clear HB0 hb; have HB0 := n0_; clear n0_) | (go_at_call 18; refine (HSL.out _ HB0.out).mono ?_; rintro e w3 ⟨rfl, hb⟩; have n0_ := Aside0.mk (below_step HB0.out hb); clear HB0 hb; have HB0 := n0_; clear n0_) | (go_at_call 19; refine (HAT.out _ HB0.out).mono ?_; rintro e w3 ⟨rfl, hb⟩; have n0_ := Aside0.mk (below_step HB0.out hb); clear HB0 hb; have HB0 := n0_; clear n0_))
                all_goals go_ret
                all_goals exact ⟨by first | rfl | simp, below_step HB.out HB0.out⟩
          · by_cases k3 : y < x
            · skip
              have HAT := Aside0.mk (HAN.out (by omega))
              have a0 : decide (x ≥ 0) = true := decide_eq_true (by omega)
              have a1 : decide (x < (T.size : Int)) = false := decide_eq_false (by omega)
              have a5 : decide (x < 0) = false := decide_eq_false (by omega)
              have a3 : (0 ≤ x) = True := eq_true (by omega)
              have a4 : decide (0 ≤ x) = true := decide_eq_true (by omega)
              have b0 : decide (y < x) = true := decide_eq_true (by omega)
              have HSL := Aside0.mk (HSN.out (by omega))
              clear HSY HSN HAY HAN hts k1 k2 k3
              go_wp2_with (first | (go_at_call 16; refine (HTX.out _ HB0.out).mono ?_; rintro e w3 ⟨rfl, hb⟩; have n0_ := Aside0.mk (below_step HB0.out hb); clear HB0 hb; have HB0 := n0_; clear n0_) | (go_at_call 18; refine (HSL.out _ HB0.out).mono ?_; rintro e w3 ⟨rfl, hb⟩; have n0_ := Aside0.mk (below_step HB0.out hb); clear HB0 hb; have HB0 := n0_; clear n0_) | (go_at_call 19; refine (HAT.out _ HB0.out).mono ?_; rintro e w3 ⟨rfl, hb⟩; have n0_ := Aside0.mk (below_step HB0.out hb); clear HB0 hb; have HB0 := n0_; clear n0_))
              all_goals go_ret
              all_goals exact ⟨by first | rfl | simp, below_step HB.out HB0.out⟩
            · by_cases k4 : y ≤ n
              · skip
                have HAT := Aside0.mk (HAN.out (by omega))
                have a0 : decide (x ≥ 0) = true := decide_eq_true (by omega)
                have a1 : decide (x < (T.size : Int)) = false := decide_eq_false (by omega)
                have a5 : decide (x < 0) = false := decide_eq_false (by omega)
                have a3 : (0 ≤ x) = True := eq_true (by omega)
                have a4 : decide (0 ≤ x) = true := decide_eq_true (by omega)
                have b0 : decide (y < x) = false := decide_eq_false (by omega)
                have b1 : decide (y > (T.size : Int)) = false := decide_eq_false (by omega)
                have b1b : decide ((T.size : Int) < y) = false := b1
                have b2 : (x ≤ y) = True := eq_true (by omega)
                have b3 : (y ≤ (T.size : Int)) = True := eq_true (by omega)
                have b4 : decide (x ≤ y) = true := decide_eq_true (by omega)
                have b5 : decide (y ≤ (T.size : Int)) = true := decide_eq_true (by omega)
                have HSL := Aside0.mk (HSY.out (by omega))
                clear HSY HSN HAY HAN hts k1 k2 k3 k4
                go_wp2_with (first | (go_at_call 16; refine (HTX.out _ HB0.out).mono ?_; rintro e w3 ⟨rfl, hb⟩; have n0_ := Aside0.mk (below_step HB0.out hb); clear HB0 hb; have HB0 := n0_; clear n0_) | (go_at_call 18; refine (HSL.out _ HB0.out).mono ?_; rintro e w3 ⟨rfl, hb⟩; have n0_ := Aside0.mk (below_step HB0.out hb); clear HB0 hb; have HB0 := n0_; clear n0_) | (go_at_call 19; refine (HAT.out _ HB0.out).mono ?_; rintro e w3 ⟨rfl, hb⟩; have n0_ := Aside0.mk (below_step HB0.out hb); clear HB0 hb; have HB0 := n0_; clear n0_))
                all_goals go_ret
                all_goals exact ⟨by first | rfl | simp, below_step HB.out HB0.out⟩
              · skip
                have HAT := Aside0.mk (HAN.out (by omega))
                have a0 : decide (x ≥ 0) = true := decide_eq_true (by omega)
                have a1 : decide (x < (T.size : Int)) = false := decide_eq_false (by omega)
                have a5 : decide (x < 0) = false := decide_eq_false (by omega)
                have a3 : (0 ≤ x) = True := eq_true (by omega)
                have a4 : decide (0 ≤ x) = true := decide_eq_true (by omega)
                have b0 : decide (y < x) = false := decide_eq_false (by omega)
                have b1 : decide (y > (T.size : Int)) = true := decide_eq_true (by omega)
                have b1b : decide ((T.size : Int) < y) = true := b1
                have HSL := Aside0.mk (HSN.out (by omega))
                clear HSY HSN HAY HAN hts k1 k2 k3 k4
                go_wp2_with (first | (go_at_call 16; refine (HTX.out _ HB0.out).mono ?_; rintro e w3 ⟨rfl, hb⟩; have n0_ := Aside0.mk (below_step HB0.out hb); clear HB0 hb; have HB0 := n0_; clear n0_) | (go_at_call 18; refine (HSL.out _ HB0.out).mono ?_; rintro e w3 ⟨rfl, hb⟩; have n0_ := Aside0.mk (below_step HB0.out hb); clear HB0 hb; have HB0 := n0_; clear n0_) | (go_at_call 19; refine (HAT.out _ HB0.out).mono ?_; rintro e w3 ⟨rfl, hb⟩; have n0_ := Aside0.mk (below_step HB0.out hb); clear HB0 hb; have HB0 := n0_; clear n0_))
                all_goals go_ret
                all_goals exact ⟨by first | rfl | simp, below_step HB.out HB0.out⟩
        · skip
          have HAT := Aside0.mk (HAN.out (by omega))
          have a0 : decide (x ≥ 0) = false := decide_eq_false (by omega)
          have a5 : decide (x < 0) = true := decide_eq_true (by omega)
          have HSL := Aside0.mk (HSN.out (by omega))
          clear HSY HSN HAY HAN hts k1
          go_wp2_with (first | (go_at_call 16; refine (HTX.out _ HB0.out).mono ?_; rintro e w3 ⟨rfl, hb⟩; have n0_ := Aside0.mk (below_step HB0.out hb); clear HB0 hb; have HB0 := n0_; clear n0_) | (go_at_call 18; refine (HSL.out _ HB0.out).mono ?_; rintro e w3 ⟨rfl, hb⟩; have n0_ := Aside0.mk (below_step HB0.out hb); clear HB0 hb; have HB0 := n0_; clear n0_) | (go_at_call 19; refine (HAT.out _ HB0.out).mono ?_; rintro e w3 ⟨rfl, hb⟩; have n0_ := Aside0.mk (below_step HB0.out hb); clear HB0 hb; have HB0 := n0_; clear n0_))
          all_goals go_ret
          all_goals exact ⟨by first | rfl | simp, below_step HB.out HB0.out⟩
    )
end Go.Proofs.Ytpghnadlekafpaa.PBuf
