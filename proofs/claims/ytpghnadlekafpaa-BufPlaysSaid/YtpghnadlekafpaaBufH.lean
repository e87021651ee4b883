/- Edits applied to a buffer. -/
import Derived.Test.YtpghnadlekafpaaBufG
namespace Go.Proofs.Ytpghnadlekafpaa.PBuf
open Go.RowKit Go.Proofs.YtpghnadlekafpaaW.PrintWords Go.Proofs.YtpghnadlekafpaaW.PrintLast Go.Proofs.YtpghnadlekafpaaW.PrintMore
set_option linter.unusedVariables false
set_option linter.unusedSimpArgs false
def gw : List X → Int
  | [] => 0
  | e :: l => (e.f2.size : Int) - (e.f1 - e.f0) + gw l
theorem grown_l0 (n : Int) (hn : n ≤ 1000000000) : ∀ (q p : List X) (k : Nat) (a : Int) (s : Int), q.length < k → (p ++ q).length ≤ 1000000 → 0 ≤ a → rt n a q = true → (∀ e ∈ q, e.f2.size ≤ 1000) → s + 1000000000 * q.length ≤ 1000000000000000 → -1000000000000000 ≤ s - 1000000000 * q.length →
    buf_grown.l0 k s (p ++ q) ((p ++ q).length : Int) (p.length : Int) = some (s + gw q) := by
  intro q
  induction q with
  | nil =>
    intro p k a s hk hb ha _ _ _ _
    obtain ⟨k, rfl⟩ : ∃ m, k = m + 1 := ⟨k - 1, by simp at hk; omega⟩
    simp only [buf_grown.l0, gw]
    rw [if_neg (by simp), Int.add_zero]
  | cons e q ih =>
    intro p k a s hk hb ha h hz h1 h2
    obtain ⟨k, rfl⟩ : ∃ m, k = m + 1 := ⟨k - 1, by simp at hk; omega⟩
    have hl := mid_len p e q
    obtain ⟨j1, j2, j3, j4⟩ := rt_cons h
    have hze := hz e List.mem_cons_self
    simp only [List.length_cons] at hk h1 h2
    simp only [buf_grown.l0, gw]
    rw [if_pos (by omega), if_pos (by omega), if_pos (by omega)]
    rw [show rd_T40 (p ++ e :: q) (p.length : Int) = e from rd_mid p e q]
    have w6 : wrap64 ((p.length : Int) + 1) = ((p ++ [e]).length : Int) := by rw [w64 _ (by omega) (by omega), snoc_len]
    have hl2 : ((p ++ e :: q).length : Int) = (((p ++ [e]) ++ q).length : Int) := by rw [← mid_assoc]
    rw [w64 (e.f1 - e.f0) (by omega) (by omega), w64 ((e.f2.size : Int) - (e.f1 - e.f0)) (by omega) (by omega), w64 (s + _) (by omega) (by omega), w6, hl2, mid_assoc p e q]
    rw [ih (p ++ [e]) k e.f1 _ (by omega) (by rw [← mid_assoc]; exact hb) (by omega) j4 (fun x hx => hz x (List.mem_cons_of_mem _ hx)) (by omega) (by omega)]
    congr 1
    omega
theorem grown_eq (n : Int) (hn : n ≤ 1000000000) (l : List X) (k : Nat) (hk : l.length < k) (hl : l.length ≤ 1000) (h : rt n 0 l = true) (hz : ∀ e ∈ l, e.f2.size ≤ 1000) : buf_grown.f k l = some (gw l) := by
  unfold buf_grown.f
  have := grown_l0 n hn l [] k 0 0 hk (by simp; omega) (Int.le_refl 0) h hz (by omega) (by omega)
  simpa using this
theorem tx_dos (P : List Pc) : ∀ l : List X, tx (dosP P l) = (tL l).foldr Ed.st (tx P) := by
  intro l
  induction l with
  | nil => rfl
  | cons e l ih =>
    have h1 : dosP P (e :: l) = spP (dosP P l) e.f0.toNat e.f1.toNat e.f2 := rfl
    have h2 : tL (e :: l) = tE e :: tL l := rfl
    rw [h1, h2, tx_sp, ih]
    rfl
theorem dos_len (P : List Pc) (n : Int) : ∀ (l : List X) (a : Int), rt n a l = true → (dosP P l).length ≤ P.length + 2 * l.length ∧ (P ≠ [] → dosP P l ≠ []) := by
  intro l
  induction l with
  | nil => intro a _; exact ⟨by simp [dosP], fun h => h⟩
  | cons e l ih =>
    intro a h
    obtain ⟨j1, j2, j3, j4⟩ := rt_cons h
    have i := ih e.f1 j4
    have h1 : dosP P (e :: l) = spP (dosP P l) e.f0.toNat e.f1.toNat e.f2 := rfl
    have s := sp_len (dosP P l) e.f0.toNat e.f1.toNat e.f2 (by omega)
    rw [h1]
    simp only [List.length_cons]
    exact ⟨by omega, fun _ he => by rw [he] at s; simp at s⟩
theorem okAt_of (P : List Pc) (n : Nat) (hP : (tx P).length = n) (hP2 : P.length ≤ 100000000000) (hn : n ≤ 1000000000000) : ∀ (l : List X) (a : Int), 0 ≤ a → rt (n : Int) a l = true → Ed.sz (tL l) ≤ 1000000000000 → l.length ≤ 1000000 → (∀ e ∈ l, e.f2.size ≤ 1000) → ∀ i, i < l.length → okAt P l i := by
  intro l
  induction l with
  | nil => intro a _ _ _ _ _ i hi; simp at hi
  | cons e l ih =>
    intro a ha h hz hl hs i hi
    obtain ⟨j1, j2, j3, j4⟩ := rt_cons h
    have h2 : tL (e :: l) = tE e :: tL l := rfl
    rw [h2] at hz
    simp only [Ed.sz] at hz
    simp only [List.length_cons] at hl hi
    cases i with
    | zero =>
      have hR := rt_R n l e.f1 (by omega) j4
      have hf := Ed.foldr_st n (tx P) hP (tL l) e.f1.toNat (by omega) hR
      have hap := Ed.ap_len n (tx P) hP (tL l) e.f1.toNat (by omega) hR
      have hlen : (tx (dosP P l)).length = e.f1.toNat + (Ed.ap (tx P) e.f1.toNat (tL l)).length := by
        rw [tx_dos, hf, List.length_append, List.length_take, hP]; omega
      have hd := (dos_len P n l e.f1 j4).1
      have hse := hs e List.mem_cons_self
      unfold okAt
      rw [show rd_T40 (e :: l) ((0 : Nat) : Int) = e from rfl, show (e :: l).drop (0 + 1) = l from rfl]
      exact ⟨by omega, j2, by omega, by omega, by omega, by omega⟩
    | succ i =>
      have := ih e.f1 (by omega) j4 (by omega) (by omega) (fun x hx => hs x (List.mem_cons_of_mem _ hx)) i (by omega)
      unfold okAt at this ⊢
      rw [show rd_T40 (e :: l) ((i + 1 : Nat) : Int) = rd_T40 l (i : Int) from by simp [rd_T40]]
      exact this
theorem sz_le1 {l : List X} (h : ∀ e ∈ l, e.f2.size ≤ 1000) : Ed.sz (tL l) ≤ 1000 * l.length := by
  induction l with
  | nil => simp [tL, Ed.sz]
  | cons e l ih =>
    have i1 := ih (fun x hx => h x (List.mem_cons_of_mem _ hx))
    have i2 := h e List.mem_cons_self
    have hcons : tL (e :: l) = tE e :: tL l := rfl
    rw [hcons]
    simp only [Ed.sz, tE, B_size, List.length_cons]
    omega
set_option maxHeartbeats 2000000 in
set_option maxRecDepth 100000 in
theorem Apply_none (V : Value) (w : World) : Calls Try.prog 15 #[.pointer none, V] w fun e w' => e = .returned (.int .i64 1) ∧ Below w.heap.size w w' := by
  go_enter Try.func15, Try.ntmps15
  go_wp2
  go_ret
  exact ⟨rfl, Below.refl _ _⟩
set_option maxHeartbeats 2000000 in
set_option maxRecDepth 100000 in
theorem Apply_range {w : World} {base g : Nat} {Vp Vf Vl : Value} {n : Int} {P : List Pc} {past fut : List St} (hB : Bf w base g Vp Vf Vl n P past fut) (A : Option Addr) (c : Nat) (l : List X) (hC : Kd.C kX w A l.length l) (hc : l.length ≤ c) (hl : l.length ≤ 1000) (hr : rt n 0 l = false) :
    Calls Try.prog 15 #[.pointer (some ⟨g, 0, none⟩), .slice A l.length c] w fun e w' => e = .returned (.int .i64 2) ∧ Below w.heap.size w w' := by
  have HRt := Aside0.mk (edits_Right.calls (l.length + 1) n A c l false w hC hc (by rw [Right_eq n l _ (by omega) (by omega), hr]))
  have c3 : w.cell? ⟨g, 3, none⟩ = some (.int .i64 n) := (blk_cell hB.c 3).trans rfl
  clear hB hC hc hl hr
  go_enter Try.func15, Try.ntmps15
  go_wp2_with (go_at_call 28; refine HRt.out.mono ?_; rintro e w1 ⟨rfl, hb⟩; have HB := Aside0.mk hb; clear hb)
  go_ret
  exact ⟨rfl, HB.out⟩
def ap5.T : Bool × List (List Nat × List Nat) := (true, [([], []), ([0], [0]), ([1], [1]), ([2], [2]), ([], []), ([4], [4]), ([3, 5], [3, 5]), ([6], [6]), ([7, 5], [7])])
def ap5.B : List Nat := [0, 1, 3, 7, 0, 16, 63, 127, 255]
theorem ap5.tab : rtab .any (opsOf Try.f15 5) = ap5.T := by kernel_rfl
theorem ap5.bits : waitsOk ap5.T.2 ap5.B = true := by kernel_rfl
set_option maxHeartbeats 4000000 in
set_option maxRecDepth 100000 in
theorem Apply_long {w : World} {base g : Nat} {Vp Vf Vl : Value} {n : Int} {P : List Pc} {past fut : List St} (hB : Bf w base g Vp Vf Vl n P past fut) (A : Option Addr) (c : Nat) (l : List X) (hC : Kd.C kX w A l.length l) (hc : l.length ≤ c) (hl : l.length ≤ 1000) (hn : n ≤ 1048576) (hr : rt n 0 l = true) (hz : ∀ e ∈ l, e.f2.size ≤ 1000) (hg : n + gw l > 1048576) (hg2 : n + gw l ≤ 1000000000000) : Calls Try.prog 15 #[.pointer (some ⟨g, 0, none⟩), .slice A l.length c] w fun e w' => e = .returned (.int .i64 3) ∧ Below w.heap.size w w' := by
  have HRt := Aside0.mk (fun w1 (hb : Below w.heap.size w w1) => edits_Right.calls (l.length + 1) n A c l true w1 (Kd.C_below hC hb) hc (by rw [Right_eq n l _ (by omega) (by omega), hr]))
  have HGr := Aside0.mk (fun w1 (hb : Below w.heap.size w w1) => buf_grown.calls (l.length + 1) A c l (gw l) w1 (Kd.C_below hC hb) hc (grown_eq n (by omega) l _ (by omega) hl hr hz))
  have c3 : w.cell? ⟨g, 3, none⟩ = some (.int .i64 n) := (blk_cell hB.c 3).trans rfl
  have HG := Aside0.mk hB.c
  have d1 : decide (wrap64 (n + gw l) > 1048576) = true := decide_eq_true (by rw [w64 _ (by omega) (by omega)]; exact hg)
  have d1b : decide (1048576 < wrap64 (n + gw l)) = true := d1
  clear hB hC hc hl hn hr hz hg hg2
  go_enter Try.func15, Try.ntmps15
  go_wp2_with (go_at_call 28; refine (HRt.out _ (Below.refl _ _)).mono ?_; clear HRt; rintro e w1 ⟨rfl, hb⟩; have HB := Aside0.mk hb; clear hb c3)
  have n0_ := Aside0.mk (below_drew1 HB.out)
  clear HB
  have HB := n0_
  clear n0_
  refine start_ (n := 9) (S := fun w' => w'.cell? ⟨g, 3, none⟩ = some (.int .i64 n)) (ds := []) #[false, false, false, false, false, false, false, false, false] (by kernel_rfl) rfl rfl ((blk_cell (blk_below HG.out HB.out) 3).trans rfl) (fun hHeld => ?_); refine with_tabW ap5.tab ap5.bits (fun HT_ HW_ => ?_)
  generalize w1.drew = w2 at HB hHeld ⊢
  refine pure_ (i := 0) (N := some 20) (v := ?_) (a' := ?_) #[true, false, false, false, false, false, false, false, false] rfl rfl (any_of HT_.out (by kernel_rfl)) (fun _ _ _ h => h) (Or.inl ⟨by rfl, ?_⟩) ?_ ?_
  rotate_left
  · intro w'
    go_simp
    try with_reducible rfl
  rotate_left
  · simp only [Act.put, List.setIfInBounds_toArray, List.set_cons_zero, List.set_cons_succ, i64_w, i32_w]
    rfl
  refine pure_ (i := 1) (N := some 21) (v := ?_) (a' := ?_) #[true, true, false, false, false, false, false, false, false] rfl rfl (any_of HT_.out (by kernel_rfl)) (fun _ _ _ h => h) (Or.inl ⟨by rfl, ?_⟩) ?_ ?_
  rotate_left
  · intro w'
    go_simp
    try with_reducible rfl
  rotate_left
  · simp only [Act.put, List.setIfInBounds_toArray, List.set_cons_zero, List.set_cons_succ, i64_w, i32_w]
    rfl
  refine pure_ (i := 2) (N := some 22) (v := ?_) (a' := ?_) #[true, true, true, false, false, false, false, false, false] rfl rfl (any_of HT_.out (by kernel_rfl)) (fun _ _ _ h => h) (Or.inl ⟨by rfl, ?_⟩) ?_ ?_
  rotate_left
  · intro w'
    go_simp
    try with_reducible rfl
  rotate_left
  · simp only [Act.put, List.setIfInBounds_toArray, List.set_cons_zero, List.set_cons_succ, i64_w, i32_w]
    rfl
  refine take_ (i := 3) (N := some 23) (v := ?_) (a' := ?_) #[true, true, true, true, false, false, false, false, false] rfl rfl (take_ofW HT_.out HW_.out (by kernel_rfl)) (fun _ _ _ h => h) (Or.inl ⟨by rfl, ?_⟩) hHeld ?_ ?_
  rotate_left
  · intro w' s0
    go_simp
    try with_reducible rfl
  rotate_left
  · simp only [Act.put, List.setIfInBounds_toArray, List.set_cons_zero, List.set_cons_succ, i64_w, i32_w]
    rfl
  refine pure_ (i := 4) (N := some 24) (v := ?_) (a' := ?_) #[true, true, true, true, true, false, false, false, false] rfl rfl (any_of HT_.out (by kernel_rfl)) (fun _ _ _ h => h) (Or.inl ⟨by rfl, ?_⟩) ?_ ?_
  rotate_left
  · intro w'
    go_simp
    try with_reducible rfl
  rotate_left
  · simp only [Act.put, List.setIfInBounds_toArray, List.set_cons_zero, List.set_cons_succ, i64_w, i32_w]
    rfl
  refine one_ (i := 5) (N := some 25) #[true, true, true, true, true, true, false, false, false] rfl rfl (one_of HT_.out (by kernel_rfl)) (by decide) (fun K hK => ?_)
  refine goes_ Try.func29 (by kernel_rfl) rfl #[.slice A l.length c] (by rfl) rfl rfl (by (try simp only [List.map_toArray, List.map_cons, List.map_nil]); first | done | rfl) ?_
  refine (HGr.out _ HB.out).mono ?_
  rintro e w3 ⟨rfl, hb⟩
  refine ⟨_, rfl, ?_⟩
  have n0_ := Aside0.mk (below_step HB.out hb)
  clear HB hb
  have HB := n0_
  clear n0_
  refine hK.out _ _ ((blk_cell (blk_below HG.out HB.out) 3).trans rfl) (fun hHeld => ?_)
  clear hK K
  refine norm_ (a' := ?_) ?_ ?_
  rotate_left
  · show Act.put _ (some 25) _ = _
    simp only [Act.put, List.setIfInBounds_toArray, List.set_cons_zero, List.set_cons_succ, i64_w, i32_w]
    rfl
  refine pure_ (i := 6) (N := some 26) (v := ?_) (a' := ?_) #[true, true, true, true, true, true, true, false, false] rfl rfl (any_of HT_.out (by kernel_rfl)) (fun _ _ _ h => h) (Or.inl ⟨by rfl, ?_⟩) ?_ ?_
  rotate_left
  · intro w'
    go_simp
    try with_reducible rfl
  rotate_left
  · simp only [Act.put, List.setIfInBounds_toArray, List.set_cons_zero, List.set_cons_succ, i64_w, i32_w]
    rfl
  refine pure_ (i := 7) (N := some 27) (v := ?_) (a' := ?_) #[true, true, true, true, true, true, true, true, false] rfl rfl (any_of HT_.out (by kernel_rfl)) (fun _ _ _ h => h) (Or.inl ⟨by rfl, ?_⟩) ?_ ?_
  rotate_left
  · intro w'
    go_simp
    try with_reducible rfl
  rotate_left
  · simp only [Act.put, List.setIfInBounds_toArray, List.set_cons_zero, List.set_cons_succ, i64_w, i32_w]
    rfl
  refine pure_ (i := 8) (N := some 19) (v := ?_) (a' := ?_) #[true, true, true, true, true, true, true, true, true] rfl rfl (any_of HT_.out (by kernel_rfl)) (fun _ _ _ h => h) (Or.inl ⟨by rfl, ?_⟩) ?_ ?_
  rotate_left
  · intro w'
    go_simp
    try with_reducible rfl
  rotate_left
  · simp only [Act.put, List.setIfInBounds_toArray, List.set_cons_zero, List.set_cons_succ, i64_w, i32_w]
    rfl
  refine done_ (done_of HT_.out (by kernel_rfl)) ?_
  clear hHeld
  go_wp2
  go_ret
  exact ⟨rfl, HB.out⟩
set_option maxHeartbeats 1600000 in
set_option maxRecDepth 100000 in
theorem Apply_yes {w : World} {base g : Nat} {Vp Vf Vl : Value} {n : Int} {P : List Pc} {past fut : List St} (hB : Bf w base g Vp Vf Vl n P past fut) (A : Option Addr) (c : Nat) (l : List X) (hC : Kd.C kX w A l.length l) (hc : l.length ≤ c) (hl : l.length ≤ 1000) (hn : n ≤ 1048576) (hr : rt n 0 l = true) (hz : ∀ e ∈ l, e.f2.size ≤ 1000) (hg : n + gw l ≤ 1048576) (hg2 : -1000000000000 ≤ n + gw l) (hb : base ≤ w.heap.size) (hP : P.length ≤ 1000000000) (hpl : past.length ≤ 1000000) : Calls Try.prog 15 #[.pointer (some ⟨g, 0, none⟩), .slice A l.length c] w fun e w' => e = .returned (.int .i64 0) ∧ ∃ Vp' Vl' n', Bf w' base g Vp' (.slice none 0 0) Vl' n' (dosP P l) (trim (past ++ [⟨l, tX (tb P) 0 0 l⟩])) [] ∧ Fr (foot g Vp Vf) w w' ∧ (∀ i, foot g Vp' (.slice none 0 0) i → foot g Vp Vf i ∨ w.heap.size ≤ i) := by
  have HRt := Aside0.mk (fun w1 (hb : Below w.heap.size w w1) => edits_Right.calls (l.length + 1) n A c l true w1 (Kd.C_below hC hb) hc (by rw [Right_eq n l _ (by omega) (by omega), hr]))
  have HGr := Aside0.mk (fun w1 (hb : Below w.heap.size w w1) => buf_grown.calls (l.length + 1) A c l (gw l) w1 (Kd.C_below hC hb) hc (grown_eq n (by omega) l _ (by omega) hl hr hz))
  have c3 : w.cell? ⟨g, 3, none⟩ = some (.int .i64 n) := (blk_cell hB.c 3).trans rfl
  have HG := Aside0.mk hB.c
  have d1 : decide (wrap64 (n + gw l) > 1048576) = false := decide_eq_false (by rw [w64 _ (by omega) (by omega)]; omega)
  have d1b : decide (1048576 < wrap64 (n + gw l)) = false := d1
  have hN := hB.n
  have hts := tb_size P
  have HBF := Aside0.mk hB
  have HC := Aside0.mk hC
  have HL := Aside0.mk hl
  have HPL := Aside0.mk hpl
  have HBS := Aside0.mk hb
  obtain ⟨sP, hsP⟩ : ∃ s, tb P = s := ⟨_, rfl⟩
  have HSP := Aside0.mk hsP
  have HTX := Aside0.mk (fun w1 (hb : Below w.heap.size w w1) => Text (hB.below hb) (by omega) (by omega))
  rw [hsP] at hts HTX
  have HTU := Aside0.mk (fun w1 A1 c1 (hC1 : Kd.C kX w1 A1 l.length l) (hc1 : l.length ≤ c1) => edits_Turn.calls (l.length + 1) sP A1 c1 l (tX sP 0 0 l) 0 w1 hC1 hc1 (Turn_yes sP l _ (by omega) (by omega) (by omega) (by rw [hts, ← hN]; exact hr) (by have := sz_le1 hz; omega)))
  have HOK := Aside0.mk (okAt_of P (tx P).length rfl (by omega) (by omega) l 0 (Int.le_refl 0) (by rw [← hN]; exact hr) (by have := sz_le1 hz; omega) (by omega) hz)
  clear hB hC hc hl hn hr hz hg hg2 hb hP hpl hN hts
  rw [hsP]
  clear hsP
  go_enter Try.func15, Try.ntmps15
  go_wp2_with (go_at_call 28; refine (HRt.out _ (Below.refl _ _)).mono ?_; clear HRt; rintro e w1 ⟨rfl, hb⟩; have HB := Aside0.mk hb; clear hb c3)
  have n0_ := Aside0.mk (below_drew1 HB.out)
  clear HB
  have HB := n0_
  clear n0_
  refine start_ (n := 9) (S := fun w' => w'.cell? ⟨g, 3, none⟩ = some (.int .i64 n)) (ds := []) #[false, false, false, false, false, false, false, false, false] (by kernel_rfl) rfl rfl ((blk_cell (blk_below HG.out HB.out) 3).trans rfl) (fun hHeld => ?_); refine with_tabW ap5.tab ap5.bits (fun HT_ HW_ => ?_)
  generalize w1.drew = w2 at HB hHeld ⊢
  refine pure_ (i := 0) (N := some 20) (v := ?_) (a' := ?_) #[true, false, false, false, false, false, false, false, false] rfl rfl (any_of HT_.out (by kernel_rfl)) (fun _ _ _ h => h) (Or.inl ⟨by rfl, ?_⟩) ?_ ?_
  rotate_left
  · intro w'
    go_simp
    try with_reducible rfl
  rotate_left
  · simp only [Act.put, List.setIfInBounds_toArray, List.set_cons_zero, List.set_cons_succ, i64_w, i32_w]
    rfl
  refine pure_ (i := 1) (N := some 21) (v := ?_) (a' := ?_) #[true, true, false, false, false, false, false, false, false] rfl rfl (any_of HT_.out (by kernel_rfl)) (fun _ _ _ h => h) (Or.inl ⟨by rfl, ?_⟩) ?_ ?_
  rotate_left
  · intro w'
    go_simp
    try with_reducible rfl
  rotate_left
  · simp only [Act.put, List.setIfInBounds_toArray, List.set_cons_zero, List.set_cons_succ, i64_w, i32_w]
    rfl
  refine pure_ (i := 2) (N := some 22) (v := ?_) (a' := ?_) #[true, true, true, false, false, false, false, false, false] rfl rfl (any_of HT_.out (by kernel_rfl)) (fun _ _ _ h => h) (Or.inl ⟨by rfl, ?_⟩) ?_ ?_
  rotate_left
  · intro w'
    go_simp
    try with_reducible rfl
  rotate_left
  · simp only [Act.put, List.setIfInBounds_toArray, List.set_cons_zero, List.set_cons_succ, i64_w, i32_w]
    rfl
  refine take_ (i := 3) (N := some 23) (v := ?_) (a' := ?_) #[true, true, true, true, false, false, false, false, false] rfl rfl (take_ofW HT_.out HW_.out (by kernel_rfl)) (fun _ _ _ h => h) (Or.inl ⟨by rfl, ?_⟩) hHeld ?_ ?_
  rotate_left
  · intro w' s0
    go_simp
    try with_reducible rfl
  rotate_left
  · simp only [Act.put, List.setIfInBounds_toArray, List.set_cons_zero, List.set_cons_succ, i64_w, i32_w]
    rfl
  refine pure_ (i := 4) (N := some 24) (v := ?_) (a' := ?_) #[true, true, true, true, true, false, false, false, false] rfl rfl (any_of HT_.out (by kernel_rfl)) (fun _ _ _ h => h) (Or.inl ⟨by rfl, ?_⟩) ?_ ?_
  rotate_left
  · intro w'
    go_simp
    try with_reducible rfl
  rotate_left
  · simp only [Act.put, List.setIfInBounds_toArray, List.set_cons_zero, List.set_cons_succ, i64_w, i32_w]
    rfl
  refine one_ (i := 5) (N := some 25) #[true, true, true, true, true, true, false, false, false] rfl rfl (one_of HT_.out (by kernel_rfl)) (by decide) (fun K hK => ?_)
  refine goes_ Try.func29 (by kernel_rfl) rfl #[.slice A l.length c] (by rfl) rfl rfl (by (try simp only [List.map_toArray, List.map_cons, List.map_nil]); first | done | rfl) ?_
  refine (HGr.out _ HB.out).mono ?_
  rintro e w3 ⟨rfl, hb⟩
  refine ⟨_, rfl, ?_⟩
  have n0_ := Aside0.mk (below_step HB.out hb)
  clear HB hb
  have HB := n0_
  clear n0_
  refine hK.out _ _ ((blk_cell (blk_below HG.out HB.out) 3).trans rfl) (fun hHeld => ?_)
  clear hK K
  refine norm_ (a' := ?_) ?_ ?_
  rotate_left
  · show Act.put _ (some 25) _ = _
    simp only [Act.put, List.setIfInBounds_toArray, List.set_cons_zero, List.set_cons_succ, i64_w, i32_w]
    rfl
  refine pure_ (i := 6) (N := some 26) (v := ?_) (a' := ?_) #[true, true, true, true, true, true, true, false, false] rfl rfl (any_of HT_.out (by kernel_rfl)) (fun _ _ _ h => h) (Or.inl ⟨by rfl, ?_⟩) ?_ ?_
  rotate_left
  · intro w'
    go_simp
    try with_reducible rfl
  rotate_left
  · simp only [Act.put, List.setIfInBounds_toArray, List.set_cons_zero, List.set_cons_succ, i64_w, i32_w]
    rfl
  refine pure_ (i := 7) (N := some 27) (v := ?_) (a' := ?_) #[true, true, true, true, true, true, true, true, false] rfl rfl (any_of HT_.out (by kernel_rfl)) (fun _ _ _ h => h) (Or.inl ⟨by rfl, ?_⟩) ?_ ?_
  rotate_left
  · intro w'
    go_simp
    try with_reducible rfl
  rotate_left
  · simp only [Act.put, List.setIfInBounds_toArray, List.set_cons_zero, List.set_cons_succ, i64_w, i32_w]
    rfl
  refine pure_ (i := 8) (N := some 19) (v := ?_) (a' := ?_) #[true, true, true, true, true, true, true, true, true] rfl rfl (any_of HT_.out (by kernel_rfl)) (fun _ _ _ h => h) (Or.inl ⟨by rfl, ?_⟩) ?_ ?_
  rotate_left
  · intro w'
    go_simp
    try with_reducible rfl
  rotate_left
  · simp only [Act.put, List.setIfInBounds_toArray, List.set_cons_zero, List.set_cons_succ, i64_w, i32_w]
    rfl
  refine done_ (done_of HT_.out (by kernel_rfl)) ?_
  clear hHeld
  go_wp2_with (first | ((with_reducible refine gate_builtin (b := .append) (xs := #[.const (.slice none 0 0), .tmp 28]) rfl ?_); at_builtin; refine Kd.R_append_rows kX (Rr := kX.K w3) (w0 := w) w.heap.size rfl (.const (.slice none 0 0)) (.tmp 28) 29 40 (.agg #[(.int .i64 0), (.int .i64 0), (.string ⟨#[]⟩)]) 32 rfl Try.underlying29 info40 rfl (by decide) (by omega) (.slice none 0 0) [] l A l.length c (fun _ => True) (fun _ => False) rfl rfl (Kd.R_nil _ _ _ _ _) (Kd.C_below HC.out HB.out) (fun x cs h => by obtain rfl := k40_open h; exact k40_mkM _ _ _ x) (fun _ h => h.elim) (fun _ _ => trivial) HB.out HB.out.size (by have := HL.out; simp only [List.length_nil]; omega) ?_; intro Vo w4 hR hb hg hat; rw [List.nil_append] at hR; have n0_ := Aside0.mk hb; have n1_ := Aside0.mk hR; clear HB hR hb hg hat; have HB := n0_; have HRo := n1_; clear n0_ n1_) | (go_at_call 16; refine (HTX.out _ HB.out).mono ?_; clear HTX; rintro e w5 ⟨rfl, hb⟩; have n0_ := Aside0.mk (below_step HB.out hb); have n1_ := Aside0.mk (Kd.R_below HRo.out hb); clear HB HRo hb; have HB := n0_; have HRo := n1_; clear n0_ n1_; obtain ⟨ao, co, rfl, hco, hCo⟩ : ∃ A c, Vo = .slice A l.length c ∧ l.length ≤ c ∧ Kd.C kX w5 A l.length l := R_reads0 HRo.out; have HCo := Aside0.mk (And.intro hCo hco); clear hCo hco) | (go_at_call 30; refine (HTU.out _ _ _ HCo.out.1 HCo.out.2).mono ?_; clear HTU; rintro e w6 ⟨Vu, rfl, hR, hb⟩; obtain ⟨au, cu, hVu, -⟩ := R_slice0 hR; subst hVu; have n0_ := Aside0.mk (below_step HB.out hb); have n1_ := Aside0.mk (Kd.R_below HRo.out hb); have HRu := Aside0.mk (Kd.R_lower hR HB.out.size); clear HB HRo HCo hR hb; have HB := n0_; have HRo := n1_; clear n0_ n1_) | (go_at_call 26; refine (do_ (HBF.out.below HB.out) ao co l HRo.out (by have := HL.out; omega) HOK.out).mono ?_; rintro e w7 ⟨rfl, Vl7, n7, hB7, hF7⟩; have n1_ := Aside0.mk (R_fr HRo.out (HBF.out.below HB.out) hF7); have n2_ := Aside0.mk (R_fr HRu.out (HBF.out.below HB.out) hF7); have HF7 := Aside0.mk ((Fr.of_below (S := foot g Vp Vf) HB.out).trans (hF7.mono (S' := foot g Vp Vf) (fun i _ hi => .inl hi)) (fun i _ hi => hi)); have HB7 := Aside0.mk hB7; have HSZ := Aside0.mk (Nat.le_trans HB.out.size hF7.size); clear HRo HRu hB7 hF7 HB; have HRo := n1_; have HRu := n2_; clear n1_ n2_) | (go_at_call 31; have r0 : Kd.R kX 40 w7 base (fun k => w.heap.size ≤ k) (.slice ao l.length co) l := Kd.R_lower (Kd.R_mono (ok' := fun k => w.heap.size ≤ k) (Kd.R_bound HRo.out) (fun k hk => hk.2.1)) HBS.out; have r1 : Kd.R kX 40 w7 base (fun k => w.heap.size ≤ k) (.slice au (tX sP 0 0 l).length cu) (tX sP 0 0 l) := Kd.R_lower (Kd.R_mono (ok' := fun k => w.heap.size ≤ k) (Kd.R_bound HRu.out) (fun k hk => hk.2.1)) HBS.out; have hM : kS.M w7 base (fun k => w.heap.size ≤ k) (⟨l, tX sP 0 0 l⟩ : St) [.slice ao l.length co, .slice au (tX sP 0 0 l).length cu] := k63_mkM w7 base (fun k => w.heap.size ≤ k) (⟨l, tX sP 0 0 l⟩ : St) r0 r1; have hOK : ∀ k, w.heap.size ≤ k → some k ≠ Vf.ownBlock ∧ some k ≠ Vp.ownBlock := (fun k hk => ⟨fun he => by have := (HBF.out.foot_lt k (.inr (.inr he))).1; omega, fun he => by have := (HBF.out.foot_lt k (.inr (.inl he))).1; omega⟩); refine (add_ HB7.out (Nat.le_trans HBS.out HSZ.out) (.slice ao l.length co) (.slice au (tX sP 0 0 l).length cu) (⟨l, tX sP 0 0 l⟩ : St) hM hOK HPL.out).mono ?_; rintro e w8 ⟨rfl, Vp8, hB8, hF8, hft8⟩; have HB8 := Aside0.mk hB8; have HF8 := Aside0.mk (HF7.out.trans hF8 (fun i _ hi => hi)); have HFT := Aside0.mk (fun i hi => (hft8 i hi).imp id (fun h => Nat.le_trans HSZ.out h)); clear hB8 hF8 hft8 hM hOK r0 r1 HRo HRu HF7 HB7 HSZ))
  all_goals go_ret
  all_goals exact ⟨rfl, Vp8, Vl7, n7, HB8.out, HF8.out, HFT.out⟩
end Go.Proofs.Ytpghnadlekafpaa.PBuf
