/- Layer 25: the printer's functions. -/
import Derived.Test.YtjgaikmejccdkaaDoorLay2
import Derived.Deep.QuietTactic
import Derived.BigQuiet
namespace Go.Proofs.YtjgaikmejccdkaaDoor.PDoc
open Go.RowKit Go.Proofs.YtjgaikmejccdkaaDoorW.PrintWords Go.Proofs.YtjgaikmejccdkaaDoorW.PrintLast Go.Proofs.YtjgaikmejccdkaaDoorW.PrintMore
set_option linter.unusedVariables false
set_option linter.unusedSimpArgs false
/-- The columns of a text, as a value. -/
def FC : Value := .func (.func 45) #[] #[]
section
variable {B g : Nat} {p v : Value} {x : List UInt8} {W col : Int} {pend : Nat} {td F : Value} {w w' : World}
theorem Pr.below (h : Pr B g p v x W col pend td F w) (hb : Below w.heap.size w w') : Pr B g p v x W col pend td F w' :=
  ⟨h.lg, h.lp, blk_below h.c hb, own_move h.own (fun k hk => hb.block k (own_lt h.own k hk)), h.ne⟩
theorem Pr.drew (h : Pr B g p v x W col pend td F w) : Pr B g p v x W col pend td F w.drew := h.below (below_drew1 (Below.refl _ _))
theorem Pr.own_far (h : Pr B g p v x W col pend td F w) (i : Nat) (u : Value) : (w.setCell ⟨g, i, none⟩ u).ownsRow B 5 1 v x.length (Lib.byteCells x) :=
  own_move h.own (fun k hk => Below.heap_setCell w ⟨g, i, none⟩ u k (fun e => h.ne (by rw [hk]; exact congrArg some e)))
theorem Pr.setc (h : Pr B g p v x W col pend td F w) (c' : Int) : Pr B g p v x W c' pend td F (w.setCell ⟨g, 3, none⟩ (.int .i64 c')) ∧ Below B w (w.setCell ⟨g, 3, none⟩ (.int .i64 c')) ∧ Ty 87 w (w.setCell ⟨g, 3, none⟩ (.int .i64 c')) :=
  ⟨⟨h.lg, h.lp, blk_put h.c 3 _ rfl, h.own_far _ _, h.ne⟩, (Below.refl B w).setCell (p := ⟨g, 3, none⟩) h.lg _, Ty.set h.c (by decide) _ _⟩
theorem Pr.setp (h : Pr B g p v x W col pend td F w) (c' : Nat) : Pr B g p v x W col c' td F (w.setCell ⟨g, 4, none⟩ (.int .i64 (c' : Int))) ∧ Below B w (w.setCell ⟨g, 4, none⟩ (.int .i64 (c' : Int))) ∧ Ty 87 w (w.setCell ⟨g, 4, none⟩ (.int .i64 (c' : Int))) :=
  ⟨⟨h.lg, h.lp, blk_put h.c 4 _ rfl, h.own_far _ _, h.ne⟩, (Below.refl B w).setCell (p := ⟨g, 4, none⟩) h.lg _, Ty.set h.c (by decide) _ _⟩
theorem Pr.sett (h : Pr B g p v x W col pend td F w) (t' : Value) : Pr B g p v x W col pend t' F (w.setCell ⟨g, 5, none⟩ t') ∧ Below B w (w.setCell ⟨g, 5, none⟩ t') ∧ Ty 87 w (w.setCell ⟨g, 5, none⟩ t') :=
  ⟨⟨h.lg, h.lp, blk_put h.c 5 _ rfl, h.own_far _ _, h.ne⟩, (Below.refl B w).setCell (p := ⟨g, 5, none⟩) h.lg _, Ty.set h.c (by decide) _ _⟩
theorem Pr.cells (h : Pr B g p v x W col pend td F w) : w.cell? ⟨g, 2, none⟩ = some (.int .i64 W) ∧ w.cell? ⟨g, 3, none⟩ = some (.int .i64 col) ∧ w.cell? ⟨g, 4, none⟩ = some (.int .i64 (pend : Int)) ∧ w.cell? ⟨g, 5, none⟩ = some td ∧ w.cell? ⟨g, 6, none⟩ = some F :=
  ⟨(blk_cell h.c 2).trans rfl, (blk_cell h.c 3).trans rfl, (blk_cell h.c 4).trans rfl, (blk_cell h.c 5).trans rfl, (blk_cell h.c 6).trans rfl⟩
end
theorem repeat_sp (n : Nat) : Lib.repeatL [32] n = List.replicate n (32 : UInt8) := by
  induction n with
  | zero => rfl
  | succ n ih => simp only [Lib.repeatL, ih, List.replicate_succ, List.singleton_append]
theorem below_mix {B : Nat} {w w1 w2 : World} (h : Below B w w1) (hB : B ≤ w1.heap.size) (h2 : Below w1.heap.size w1 w2) : Below B w w2 := below_then h hB h2
/-- A call through a value. -/
theorem goesv_ {P : Program} {ops : Array Oper} {Q : Exit → Act → World → Prop} {oi : Oper} {N : Option Tmp} {a : Act} {w : World} {K : Act → World → Prop} {f : FuncId} {fn : Func} {ao : Array Operand} {ts : Array TypeId} (xo : Operand) (hf : P.funcs[f]? = some fn) (hname : (fn.name == "runtime.NumGoroutine") = false) (hb : fn.body.isSome = true) (args : Array Value)
    (hw : Region.wanted oi (yielded ops a.tmps) = true) (hN : oi.dst = N) (hop : oi.op = .call { callee := .value xo, args := ao, argTypes := ts }) (hx : a.eval xo = .func (.func f) #[] #[]) (hargs : ao.map a.eval = args)
    (h : Calls P f args w fun e w' => ∃ v, e = .returned v ∧ K (a.put N v) w') : if Region.wanted oi (yielded ops a.tmps) = true then Oper.wp P oi a w K Q else K (a.put N undef) w := by
  refine call_ f args hw hN ?_ h
  have he := enters_ hf hname hb args w
  unfold execOp
  simp [hop, resolve, Deferred.ofValue, invoke, hx, hargs, he]
set_option maxHeartbeats 1000000 in
set_option maxRecDepth 100000 in
/-- A new line. -/
theorem line_ {B g : Nat} {p v : Value} {x : List UInt8} {W col : Int} {pend : Nat} {td F : Value} {w : World} (h : Pr B g p v x W col pend td F w) (i : Nat) (hlen : x.length ≤ 100000000000) (hB : B ≤ w.heap.size) :
    Calls Tryd.prog 56 #[.pointer (some ⟨g, 0, none⟩), .int .i64 (i : Int)] w fun e w' => e = .returned (.tuple #[]) ∧ (∃ p' v', Pr B g p' v' (x ++ [10]) W (i : Int) i td F w') ∧ Below B w w' ∧ Ty 87 w w' := by
  have HW := Aside0.mk (pws h ⟨#[10]⟩ (by show x.length + 1 ≤ _; omega) hB)
  have HB0 := Aside0.mk hB
  clear h hB
  go_enter Tryd.func56, Tryd.ntmps56
  go_wp2_with (go_at_call 47; refine HW.out.mono ?_; clear HW; rintro e w1 ⟨rfl, ⟨v1, hp⟩, hb, ht⟩; have HP := Aside0.mk hp; have HB := Aside0.mk hb; have HT := Aside0.mk ht; have hc := (hp.cells); obtain ⟨k2, k3, k4, k5, k6⟩ := hc; have f3 := blk_frozen hp.c 3; have f4 := blk_frozen hp.c 4; clear k5 k6 hp hb ht)
  go_end0
  obtain ⟨h1, h2, h3⟩ := HP.out.setc (i : Int)
  obtain ⟨h4, h5, h6⟩ := h1.setp i
  exact ⟨rfl, ⟨_, _, h4⟩, (HB.out.trans h2).trans h5, (HT.out.trans h3).trans h6⟩
def tx1.T : Bool × List (List Nat × List Nat) := (true, [([], []), ([0], [0]), ([1], [1]), ([], []), ([3], [3]), ([4], [4]), ([5], [5]), ([6], [6]), ([2, 7, 7], [2, 7])])
def tx1.B : List Nat := [0, 1, 3, 0, 8, 24, 56, 120, 255]
theorem tx1.tab : rtab .any (opsOf Tryd.f55 1) = tx1.T := by kernel_rfl
theorem tx1.bits : waitsOk tx1.T.2 tx1.B = true := by kernel_rfl
def tx4.T : Bool × List (List Nat × List Nat) := (true, [([], []), ([0], [0]), ([1], [1]), ([2], [2]), ([], []), ([4], [4]), ([5], [5]), ([6], [6]), ([], []), ([7, 8], [7, 8]), ([3, 9], [3, 9]), ([0, 0, 1, 2, 3, 4, 5, 6, 7, 8, 9, 10], [0]), ([11, 0, 1, 2, 3, 4, 5, 6, 7, 8, 9, 10], [11]), ([12, 10, 9, 0, 1, 2, 3, 4, 5, 6, 7, 8, 9, 10], [10, 12])])
def tx4.B : List Nat := [0, 1, 3, 7, 0, 16, 48, 112, 0, 496, 1023, 2047, 4095, 8191]
theorem tx4.tab : rtab .any (opsOf Tryd.f55 4) = tx4.T := by kernel_rfl
theorem tx4.bits : waitsOk tx4.T.2 tx4.B = true := by kernel_rfl
set_option maxHeartbeats 4000000 in
set_option maxRecDepth 100000 in
/-- A text. -/
theorem text_ {B g : Nat} {p v : Value} {x : List UInt8} {W col0 : Int} {pend : Nat} {td : Value} {w : World} (h : Pr B g p v x W col0 pend td FC w) (s : ByteArray) (hs : s.size ≤ 1000000) (hlen : x.length + pend ≤ 100000000000) (h0 : 0 ≤ col0) (hc0 : col0 ≤ 1000000000000) (hB : B ≤ w.heap.size) :
    Calls Tryd.prog 55 #[.pointer (some ⟨g, 0, none⟩), .string s] w fun e w' => e = .returned (.tuple #[]) ∧ (∃ p' v', Pr B g p' v' (lT s ⟨x, col0, pend⟩).x W (lT s ⟨x, col0, pend⟩).c (lT s ⟨x, col0, pend⟩).p td FC w') ∧ Below B w w' ∧ Ty 87 w w' := by
  by_cases hse : s.data.toList = []
  · have e : s = ⟨#[]⟩ := by
      obtain ⟨d⟩ := s
      have : d = #[] := Array.toList_eq_nil_iff.1 hse
      rw [this]
    have el : lT s ⟨x, col0, pend⟩ = ⟨x, col0, pend⟩ := by unfold lT; rw [if_pos hse]
    rw [el]
    subst e
    have HP := Aside0.mk h
    clear h hse el
    go_enter Tryd.func55, Tryd.ntmps55
    go_wp2
    exact bodyPost_ret (v := .tuple #[]) (by simp [results, Tryd.results55, go_sem]) rfl ⟨rfl, ⟨_, _, HP.out⟩, Below.refl _ _, Ty.refl _ _⟩
  have hne : s ≠ ⟨#[]⟩ := fun e => hse (by rw [e])
  have el : lT s ⟨x, col0, pend⟩ = ⟨x ++ (List.replicate pend 32 ++ s.data.toList), col0 + (col s : Int), 0⟩ := by unfold lT; rw [if_neg hse]
  rw [el]
  have d1 : s.toList.isEmpty = false := by
    rw [Bool.eq_false_iff]
    intro h9
    exact hse (by have h8 := List.isEmpty_iff.1 h9; rwa [ByteArray.toList_eq] at h8)
  obtain ⟨hcl, hcf⟩ := col_eq s hs
  have HC := Aside0.mk (hcf _ (Nat.le_refl _)).1
  have HN := Aside0.mk (And.intro hlen (And.intro h0 (And.intro hc0 (And.intro hcl hs))))
  have HB0 := Aside0.mk hB
  have HP := Aside0.mk h
  have HB := Aside0.mk (Below.refl B w)
  have HT := Aside0.mk (Ty.refl 87 w)
  clear h hse hne el hcl hcf hlen h0 hc0 hB hs
  go_enter Tryd.func55, Tryd.ntmps55
  go_wp2
  clear d1
  have n0_ := Aside0.mk (HP.out.drew)
  have n1_ := Aside0.mk (below_drew1 HB.out)
  have n2_ := Aside0.mk (HT.out.trans (Ty.of_below (below_drew1 (Below.refl _ w))))
  clear HP HB HT 
  have HP := n0_
  have HB := n1_
  have HT := n2_
  clear n0_ n1_ n2_
  refine start_ (n := 9) (S := fun w' => w'.cell? ⟨g, 4, none⟩ = some (.int .i64 (pend : Int))) (ds := []) #[false, false, false, false, false, false, false, false, false] (by kernel_rfl) rfl rfl HP.out.cells.2.2.1 (fun hHeld => ?_); refine with_tabW tx1.tab tx1.bits (fun HT_ HW_ => ?_)
  generalize w.drew = w1 at HP HB HT hHeld ⊢
  refine pure_ (i := 0) (N := some 6) (v := ?_) (a' := ?_) #[true, false, false, false, false, false, false, false, false] rfl rfl (any_of HT_.out (by kernel_rfl)) (fun _ _ _ h => h) (Or.inl ⟨by rfl, ?_⟩) ?_ ?_
  rotate_left
  · intro w'
    go_simp
    try with_reducible rfl
  rotate_left
  · simp only [Act.put, List.setIfInBounds_toArray, List.set_cons_zero, List.set_cons_succ, i64_w, i32_w]
    rfl
  refine pure_ (i := 1) (N := some 7) (v := ?_) (a' := ?_) #[true, true, false, false, false, false, false, false, false] rfl rfl (any_of HT_.out (by kernel_rfl)) (fun _ _ _ h => h) (Or.inl ⟨by rfl, ?_⟩) ?_ ?_
  rotate_left
  · intro w'
    go_simp
    try with_reducible rfl
  rotate_left
  · simp only [Act.put, List.setIfInBounds_toArray, List.set_cons_zero, List.set_cons_succ, i64_w, i32_w]
    rfl
  refine pure_ (i := 2) (N := some 8) (v := ?_) (a' := ?_) #[true, true, true, false, false, false, false, false, false] rfl rfl (any_of HT_.out (by kernel_rfl)) (fun _ _ _ h => h) (Or.inl ⟨by rfl, ?_⟩) ?_ ?_
  rotate_left
  · intro w'
    go_simp
    try with_reducible rfl
  rotate_left
  · simp only [Act.put, List.setIfInBounds_toArray, List.set_cons_zero, List.set_cons_succ, i64_w, i32_w]
    rfl
  refine pure_ (i := 3) (N := some 9) (v := ?_) (a' := ?_) #[true, true, true, true, false, false, false, false, false] rfl rfl (any_of HT_.out (by kernel_rfl)) (fun _ _ _ h => h) (Or.inl ⟨by rfl, ?_⟩) ?_ ?_
  rotate_left
  · intro w'
    go_simp
    try with_reducible rfl
  rotate_left
  · simp only [Act.put, List.setIfInBounds_toArray, List.set_cons_zero, List.set_cons_succ, i64_w, i32_w]
    rfl
  refine pure_ (i := 4) (N := some 10) (v := ?_) (a' := ?_) #[true, true, true, true, true, false, false, false, false] rfl rfl (any_of HT_.out (by kernel_rfl)) (fun _ _ _ h => h) (Or.inl ⟨by rfl, ?_⟩) ?_ ?_
  rotate_left
  · intro w'
    go_simp
    try with_reducible rfl
  rotate_left
  · simp only [Act.put, List.setIfInBounds_toArray, List.set_cons_zero, List.set_cons_succ, i64_w, i32_w]
    rfl
  refine pure_ (i := 5) (N := some 11) (v := ?_) (a' := ?_) #[true, true, true, true, true, true, false, false, false] rfl rfl (any_of HT_.out (by kernel_rfl)) (fun _ _ _ h => h) (Or.inl ⟨by rfl, ?_⟩) ?_ ?_
  rotate_left
  · intro w'
    go_simp
    try with_reducible rfl
  rotate_left
  · simp only [Act.put, List.setIfInBounds_toArray, List.set_cons_zero, List.set_cons_succ, i64_w, i32_w]
    rfl
  refine take_ (i := 6) (N := some 12) (v := ?_) (a' := ?_) #[true, true, true, true, true, true, true, false, false] rfl rfl (take_ofW HT_.out HW_.out (by kernel_rfl)) (fun _ _ _ h => h) (Or.inl ⟨by rfl, ?_⟩) hHeld ?_ ?_
  rotate_left
  · intro w' s0
    go_simp
    try with_reducible rfl
  rotate_left
  · simp only [Act.put, List.setIfInBounds_toArray, List.set_cons_zero, List.set_cons_succ, i64_w, i32_w]
    rfl
  refine one_ (i := 7) (N := some 13) #[true, true, true, true, true, true, true, true, false] rfl rfl (one_of HT_.out (by kernel_rfl)) (by decide) (fun K hK => ?_)
  refine goes_ Tryd.func66 (by kernel_rfl) rfl #[.string ⟨#[32]⟩, .int .i64 (pend : Int)] (by rfl) rfl rfl (by (try simp only [List.map_toArray, List.map_cons, List.map_nil]); first | done | rfl) ?_
  refine (Tryd.strings_Repeat ⟨#[32]⟩ pend w1 (by have := HN.out.1; omega) (by show 1 * pend ≤ _; have := HN.out.1; omega)).mono ?_
  rintro e w2 ⟨rfl, hb⟩
  refine ⟨_, rfl, ?_⟩
  rw [show (⟨#[32]⟩ : ByteArray).data.toList = [32] from rfl, repeat_sp]
  have n9_ := Aside0.mk (Nat.le_trans HB0.out HB.out.size)
  have n0_ := Aside0.mk (HP.out.below hb)
  have n1_ := Aside0.mk (below_then HB.out n9_.out hb)
  have n2_ := Aside0.mk (HT.out.trans (Ty.of_below hb))
  clear HP HB HT hb n9_
  have HP := n0_
  have HB := n1_
  have HT := n2_
  clear n0_ n1_ n2_
  refine hK.out _ _ HP.out.cells.2.2.1 (fun hHeld => ?_)
  clear hK K
  refine norm_ (a' := ?_) ?_ ?_
  rotate_left
  · show Act.put _ (some 13) _ = _
    simp only [Act.put, List.setIfInBounds_toArray, List.set_cons_zero, List.set_cons_succ, i64_w, i32_w]
    rfl
  refine one_ (i := 8) (N := some 14) #[true, true, true, true, true, true, true, true, true] rfl rfl (one_of HT_.out (by kernel_rfl)) (by decide) (fun K hK => ?_)
  have HW := Aside0.mk (pws HP.out (⟨(List.replicate pend 32).toArray⟩ : ByteArray) (by have e : (⟨(List.replicate pend (32 : UInt8)).toArray⟩ : ByteArray).size = pend := (by rw [← data_length, List.toList_toArray, List.length_replicate]); have := HN.out.1; rw [e]; omega) (Nat.le_trans HB0.out HB.out.size))
  refine goes_ Tryd.func47 (by kernel_rfl) rfl #[.pointer (some ⟨g, 0, none⟩), .string ⟨(List.replicate pend (32 : UInt8)).toArray⟩] (by rfl) rfl rfl (by (try simp only [List.map_toArray, List.map_cons, List.map_nil]); first | done | rfl) ?_
  refine HW.out.mono ?_
  rintro e w3 ⟨rfl, ⟨v3, hp⟩, hb, ht⟩
  refine ⟨_, rfl, ?_⟩
  rw [List.toList_toArray] at hp
  have n0_ := Aside0.mk (hp)
  have n1_ := Aside0.mk (HB.out.trans hb)
  have n2_ := Aside0.mk (HT.out.trans ht)
  clear HP HB HT hp hb ht HW
  have HP := n0_
  have HB := n1_
  have HT := n2_
  clear n0_ n1_ n2_
  refine hK.out _ _ HP.out.cells.2.2.1 (fun hHeld => ?_)
  clear hK K
  refine norm_ (a' := ?_) ?_ ?_
  rotate_left
  · show Act.put _ (some 14) _ = _
    simp only [Act.put, List.setIfInBounds_toArray, List.set_cons_zero, List.set_cons_succ, i64_w, i32_w]
    rfl
  refine done_ (done_of HT_.out (by kernel_rfl)) ?_
  clear hHeld
  have f4 := blk_frozen HP.out.c 4
  obtain ⟨k2, k3, k4, k5, k6⟩ := HP.out.cells
  clear k2 k3 k5 k6
  go_wp2_with (go_at_call 47; obtain ⟨h1, h2, h3⟩ := HP.out.setp 0; refine (pws h1 s (by rw [List.length_append, List.length_replicate]; have := HN.out; omega) (Nat.le_trans HB0.out (HB.out.trans h2).size)).mono ?_; rintro e w4 ⟨rfl, ⟨v4, hp⟩, hb, ht⟩; rw [List.append_assoc] at hp; have n0_ := Aside0.mk hp; have n1_ := Aside0.mk ((HB.out.trans h2).trans hb); have n2_ := Aside0.mk ((HT.out.trans h3).trans ht); clear HP HB HT hp hb ht h1 h2 h3 k4 f4; have HP := n0_; have HB := n1_; have HT := n2_; clear n0_ n1_ n2_)
  have n0_ := Aside0.mk (HP.out.drew)
  have n1_ := Aside0.mk (below_drew1 HB.out)
  have n2_ := Aside0.mk (HT.out.trans (Ty.of_below (below_drew1 (Below.refl _ w4))))
  clear HP HB HT 
  have HP := n0_
  have HB := n1_
  have HT := n2_
  clear n0_ n1_ n2_
  refine start_ (n := 14) (S := fun w' => w'.cell? ⟨g, 3, none⟩ = some (.int .i64 col0) ∧ w'.cell? ⟨g, 6, none⟩ = some FC) (ds := [13]) #[false, false, false, false, false, false, false, false, false, false, false, false, false, false] (by kernel_rfl) rfl rfl ⟨HP.out.cells.2.1, HP.out.cells.2.2.2.2⟩ (fun hHeld => ?_); refine with_tabW tx4.tab tx4.bits (fun HT_ HW_ => ?_)
  generalize w4.drew = w5 at HP HB HT hHeld ⊢
  refine pure_ (i := 0) (N := some 23) (v := ?_) (a' := ?_) #[true, false, false, false, false, false, false, false, false, false, false, false, false, false] rfl rfl (any_of HT_.out (by kernel_rfl)) (fun _ _ _ h => h) (Or.inl ⟨by rfl, ?_⟩) ?_ ?_
  rotate_left
  · intro w'
    go_simp
    try with_reducible rfl
  rotate_left
  · simp only [Act.put, List.setIfInBounds_toArray, List.set_cons_zero, List.set_cons_succ, i64_w, i32_w]
    rfl
  refine pure_ (i := 1) (N := some 24) (v := ?_) (a' := ?_) #[true, true, false, false, false, false, false, false, false, false, false, false, false, false] rfl rfl (any_of HT_.out (by kernel_rfl)) (fun _ _ _ h => h) (Or.inl ⟨by rfl, ?_⟩) ?_ ?_
  rotate_left
  · intro w'
    go_simp
    try with_reducible rfl
  rotate_left
  · simp only [Act.put, List.setIfInBounds_toArray, List.set_cons_zero, List.set_cons_succ, i64_w, i32_w]
    rfl
  refine pure_ (i := 2) (N := some 25) (v := ?_) (a' := ?_) #[true, true, true, false, false, false, false, false, false, false, false, false, false, false] rfl rfl (any_of HT_.out (by kernel_rfl)) (fun _ _ _ h => h) (Or.inl ⟨by rfl, ?_⟩) ?_ ?_
  rotate_left
  · intro w'
    go_simp
    try with_reducible rfl
  rotate_left
  · simp only [Act.put, List.setIfInBounds_toArray, List.set_cons_zero, List.set_cons_succ, i64_w, i32_w]
    rfl
  refine take_ (i := 3) (N := some 26) (v := ?_) (a' := ?_) #[true, true, true, true, false, false, false, false, false, false, false, false, false, false] rfl rfl (take_ofW HT_.out HW_.out (by kernel_rfl)) (fun _ _ _ h => h) (Or.inl ⟨by rfl, ?_⟩) hHeld ?_ ?_
  rotate_left
  · rintro w' ⟨s0, s1⟩
    go_simp
    try with_reducible rfl
  rotate_left
  · simp only [Act.put, List.setIfInBounds_toArray, List.set_cons_zero, List.set_cons_succ, i64_w, i32_w]
    rfl
  refine pure_ (i := 4) (N := some 27) (v := ?_) (a' := ?_) #[true, true, true, true, true, false, false, false, false, false, false, false, false, false] rfl rfl (any_of HT_.out (by kernel_rfl)) (fun _ _ _ h => h) (Or.inl ⟨by rfl, ?_⟩) ?_ ?_
  rotate_left
  · intro w'
    go_simp
    try with_reducible rfl
  rotate_left
  · simp only [Act.put, List.setIfInBounds_toArray, List.set_cons_zero, List.set_cons_succ, i64_w, i32_w]
    rfl
  refine pure_ (i := 5) (N := some 28) (v := ?_) (a' := ?_) #[true, true, true, true, true, true, false, false, false, false, false, false, false, false] rfl rfl (any_of HT_.out (by kernel_rfl)) (fun _ _ _ h => h) (Or.inl ⟨by rfl, ?_⟩) ?_ ?_
  rotate_left
  · intro w'
    go_simp
    try with_reducible rfl
  rotate_left
  · simp only [Act.put, List.setIfInBounds_toArray, List.set_cons_zero, List.set_cons_succ, i64_w, i32_w]
    rfl
  refine pure_ (i := 6) (N := some 29) (v := ?_) (a' := ?_) #[true, true, true, true, true, true, true, false, false, false, false, false, false, false] rfl rfl (any_of HT_.out (by kernel_rfl)) (fun _ _ _ h => h) (Or.inl ⟨by rfl, ?_⟩) ?_ ?_
  rotate_left
  · intro w'
    go_simp
    try with_reducible rfl
  rotate_left
  · simp only [Act.put, List.setIfInBounds_toArray, List.set_cons_zero, List.set_cons_succ, i64_w, i32_w]
    rfl
  refine take_ (i := 7) (N := some 30) (v := ?_) (a' := ?_) #[true, true, true, true, true, true, true, true, false, false, false, false, false, false] rfl rfl (take_ofW HT_.out HW_.out (by kernel_rfl)) (fun _ _ _ h => h) (Or.inl ⟨by rfl, ?_⟩) hHeld ?_ ?_
  rotate_left
  · rintro w' ⟨s0, s1⟩
    go_simp
    try with_reducible rfl
  rotate_left
  · simp only [Act.put, List.setIfInBounds_toArray, List.set_cons_zero, List.set_cons_succ, i64_w, i32_w]
    rfl
  refine pure_ (i := 8) (N := some 31) (v := ?_) (a' := ?_) #[true, true, true, true, true, true, true, true, true, false, false, false, false, false] rfl rfl (any_of HT_.out (by kernel_rfl)) (fun _ _ _ h => h) (Or.inl ⟨by rfl, ?_⟩) ?_ ?_
  rotate_left
  · intro w'
    go_simp
    try with_reducible rfl
  rotate_left
  · simp only [Act.put, List.setIfInBounds_toArray, List.set_cons_zero, List.set_cons_succ, i64_w, i32_w]
    rfl
  refine one_ (i := 9) (N := some 32) #[true, true, true, true, true, true, true, true, true, true, false, false, false, false] rfl rfl (one_of HT_.out (by kernel_rfl)) (by decide) (fun K hK => ?_)
  refine goesv_ (.tmp 30) Tryd.func45 (by kernel_rfl) rfl #[.string s] (by rfl) rfl rfl (by rfl) (by (try simp only [List.map_toArray, List.map_cons, List.map_nil]); first | done | rfl) ?_
  refine (codes_Columns.calls _ s _ _ HC.out).mono ?_
  rintro e w6 ⟨rfl, hb⟩
  refine ⟨_, rfl, ?_⟩
  have n9_ := Aside0.mk (Nat.le_trans HB0.out HB.out.size)
  have n0_ := Aside0.mk (HP.out.below hb)
  have n1_ := Aside0.mk (below_then HB.out n9_.out hb)
  have n2_ := Aside0.mk (HT.out.trans (Ty.of_below hb))
  clear HP HB HT hb n9_
  have HP := n0_
  have HB := n1_
  have HT := n2_
  clear n0_ n1_ n2_
  refine hK.out _ _ ⟨HP.out.cells.2.1, HP.out.cells.2.2.2.2⟩ (fun hHeld => ?_)
  clear hK K
  refine norm_ (a' := ?_) ?_ ?_
  rotate_left
  · show Act.put _ (some 32) _ = _
    simp only [Act.put, List.setIfInBounds_toArray, List.set_cons_zero, List.set_cons_succ, i64_w, i32_w]
    rfl
  refine pure_ (i := 10) (N := some 33) (v := ?_) (a' := ?_) #[true, true, true, true, true, true, true, true, true, true, true, false, false, false] rfl rfl (any_of HT_.out (by kernel_rfl)) (fun _ _ _ h => h) (Or.inl ⟨by rfl, ?_⟩) ?_ ?_
  rotate_left
  · intro w'
    go_simp
    try with_reducible rfl
  rotate_left
  · simp only [Act.put, List.setIfInBounds_toArray, List.set_cons_zero, List.set_cons_succ, i64_w, i32_w]
    rfl
  refine pure_ (i := 11) (N := some 34) (v := ?_) (a' := ?_) #[true, true, true, true, true, true, true, true, true, true, true, true, false, false] rfl rfl (any_of HT_.out (by kernel_rfl)) (fun _ _ _ h => h) (Or.inl ⟨by rfl, ?_⟩) ?_ ?_
  rotate_left
  · intro w'
    go_simp
    try with_reducible rfl
  rotate_left
  · simp only [Act.put, List.setIfInBounds_toArray, List.set_cons_zero, List.set_cons_succ, i64_w, i32_w]
    rfl
  refine pure_ (i := 12) (N := some 35) (v := ?_) (a' := ?_) #[true, true, true, true, true, true, true, true, true, true, true, true, true, false] rfl rfl (any_of HT_.out (by kernel_rfl)) (fun _ _ _ h => h) (Or.inl ⟨by rfl, ?_⟩) ?_ ?_
  rotate_left
  · intro w'
    go_simp
    try with_reducible rfl
  rotate_left
  · simp only [Act.put, List.setIfInBounds_toArray, List.set_cons_zero, List.set_cons_succ, i64_w, i32_w]
    rfl
  refine last_ (i := 13) (N := none) #[true, true, true, true, true, true, true, true, true, true, true, true, true, true] rfl rfl (one_of HT_.out (by kernel_rfl)) (by decide) (fun K hK => ?_)
  have hs0 : w6.cell? ⟨g, 3, none⟩ = some (.int .i64 col0) := HP.out.cells.2.1
  have hfs0 := blk_frozen HP.out.c 3
  have hw : wrap64 (col0 + (col s : Int)) = col0 + (col s : Int) := w64 _ (by have := HN.out; omega) (by have := HN.out; omega)
  refine skip_ (w1 := ?_) (by rfl) rfl ?_ ?_
  rotate_left
  · go_simp
    rfl
  rw [hw]
  obtain ⟨h1, h2, h3⟩ := HP.out.setc (col0 + (col s : Int))
  have n0_ := Aside0.mk (h1)
  have n1_ := Aside0.mk (HB.out.trans h2)
  have n2_ := Aside0.mk (HT.out.trans h3)
  clear HP HB HT h1 h2 h3 hs0 hfs0 hw
  have HP := n0_
  have HB := n1_
  have HT := n2_
  clear n0_ n1_ n2_
  refine hK.out _ _ ?_
  clear hK K
  refine done_ (done_of HT_.out (by kernel_rfl)) ?_
  clear hHeld
  go_end0
  exact ⟨rfl, ⟨_, _, HP.out⟩, HB.out, HT.out⟩
set_option maxHeartbeats 4000000 in
set_option maxRecDepth 100000 in
/-- Does a box fit? -/
theorem fits_ {B g : Nat} {p v : Value} {x : List UInt8} {W col0 : Int} {pend : Nat} {td F : Value} {w : World} (h : Pr B g p v x W col0 pend td F w) {vd : Value} {d : D} (hd : DV w vd d) (h0 : 0 ≤ col0) (hc0 : col0 ≤ 1000000000000) (hW : 0 ≤ W) (hW2 : W ≤ 1000000000000) :
    Calls Tryd.prog 58 #[.pointer (some ⟨g, 0, none⟩), vd] w fun e w' => e = .returned (.bool (fit W d ⟨x, col0, pend⟩)) ∧ Below w.heap.size w w' := by
  have HD := Aside0.mk (Width_ hd)
  obtain ⟨k2, k3, k4, k5, k6⟩ := h.cells
  have hw : wrap64 (W - col0) = W - col0 := w64 _ (by omega) (by omega)
  clear h hd k4 k5 k6
  unfold fit
  cases hh : PDoc.hd d with
  | true =>
    rw [hh] at HD
    go_enter Tryd.func58, Tryd.ntmps58
    go_wp2_with (go_at_call 12; refine HD.out.mono ?_; clear HD; rintro e w1 ⟨rfl, hq⟩; obtain rfl := hq.symm; clear hq)
    go_quiet (fail)
    go_wp2
    go_ret
    exact ⟨rfl, pw_below_drewN (Below.refl _ _) _⟩
  | false =>
    rw [hh] at HD
    go_enter Tryd.func58, Tryd.ntmps58
    go_wp2_with (go_at_call 12; refine HD.out.mono ?_; clear HD; rintro e w1 ⟨rfl, hq⟩; obtain rfl := hq.symm; clear hq)
    go_quiet (fail)
    go_wp2
    go_ret
    exact ⟨rfl, pw_below_drewN (Below.refl _ _) _⟩
def kT : Kd Tk := Kd.iso (Kd.pair kD (Kd.pair (Kd.int .i64) Kd.bool)) (fun t : Tk => (t.1, (t.2.1 : Int), t.2.2))
theorem kT_mk {w : World} {v : Value} {d : D} {i : Nat} {f : Bool} (h : DV w v d) : kT.K w (d, i, f) [v, .int .i64 (i : Int), .bool f] := ⟨[v], _, rfl, h, [.int .i64 (i : Int)], _, rfl, rfl, rfl⟩
theorem kT_open {w : World} {t : Tk} {cs : List Value} (h : kT.K w t cs) : ∃ v, cs = [v, .int .i64 (t.2.1 : Int), .bool t.2.2] ∧ DV w v t.1 := by
  obtain ⟨a, _, rfl, ha, ⟨_, _, rfl, rfl, rfl⟩⟩ := h
  have hl : a.length = 1 := kD.K_len ha
  obtain ⟨v, rfl⟩ : ∃ v, a = [v] := by
    cases a with
    | nil => simp at hl
    | cons v r => cases r with
      | nil => exact ⟨v, rfl⟩
      | cons _ _ => simp at hl
  exact ⟨v, rfl, ha⟩
theorem infoT : (Tryd.prog.info? 87).map (fun i => (i.zero, i.size, i.bytes)) = some (some (.agg #[.pointer none, .int .i64 0, .bool false]), 3, 24) := by kernel_rfl
theorem litT {w w0 : World} {g : Nat} {x0 x1 x2 : Value} {t : Tk} (h : w.heap[g]? = some (.cells #[x0, x1, x2] 87 (0, 0))) (hk : kT.K w0 t [x0, x1, x2]) : ReadsRow (kT.K w0) 3 w (some ⟨g, 0, none⟩) 1 [t] := by
  refine ⟨rfl, by omega, fun _ => ⟨_, rfl, fun j p hp => ?_⟩⟩
  have hj : j = 0 ∧ t = p := by
    cases j with
    | zero => simpa using hp
    | succ j => simp at hp
  obtain ⟨rfl, rfl⟩ := hj
  refine ⟨_, rfl, hk, fun i u hu => ?_⟩
  rw [add_plain, Nat.zero_mul, Nat.zero_add]
  refine (blk_cell h _).trans ?_
  simpa using hu
theorem lits_step {P : Program} {ops : Array Oper} {o : Oper} {a : Act} {Q : Exit → Act → World → Prop} {Kc : Act → World → Prop} {W : World} (hw : Region.wanted o (yielded ops a.tmps) = true) {N : Tmp} (_hd : o.dst = some N) {cs : Array Value} {t : TypeId}
    (hrun : (execOp a.eval o).run P W = .ok (.value (.slice (some ⟨W.heap.size, 0, none⟩) 1 1)) (W.alloc (.cells cs t (0, 0))))
    (h : ∀ g, g = W.heap.size → ∀ w1, w1.heap[g]? = some (.cells cs t (0, 0)) → Below W.heap.size W w1 → Kc (a.put o.dst (.slice (some ⟨g, 0, none⟩) 1 1)) w1) : if Region.wanted o (yielded ops a.tmps) = true then Oper.wp P o a W Kc Q else Kc (a.put o.dst undef) W :=
  event_step hw hrun (h _ rfl _ (blk_new W _) (below_alloc (Below.refl _ _) _))
theorem R_ty {α : Type} {d : Kd α} {e base : Nat} {ok : Nat → Prop} {w w' : World} {v : Value} {xs : List α} (hE : d.E = []) (h : d.R e w base ok v xs) (ht : Ty e w w') : d.R e w' base ok v xs := by
  refine Kd.R_mono (Kd.R_move (Kd.R_bound h) (fun k hk => ?_)) (fun _ hk => hk.1)
  obtain ⟨-, -, -, q, hq, cells, hc⟩ := hk
  rw [hE] at hq
  obtain rfl := List.mem_singleton.1 hq
  exact ht k cells hc
set_option maxHeartbeats 1000000 in
set_option maxRecDepth 100000 in
/-- A box's parts, in a row of their own; the boxes as they lay. -/
theorem PartsF {w0 w : World} {v : Value} {d : D} (h0 : DV w0 v d) (hb0 : Below w0.heap.size w0 w) (hl : (ps d).length ≤ 1000000000) : Calls Tryd.prog 19 #[v] w fun e w' => ∃ v1, e = .returned v1 ∧ (Kd.fixed kD w0).R 24 w' w.heap.size (fun _ => True) v1 (ps d) ∧ Below w.heap.size w w' := by
  cases d with
  | none =>
    obtain rfl := h0.nil
    go_enter Tryd.func19, Tryd.ntmps19
    go_wp2
    go_ret
    exact ⟨_, rfl, Kd.R_nil _ _ _ _ _, Below.refl _ _⟩
  | some x =>
    obtain ⟨g, A, c, rfl, hx⟩ := h0.open
    have HC := Aside0.mk (show (Kd.fixed kD w0).C w A x.l.length x.l from ReadsRow.imp_ (R' := (Kd.fixed kD w0).K w) hx.hC hb0 (fun _ _ h => h))
    have HL := Aside0.mk hx.hl
    obtain ⟨k0, k1, k2, k3, k4, k5, k6⟩ := (hx.below hb0).cells
    have HLL := Aside0.mk (show x.l.length ≤ 1000000000 from hl)
    clear h0 hx hl
    go_enter Tryd.func19, Tryd.ntmps19
    go_wp2_with (at_builtin; go_loud (refine Kd.R_append_rows (Kd.fixed kD w0) (Rr := kD.K w0) (w0 := w) w.heap.size rfl _ _ 40 24 (.pointer none) 8 rfl Tryd.underlying40 info24 rfl (Nat.lt_succ_self 0) (by omega) (.slice none 0 0) [] x.l A x.l.length c (fun _ => True) (fun _ => False) rfl rfl (Kd.R_nil _ _ _ _ _) HC.out (fun x cs h => h) (fun _ h => h.elim) (fun _ _ => trivial) (Below.refl _ _) (Nat.le_refl _) (by have := HLL.out; simp only [List.length_nil]; omega) ?_); intro v1 w1 hR hB _ _)
    rw [List.nil_append] at hR
    obtain ⟨A1, c1, rfl, hl1, -⟩ := Kd.R_reads hR
    have HR := Aside0.mk hR
    clear hR
    go_wp2
    go_ret
    exact ⟨_, rfl, HR.out, hB⟩
/-- The printer, and what is left, told by what has been laid. -/
structure PS (w0 : World) (g : Nat) (W : Int) (q : LS) (ts : List Tk) (ok : Nat → Prop) (w : World) : Prop where
  ex : ∃ p v td, Pr w0.heap.size g p v q.x W q.c q.p td FC w ∧ (Kd.fixed kT w0).R 87 w w0.heap.size ok td ts
  b : Below w0.heap.size w0 w
theorem PS.step {w0 w w' : World} {g : Nat} {W : Int} {q q' : LS} {ts : List Tk} {ok : Nat → Prop} (h : PS w0 g W q ts ok w) (k : ∀ p v td, Pr w0.heap.size g p v q.x W q.c q.p td FC w → ∃ p' v', Pr w0.heap.size g p' v' q'.x W q'.c q'.p td FC w') (hb : Below w0.heap.size w w') (ht : Ty 87 w w') : PS w0 g W q' ts ok w' := by
  obtain ⟨⟨p, v, td, h1, h2⟩, h3⟩ := h
  obtain ⟨p', v', h4⟩ := k p v td h1
  exact ⟨⟨p', v', td, h4, R_ty rfl h2 ht⟩, h3.trans hb⟩
theorem PS.below {w0 w w' : World} {g : Nat} {W : Int} {q : LS} {ts : List Tk} {ok : Nat → Prop} (h : PS w0 g W q ts ok w) (hb : Below w.heap.size w w') : PS w0 g W q ts ok w' :=
  h.step (fun p v td hp => ⟨p, v, hp.below hb⟩) (Below.mono hb h.b.size) (Ty.of_below hb)
theorem PS.mono {w0 w : World} {g : Nat} {W : Int} {q : LS} {ts : List Tk} {ok ok' : Nat → Prop} (h : PS w0 g W q ts ok w) (ho : ∀ k, ok k → ok' k) : PS w0 g W q ts ok' w := by
  obtain ⟨⟨p, v, td, h1, h2⟩, h3⟩ := h
  exact ⟨⟨p, v, td, h1, Kd.R_mono h2 ho⟩, h3⟩
/-- Boxes, put on the stack. -/
def pushed (i : Nat) (f : Bool) (l : List D) : List Tk := l.reverse.map fun d => (d, i, f)
theorem pushed_step (i : Nat) (f : Bool) (l : List D) (j : Nat) (hj : j < l.length) : pushed i f (l.drop j) = pushed i f (l.drop (j + 1)) ++ [(l[j], i, f)] := by
  unfold pushed
  rw [List.drop_eq_getElem_cons hj, List.reverse_cons, List.map_append]
  rfl
theorem pushed_len (i : Nat) (f : Bool) (l : List D) : (pushed i f l).length = l.length := by simp [pushed]
theorem at_F {w0 w : World} {A : Option Addr} {n : Nat} {xs : List D} (h : (Kd.fixed kD w0).C w A n xs) (i : Nat) (hi : i < xs.length) : ∃ ad v, A = some ad ∧ w.cell? (ad.add i) = some v ∧ DV w0 v xs[i] := by
  have hn : xs.length = n := h.1
  obtain ⟨ad, c, e, hl, hK, hc⟩ := Kd.C_get h none (i : Int) (by omega) (by omega)
  have hl1 : c.length = 1 := hl
  obtain ⟨v, rfl⟩ : ∃ v, c = [v] := by
    cases c with
    | nil => simp at hl1
    | cons v r => cases r with
      | nil => exact ⟨v, rfl⟩
      | cons _ _ => simp at hl1
  refine ⟨ad, v, e, ?_, ?_⟩
  · have := hc 0 v rfl
    rw [show (Kd.fixed kD w0).sz = 1 from rfl, Int.toNat_natCast, Nat.mul_one, Nat.add_zero] at this
    exact this
  · rw [Int.toNat_natCast] at hK
    have e2 : xs.getD i none = xs[i] := by simp [List.getD, hi]
    rw [e2] at hK
    exact hK
theorem Pr.grown {B g : Nat} {p v : Value} {x : List UInt8} {W col : Int} {pend : Nat} {td F : Value} {w w' : World} (h : Pr B g p v x W col pend td F w) (ho : ∀ k, td.ownBlock = some k → ∃ cells, w.heap[k]? = some (.cells cells 87 (0, 0))) (hg : w.grownBy w' td.ownBlock) : Pr B g p v x W col pend td F w' := by
  have key : ∀ {k t : Nat} {cs : Array Value}, w.heap[k]? = some (.cells cs t (0, 0)) → t ≠ 87 → some k ≠ td.ownBlock := by
    intro k t cs hk ht e
    obtain ⟨cells, hc⟩ := ho k e.symm
    rw [hk] at hc
    injection hc with hc
    injection hc with _ hc
    exact ht hc
  refine ⟨h.lg, h.lp, blk_grown h.c hg (key h.c (by decide)), own_move h.own (fun k hk => ?_), h.ne⟩
  obtain ⟨cells, hc⟩ := own_typed h.own k hk
  exact hg.block k (blk_lt hc) (key hc (by decide))
def pt5.T : Bool × List (List Nat × List Nat) := (true, [([], []), ([], []), ([1], [1]), ([2], [2]), ([3], [3]), ([], []), ([], []), ([5, 6], [5, 6]), ([7], [7]), ([], []), ([9], [9]), ([], []), ([10, 11], [10, 11]), ([], []), ([8, 12, 13], [8, 12, 13]), ([14], [14]), ([4, 15], [4, 15]), ([0, 0, 1, 2, 3, 4, 5, 6, 7, 8, 9, 10, 11, 12, 13, 14, 15, 16], [0]), ([17, 0, 1, 2, 3, 4, 5, 6, 7, 8, 9, 10, 11, 12, 13, 14, 15, 16], [17]), ([18, 16, 16, 0, 1, 2, 3, 4, 5, 6, 7, 8, 9, 10, 11, 12, 13, 14, 15, 16], [16, 18])])
def pt5.B : List Nat := [0, 0, 2, 6, 14, 0, 0, 96, 224, 0, 512, 0, 3584, 0, 16352, 32736, 65534, 131071, 262143, 524287]
theorem pt5.tab : rtab .any (opsOf Tryd.f57 5) = pt5.T := by kernel_rfl
theorem pt5.bits : waitsOk pt5.T.2 pt5.B = true := by kernel_rfl
set_option maxHeartbeats 8000000 in
set_option maxRecDepth 100000 in
/-- A box's parts are put onto what is left. -/
theorem parts_ {w0 w : World} {g : Nat} {W : Int} {q : LS} {ts : List Tk} (h : PS w0 g W q ts (fun _ => True) w) {vd : Value} {d : D} (hd : DV w0 vd d) (i b : Nat) (f0 f : Bool) (hib : i + b ≤ 1000000000000) (hn : (ps d).length + ts.length ≤ 1000000000) :
    Calls Tryd.prog 57 #[.pointer (some ⟨g, 0, none⟩), .agg #[vd, .int .i64 (i : Int), .bool f0], .int .i64 (b : Int), .bool f] w fun e w' => e = .returned (.tuple #[]) ∧ PS w0 g W q (ts ++ pushed (i + b) f (ps d)) (fun _ => True) w' := by
  obtain ⟨wb, hwb⟩ : ∃ wb, w.alloc (.cells #[vd, .int .i64 (i : Int), .bool f0] 87) = wb := ⟨_, rfl⟩
  have HBT := Aside0.mk (show wb.heap[w.heap.size]? = some (.cells #[vd, .int .i64 (i : Int), .bool f0] 87 (0, 0)) from hwb ▸ blk_new w _)
  have HW0 := Aside0.mk h.b.size
  have HS := Aside0.mk (show PS w0 g W q ts (fun k => k ≠ w.heap.size) wb from by
    have hb : Below w.heap.size w wb := hwb ▸ below_alloc (Below.refl _ _) _
    obtain ⟨⟨p, v, td, h1, h2⟩, h3⟩ := h
    exact (PS.mono (ok' := fun k => k ≠ w.heap.size) (PS.mk (ok := fun k => True ∧ k ≠ w.heap.size) ⟨p, v, td, h1, Kd.R_elderB h2 w.heap.size (Nat.le_refl _)⟩ h3) (fun _ hk => hk.2)).below hb)
  have HPA := Aside0.mk (PartsF (w := wb) hd HS.out.b (by omega))
  have HN := Aside0.mk (And.intro hib hn)
  have kv : wb.cell? ⟨w.heap.size, 0, none⟩ = some vd := (blk_cell HBT.out 0).trans rfl
  clear h hd hib hn
  go_enter Tryd.func57, Tryd.ntmps57
  go_wp2_with (go_at_call 19; refine HPA.out.mono ?_; clear HPA kv; clear hwb; rintro e w1 ⟨v1, rfl, hR, hb⟩; obtain ⟨A1, c1, rfl, hl1, hC1⟩ := Kd.R_reads hR; have HR := Aside0.mk hR; have HC1 := Aside0.mk hC1; have n0_ := Aside0.mk (HS.out.below hb); have n1_ := Aside0.mk (blk_below HBT.out hb); clear HS HBT hR hb hC1; have HS := n0_; have HBT := n1_; clear n0_ n1_)
  have HLL := Aside0.mk (show (((ps d).length : Int) - 1) + 1 = (ps d).length from by omega)
  go_loopg [9] ((ps d).length + 1) (fun kq v9 w' => ∃ (j : Nat) (z : Int), v9 = .int .i64 z ∧ Aside0 (z + 1 = (j : Int) ∧ j ≤ (ps d).length ∧ kq = j + 1) ∧ Aside0 (PS w0 g W q (ts ++ pushed (i + b) f ((ps d).drop j)) (fun k => k ≠ w.heap.size) w') ∧ Aside0 (w'.heap[w.heap.size]? = some (.cells #[vd, .int .i64 (i : Int), .bool f0] 87 (0, 0))) ∧ Aside0 (Ty 24 w1 w'))
  case atStart =>
    exact ⟨(ps d).length, _, rfl, ⟨by have := HN.out; unfold wrap64; omega, Nat.le_refl _, rfl⟩, ⟨by rw [List.drop_length]; show PS w0 g W q (ts ++ []) _ _; rw [List.append_nil]; exact HS.out⟩, HBT, ⟨Ty.refl _ _⟩⟩
  case round =>
    clear HS HBT
    obtain ⟨j, z, rfl, HZ, HS, HBT, HTY⟩ := hrel
    by_cases c9 : 0 ≤ z
    · have d9 : decide (0 ≤ z) = true := decide_eq_true c9
      obtain ⟨jj, rfl⟩ : ∃ jj : Nat, z = (jj : Int) := ⟨z.toNat, by omega⟩
      have hjn : jj < (ps d).length := by have := HZ.out; omega
      obtain rfl : j = jj + 1 := by have := HZ.out; omega
      obtain ⟨gp, cap, hv0, -, -, cells, hcells⟩ := Kd.R_form HR.out (by omega)
      have hv : A1 = some ⟨gp, 0, none⟩ := (Value.slice.inj hv0).1
      clear hv0
      obtain ⟨ad, u, had, hcell, hu⟩ := at_F HC1.out jj hjn
      obtain ⟨pu, rfl⟩ := hu.ptr
      have hae : ad = ⟨gp, 0, none⟩ := by rw [hv] at had; injection had with had; exact had.symm
      have HU := Aside0.mk hu
      have HCS := Aside0.mk (fun (w' : World) (ht : Ty 24 w1 w') => (show w'.cell? (ad.add jj) = some (.pointer pu) from by
        rw [hae, add_plain] at hcell ⊢
        rw [← hcell]
        unfold World.cell?
        rw [ht gp cells hcells]))
      have HZZ := Aside0.mk HZ.out
      subst had
      have HJN := Aside0.mk hjn
      have hw : wrap64 ((i : Int) + (b : Int)) = ((i + b : Nat) : Int) := by have := HN.out.1; unfold wrap64; omega
      have HWW := Aside0.mk hw
      have hjc : jj < c1 := by omega
      clear hv hcell hu hae hcells hw
      obtain ⟨⟨pp, vv, td, hp, hr⟩, hb⟩ := HS.out
      have HP := Aside0.mk hp
      have HRT := Aside0.mk hr
      have HB := Aside0.mk hb
      clear hp hr hb HS
      have c9x := c9
      go_wp2
      clear c9x
      have n0_ := Aside0.mk (HP.out.drew)
      have n1_ := Aside0.mk (Kd.R_drew HRT.out)
      have n2_ := Aside0.mk (below_drew1 HB.out)
      have n3_ := Aside0.mk (blk_drew HBT.out)
      have n4_ := Aside0.mk (HTY.out.trans (Ty.of_below (below_drew1 (Below.refl _ wr))))
      clear HP HRT HB HBT HTY 
      have HP := n0_
      have HRT := n1_
      have HB := n2_
      have HBT := n3_
      have HTY := n4_
      clear n0_ n1_ n2_ n3_ n4_
      refine start_ (n := 20) (S := fun w' => w'.cell? ⟨g, 5, none⟩ = some td ∧ w'.cell? (ad.add jj) = some (.pointer pu) ∧ w'.cell? ⟨w.heap.size, 1, none⟩ = some (.int .i64 (i : Int))) (ds := [19]) #[false, false, false, false, false, false, false, false, false, false, false, false, false, false, false, false, false, false, false, false] (by kernel_rfl) rfl rfl ⟨HP.out.cells.2.2.2.1, HCS.out _ HTY.out, (blk_cell HBT.out 1).trans rfl⟩ (fun hHeld => ?_); refine with_tabW pt5.tab pt5.bits (fun HT_ HW_ => ?_)
      generalize wr.drew = w2 at HP HRT HB HBT HTY hHeld ⊢
      refine pure_ (i := 0) (N := some 20) (v := ?_) (a' := ?_) #[true, false, false, false, false, false, false, false, false, false, false, false, false, false, false, false, false, false, false, false] rfl rfl (any_of HT_.out (by kernel_rfl)) (fun _ _ _ h => h) (Or.inl ⟨by rfl, ?_⟩) ?_ ?_
      rotate_left
      · intro w'
        go_simp
        try with_reducible rfl
      rotate_left
      · simp only [Act.put, List.setIfInBounds_toArray, List.set_cons_zero, List.set_cons_succ, i64_w, i32_w]
        rfl
      refine pure_ (i := 1) (N := some 21) (v := ?_) (a' := ?_) #[true, true, false, false, false, false, false, false, false, false, false, false, false, false, false, false, false, false, false, false] rfl rfl (any_of HT_.out (by kernel_rfl)) (fun _ _ _ h => h) (Or.inl ⟨by rfl, ?_⟩) ?_ ?_
      rotate_left
      · intro w'
        go_simp
        try with_reducible rfl
      rotate_left
      · simp only [Act.put, List.setIfInBounds_toArray, List.set_cons_zero, List.set_cons_succ, i64_w, i32_w]
        rfl
      refine pure_ (i := 2) (N := some 22) (v := ?_) (a' := ?_) #[true, true, true, false, false, false, false, false, false, false, false, false, false, false, false, false, false, false, false, false] rfl rfl (any_of HT_.out (by kernel_rfl)) (fun _ _ _ h => h) (Or.inl ⟨by rfl, ?_⟩) ?_ ?_
      rotate_left
      · intro w'
        go_simp
        try with_reducible rfl
      rotate_left
      · simp only [Act.put, List.setIfInBounds_toArray, List.set_cons_zero, List.set_cons_succ, i64_w, i32_w]
        rfl
      refine pure_ (i := 3) (N := some 23) (v := ?_) (a' := ?_) #[true, true, true, true, false, false, false, false, false, false, false, false, false, false, false, false, false, false, false, false] rfl rfl (any_of HT_.out (by kernel_rfl)) (fun _ _ _ h => h) (Or.inl ⟨by rfl, ?_⟩) ?_ ?_
      rotate_left
      · intro w'
        go_simp
        try with_reducible rfl
      rotate_left
      · simp only [Act.put, List.setIfInBounds_toArray, List.set_cons_zero, List.set_cons_succ, i64_w, i32_w]
        rfl
      refine take_ (i := 4) (N := some 24) (v := ?_) (a' := ?_) #[true, true, true, true, true, false, false, false, false, false, false, false, false, false, false, false, false, false, false, false] rfl rfl (take_ofW HT_.out HW_.out (by kernel_rfl)) (fun _ _ _ h => h) (Or.inl ⟨by rfl, ?_⟩) hHeld ?_ ?_
      rotate_left
      · rintro w' ⟨s0, s1, s2⟩
        go_simp
        try with_reducible rfl
      rotate_left
      · simp only [Act.put, List.setIfInBounds_toArray, List.set_cons_zero, List.set_cons_succ, i64_w, i32_w]
        rfl
      refine pure_ (i := 5) (N := some 25) (v := ?_) (a' := ?_) #[true, true, true, true, true, true, false, false, false, false, false, false, false, false, false, false, false, false, false, false] rfl rfl (any_of HT_.out (by kernel_rfl)) (fun _ _ _ h => h) (Or.inl ⟨by rfl, ?_⟩) ?_ ?_
      rotate_left
      · intro w'
        go_simp
        try with_reducible rfl
      rotate_left
      · simp only [Act.put, List.setIfInBounds_toArray, List.set_cons_zero, List.set_cons_succ, i64_w, i32_w]
        rfl
      refine pure_ (i := 6) (N := some 26) (v := ?_) (a' := ?_) #[true, true, true, true, true, true, true, false, false, false, false, false, false, false, false, false, false, false, false, false] rfl rfl (any_of HT_.out (by kernel_rfl)) (fun _ _ _ h => h) (Or.inl ⟨by rfl, ?_⟩) ?_ ?_
      rotate_left
      · intro w'
        go_simp
        try with_reducible rfl
      rotate_left
      · simp only [Act.put, List.setIfInBounds_toArray, List.set_cons_zero, List.set_cons_succ, i64_w, i32_w]
        rfl
      refine pure_ (i := 7) (N := some 27) (v := ?_) (a' := ?_) #[true, true, true, true, true, true, true, true, false, false, false, false, false, false, false, false, false, false, false, false] rfl rfl (any_of HT_.out (by kernel_rfl)) (fun _ _ _ h => h) (Or.inl ⟨by rfl, ?_⟩) ?_ ?_
      rotate_left
      · intro w'
        go_simp
        try with_reducible rfl
      rotate_left
      · simp only [Act.put, List.setIfInBounds_toArray, List.set_cons_zero, List.set_cons_succ, i64_w, i32_w]
        rfl
      refine take_ (i := 8) (N := some 28) (v := ?_) (a' := ?_) #[true, true, true, true, true, true, true, true, true, false, false, false, false, false, false, false, false, false, false, false] rfl rfl (take_ofW HT_.out HW_.out (by kernel_rfl)) (fun _ _ _ h => h) (Or.inl ⟨by rfl, ?_⟩) hHeld ?_ ?_
      rotate_left
      · rintro w' ⟨s0, s1, s2⟩
        go_simp
        try with_reducible rfl
      rotate_left
      · simp only [Act.put, List.setIfInBounds_toArray, List.set_cons_zero, List.set_cons_succ, i64_w, i32_w]
        rfl
      refine pure_ (i := 9) (N := some 29) (v := ?_) (a' := ?_) #[true, true, true, true, true, true, true, true, true, true, false, false, false, false, false, false, false, false, false, false] rfl rfl (any_of HT_.out (by kernel_rfl)) (fun _ _ _ h => h) (Or.inl ⟨by rfl, ?_⟩) ?_ ?_
      rotate_left
      · intro w'
        go_simp
        try with_reducible rfl
      rotate_left
      · simp only [Act.put, List.setIfInBounds_toArray, List.set_cons_zero, List.set_cons_succ, i64_w, i32_w]
        rfl
      refine take_ (i := 10) (N := some 30) (v := ?_) (a' := ?_) #[true, true, true, true, true, true, true, true, true, true, true, false, false, false, false, false, false, false, false, false] rfl rfl (take_ofW HT_.out HW_.out (by kernel_rfl)) (fun _ _ _ h => h) (Or.inl ⟨by rfl, ?_⟩) hHeld ?_ ?_
      rotate_left
      · rintro w' ⟨s0, s1, s2⟩
        go_simp
        try with_reducible rfl
      rotate_left
      · simp only [Act.put, List.setIfInBounds_toArray, List.set_cons_zero, List.set_cons_succ, i64_w, i32_w]
        rfl
      refine pure_ (i := 11) (N := some 31) (v := ?_) (a' := ?_) #[true, true, true, true, true, true, true, true, true, true, true, true, false, false, false, false, false, false, false, false] rfl rfl (any_of HT_.out (by kernel_rfl)) (fun _ _ _ h => h) (Or.inl ⟨by rfl, ?_⟩) ?_ ?_
      rotate_left
      · intro w'
        go_simp
        try with_reducible rfl
      rotate_left
      · simp only [Act.put, List.setIfInBounds_toArray, List.set_cons_zero, List.set_cons_succ, i64_w, i32_w]
        rfl
      refine pure_ (i := 12) (N := some 32) (v := ?_) (a' := ?_) #[true, true, true, true, true, true, true, true, true, true, true, true, true, false, false, false, false, false, false, false] rfl rfl (any_of HT_.out (by kernel_rfl)) (fun _ _ _ h => h) (Or.inl ⟨by rfl, ?_⟩) ?_ ?_
      rotate_left
      · intro w'
        go_simp
        try with_reducible rfl
      rotate_left
      · simp only [Act.put, List.setIfInBounds_toArray, List.set_cons_zero, List.set_cons_succ, i64_w, i32_w]
        rfl
      refine pure_ (i := 13) (N := some 33) (v := ?_) (a' := ?_) #[true, true, true, true, true, true, true, true, true, true, true, true, true, true, false, false, false, false, false, false] rfl rfl (any_of HT_.out (by kernel_rfl)) (fun _ _ _ h => h) (Or.inl ⟨by rfl, ?_⟩) ?_ ?_
      rotate_left
      · intro w'
        go_simp
        try with_reducible rfl
      rotate_left
      · simp only [Act.put, List.setIfInBounds_toArray, List.set_cons_zero, List.set_cons_succ, i64_w, i32_w]
        rfl
      refine pure_ (i := 14) (N := some 34) (v := ?_) (a' := ?_) #[true, true, true, true, true, true, true, true, true, true, true, true, true, true, true, false, false, false, false, false] rfl rfl (any_of HT_.out (by kernel_rfl)) (fun _ _ _ h => h) (Or.inl ⟨by rfl, ?_⟩) ?_ ?_
      rotate_left
      · intro w'
        go_simp
        try with_reducible rfl
      rotate_left
      · simp only [Act.put, List.setIfInBounds_toArray, List.set_cons_zero, List.set_cons_succ, i64_w, i32_w]
        rfl
      refine one_ (i := 15) (N := some 35) #[true, true, true, true, true, true, true, true, true, true, true, true, true, true, true, true, false, false, false, false] rfl rfl (one_of HT_.out (by kernel_rfl)) (by decide) (fun K hK => ?_)
      refine lits_step ?hg (N := 35) ?hd (cs := #[.pointer pu, .int .i64 (wrap64 ((i : Int) + (b : Int))), .bool f]) (t := 87) ?hr ?_; (case hd => rfl); (case hg => rfl); (case hr => first | (go_simp; done) | (go_simp; rfl))
      intro gl hgl w3 hbox hb
      rw [HWW.out] at hbox
      have HL := Aside0.mk hbox
      have n0_ := Aside0.mk (HP.out.below hb)
      have n1_ := Aside0.mk (Kd.R_below HRT.out hb)
      have n2_ := Aside0.mk (below_then HB.out HB.out.size hb)
      have n3_ := Aside0.mk (blk_below HBT.out hb)
      have n4_ := Aside0.mk (HTY.out.trans (Ty.of_below hb))
      clear HP HRT HB HBT HTY hb hbox hgl
      have HP := n0_
      have HRT := n1_
      have HB := n2_
      have HBT := n3_
      have HTY := n4_
      clear n0_ n1_ n2_ n3_ n4_
      refine hK.out _ _ ⟨HP.out.cells.2.2.2.1, HCS.out _ HTY.out, (blk_cell HBT.out 1).trans rfl⟩ (fun hHeld => ?_)
      clear hK K
      refine norm_ (a' := ?_) ?_ ?_
      rotate_left
      · show Act.put _ (some 35) _ = _
        simp only [Act.put, List.setIfInBounds_toArray, List.set_cons_zero, List.set_cons_succ, i64_w, i32_w]
        rfl
      refine one_ (i := 16) (N := some 36) #[true, true, true, true, true, true, true, true, true, true, true, true, true, true, true, true, true, false, false, false] rfl rfl (one_of HT_.out (by kernel_rfl)) (by decide) (fun K hK => ?_)
      refine Kd.R_append_rows_step (Kd.fixed kT w0) (Rr := kT.K w0) (w0 := w0) w0.heap.size rfl (.tmp 24) (.tmp 35) 88 87 (.agg #[.pointer none, .int .i64 0, .bool false]) 24 rfl Tryd.underlying88 infoT rfl (by show 0 < 3; omega) (by omega) td (ts ++ pushed (i + b) f ((ps d).drop (jj + 1))) [((ps d)[jj], i + b, f)] (some ⟨gl, 0, none⟩) 1 1 (fun k => k ≠ w.heap.size) (fun _ => False) rfl rfl HRT.out (litT HL.out (kT_mk HU.out)) (fun x cs h => h) (fun _ h => h.elim) (fun k hk => by have := blk_lt HBT.out; omega) HB.out HB.out.size (by have := HN.out; rw [List.length_append, pushed_len, List.length_drop]; omega) ?_
      intro v5 w5 hR hb hg hat
      obtain ⟨inner, ho⟩ := Kd.R_own HRT.out
      obtain ⟨A5, n5, c5, rfl⟩ : ∃ A n c, v5 = .slice A n c := by obtain ⟨A, c, e⟩ := Kd.R_slice hR; exact ⟨A, _, c, e⟩
      have n0_ := Aside0.mk (HP.out.grown (Kd.R_typed HRT.out) hg)
      have n1_ := Aside0.mk (hR)
      have n2_ := Aside0.mk (hb)
      have n3_ := Aside0.mk (blk_grown HBT.out hg (fun e => HRT.out.1 _ e.symm rfl))
      have n4_ := Aside0.mk (HTY.out.trans (Ty.grown ho (by decide) hg))
      clear HP HRT HB HBT HTY hb hR hg hat ho HL inner
      have HP := n0_
      have HRT := n1_
      have HB := n2_
      have HBT := n3_
      have HTY := n4_
      clear n0_ n1_ n2_ n3_ n4_
      refine hK.out _ _ ⟨HP.out.cells.2.2.2.1, HCS.out _ HTY.out, (blk_cell HBT.out 1).trans rfl⟩ (fun hHeld => ?_)
      clear hK K
      refine norm_ (a' := ?_) ?_ ?_
      rotate_left
      · show Act.put _ (some 36) _ = _
        simp only [Act.put, List.setIfInBounds_toArray, List.set_cons_zero, List.set_cons_succ, i64_w, i32_w]
        rfl
      refine pure_ (i := 17) (N := some 37) (v := ?_) (a' := ?_) #[true, true, true, true, true, true, true, true, true, true, true, true, true, true, true, true, true, true, false, false] rfl rfl (any_of HT_.out (by kernel_rfl)) (fun _ _ _ h => h) (Or.inl ⟨by rfl, ?_⟩) ?_ ?_
      rotate_left
      · intro w'
        go_simp
        try with_reducible rfl
      rotate_left
      · simp only [Act.put, List.setIfInBounds_toArray, List.set_cons_zero, List.set_cons_succ, i64_w, i32_w]
        rfl
      refine pure_ (i := 18) (N := some 38) (v := ?_) (a' := ?_) #[true, true, true, true, true, true, true, true, true, true, true, true, true, true, true, true, true, true, true, false] rfl rfl (any_of HT_.out (by kernel_rfl)) (fun _ _ _ h => h) (Or.inl ⟨by rfl, ?_⟩) ?_ ?_
      rotate_left
      · intro w'
        go_simp
        try with_reducible rfl
      rotate_left
      · simp only [Act.put, List.setIfInBounds_toArray, List.set_cons_zero, List.set_cons_succ, i64_w, i32_w]
        rfl
      refine last_ (i := 19) (N := none) #[true, true, true, true, true, true, true, true, true, true, true, true, true, true, true, true, true, true, true, true] rfl rfl (one_of HT_.out (by kernel_rfl)) (by decide) (fun K hK => ?_)
      have hs0 : w5.cell? ⟨g, 5, none⟩ = some td := HP.out.cells.2.2.2.1
      have hfs0 := blk_frozen HP.out.c 5
      refine skip_ (w1 := ?_) (by rfl) rfl ?_ ?_
      rotate_left
      · go_simp
        rfl
      obtain ⟨h1, h2, h3⟩ := HP.out.sett (.slice A5 n5 c5)
      have n0_ := Aside0.mk (h1)
      have n1_ := Aside0.mk (R_ty rfl HRT.out h3)
      have n2_ := Aside0.mk (HB.out.trans h2)
      have n3_ := Aside0.mk (blk_far (p := ⟨g, 5, none⟩) HBT.out (blk_ne HBT.out HP.out.c (by decide)) (.slice A5 n5 c5))
      have n4_ := Aside0.mk (HTY.out.trans (Ty.set HP.out.c (by decide) 5 (.slice A5 n5 c5)))
      clear HP HRT HB HBT HTY h1 h2 h3 hs0 hfs0
      have HP := n0_
      have HRT := n1_
      have HB := n2_
      have HBT := n3_
      have HTY := n4_
      clear n0_ n1_ n2_ n3_ n4_
      refine hK.out _ _ ?_
      clear hK K
      refine done_ (done_of HT_.out (by kernel_rfl)) ?_
      clear hHeld
      generalize w5.setCell ⟨g, 5, none⟩ (.slice A5 n5 c5) = w6 at HP HRT HB HBT HTY ⊢
      go_wp2
      go_roundg (gk - 1)
      case measure => have := HZZ.out; omega
      case rel => exact ⟨jj, _, rfl, ⟨by have := HJN.out; have := HN.out; unfold wrap64; omega, by have := HJN.out; omega, by have := HZZ.out; omega⟩, ⟨by rw [pushed_step _ _ _ _ HJN.out, ← List.append_assoc]; exact ⟨⟨_, _, _, HP.out, HRT.out⟩, HB.out⟩⟩, HBT, HTY⟩
    · have d9 : decide (0 ≤ z) = false := decide_eq_false c9
      have hj : j = 0 := by have := HZ.out; omega
      go_wp2
      go_end0
      have h9 := HS.out
      rw [hj, List.drop_zero] at h9
      exact ⟨rfl, h9.mono (fun _ _ => trivial)⟩
end Go.Proofs.YtjgaikmejccdkaaDoor.PDoc
