-- WRITTEN by given.py of this claim's repo over the kit's printer, with functions walked by hand
import Derived.Test.YtjgaikmejccdkaaDoorPDocx0
import Derived.Test.YtjgaikmejccdkaaDoorCodes
import Derived.Test.YtjgaikmejccdkaaDoorBuilder
import Derived.StillTailTactics
import Derived.Outline
import Derived.Deep.DeepMust
import Derived.Deep.RegionHeld3
namespace Go.Proofs.YtjgaikmejccdkaaDoor.PDoc
open Go.RowKit Go.Proofs.YtjgaikmejccdkaaDoorW.PrintWords Go.Proofs.YtjgaikmejccdkaaDoorW.PrintLast Go.Proofs.YtjgaikmejccdkaaDoorW.PrintMore
attribute [local go_sem] max2_int min2_int max_two min_two max_three min_three max_four min_four   -- for this text's walks alone
set_option linter.unusedVariables false
set_option linter.unusedSimpArgs false

/-! ### codes_right: function 72 -/
def codes_right.f (a0 : Int) : Option (Bool) := if a0 ≥ 0 then (if a0 ≤ 1114111 then (if a0 < 55296 then (some true) else (some (decide (a0 > 57343)))) else (some false)) else (some false)
set_option maxHeartbeats 8000000 in
set_option maxRecDepth 100000 in
theorem codes_right.calls (a0 : Int) (r : Bool) (w : World) (h : codes_right.f a0 = some r) :
    Calls Tryd.prog 72 #[.int .i64 a0] w fun e w' => e = .returned (.bool r) ∧ Drawn0 w w' := by
  have H : (if a0 ≥ 0 then (if a0 ≤ 1114111 then (if a0 < 55296 then (some true) else (some (decide (a0 > 57343)))) else (some false)) else (some false)) = some r := h
  clear h
  by_cases c2 : a0 ≥ 0
  · rw [if_pos c2] at H
    have c2b0 : decide (0 ≤ a0) = true := decide_eq_true c2
    clear c2
    by_cases c3 : a0 ≤ 1114111
    · rw [if_pos c3] at H
      have c3b0 : decide (a0 ≤ 1114111) = true := decide_eq_true c3
      clear c3
      by_cases c4 : a0 < 55296
      · rw [if_pos c4] at H
        have c4b0 : decide (a0 < 55296) = true := decide_eq_true c4
        clear c4
        obtain rfl := Option.some.inj H
        go_enter Tryd.func72, Tryd.ntmps72
        go_wp2
        go_ret
        exact ⟨by first | rfl | (simp; done) | (simp [*]; done), by repeat (first | exact Drawn0.refl _ | apply Drawn0.step)⟩
      · rw [if_neg c4] at H
        have c4b0 : decide (a0 < 55296) = false := decide_eq_false c4
        clear c4
        obtain rfl := Option.some.inj H
        go_enter Tryd.func72, Tryd.ntmps72
        go_wp2
        go_ret
        exact ⟨by first | rfl | (simp; done) | (simp [*]; done), by repeat (first | exact Drawn0.refl _ | apply Drawn0.step)⟩
    · rw [if_neg c3] at H
      have c3b0 : decide (a0 ≤ 1114111) = false := decide_eq_false c3
      clear c3
      obtain rfl := Option.some.inj H
      go_enter Tryd.func72, Tryd.ntmps72
      go_wp2
      go_ret
      exact ⟨by first | rfl | (simp; done) | (simp [*]; done), by repeat (first | exact Drawn0.refl _ | apply Drawn0.step)⟩
  · rw [if_neg c2] at H
    have c2b0 : decide (0 ≤ a0) = false := decide_eq_false c2
    clear c2
    obtain rfl := Option.some.inj H
    go_enter Tryd.func72, Tryd.ntmps72
    go_wp2
    go_ret
    exact ⟨by first | rfl | (simp; done) | (simp [*]; done), by repeat (first | exact Drawn0.refl _ | apply Drawn0.step)⟩

/-! ### codes_bytes: function 73 -/
-- WALKED BY HAND (given)
def codes_bytes.l (n : Int) : List Int := (Codes.cb n).map fun b => (b.toNat : Int)
def codes_bytes.f (a0 : Int) : Option (List (Int)) := if 0 ≤ a0 ∧ a0 ≤ 1114111 then some (codes_bytes.l a0) else none
theorem codes_bytes.calls (a0 : Int) (r : List Int) (w : World) (h : codes_bytes.f a0 = some r) :
    Calls Tryd.prog 73 #[.int .i64 a0] w fun e w' => ∃ v0_ : Value, e = .returned (v0_) ∧ Kd.R (Kd.int .u8) 5 w' w.heap.size (fun _ => True) v0_ r ∧ Below w.heap.size w w' := by
  unfold codes_bytes.f at h
  by_cases hc : 0 ≤ a0 ∧ a0 ≤ 1114111
  case neg => rw [if_neg hc] at h; exact absurd h (by simp)
  rw [if_pos hc] at h
  obtain rfl := Option.some.inj h
  refine (Codes.bytes a0 w hc.1 hc.2).mono ?_
  rintro e w' ⟨g, rfl, hg, hh, hb⟩
  have hle := (Codes.cb_le a0).1
  have hcells : (Lib.byteCells (Codes.cb a0)).length = (Codes.cb a0).length := Lib.byteCells_length _
  refine ⟨_, rfl, ⟨fun _ _ => trivial, Lib.byteCells (Codes.cb a0), ⟨?_, Or.inr ⟨g, (Codes.cb a0).length, _, ?_, hg, hh, ?_, ?_, ?_, ?_⟩⟩, ?_, ?_⟩, hb⟩
  · simp [codes_bytes.l, hcells, Kd.int, Kd.scalar]
  · simp [codes_bytes.l]
  · simp [codes_bytes.l]
  · unfold maxLen; omega
  · simp [hcells, Kd.int, Kd.scalar]
  · have e1 : (codes_bytes.l a0).length * (Kd.int .u8).sz = (Lib.byteCells (Codes.cb a0)).length := by simp [codes_bytes.l, hcells, Kd.int, Kd.scalar]
    rw [e1, List.take_length]
  · simp [codes_bytes.l, hcells, Kd.int, Kd.scalar]
  · intro j p hj
    have h1 : ∃ b : UInt8, (Codes.cb a0)[j]? = some b ∧ (b.toNat : Int) = p := by
      unfold codes_bytes.l at hj
      rw [List.getElem?_map] at hj
      exact Option.map_eq_some_iff.1 hj
    obtain ⟨b, hb1, rfl⟩ := h1
    show _ = [Value.int .u8 (b.toNat : Int)]
    have h2 : (Lib.byteCells (Codes.cb a0))[j]? = some (Value.int .u8 (b.toNat : Int)) := by
      unfold Lib.byteCells
      rw [List.getElem?_map, hb1]
      rfl
    have hlt := (List.getElem?_eq_some_iff.1 h2).1
    show ((Lib.byteCells (Codes.cb a0)).drop (j * 1)).take 1 = _
    rw [Nat.mul_one, List.drop_eq_getElem_cons hlt, (List.getElem?_eq_some_iff.1 h2).2]
    rfl

/-! ### codes_form_read: function 64 -/
def codes_form_read.l0 : Nat → ByteArray → Int → Int → Int → Int → Int → Option (Int × Bool)
  | 0, _, _, _, _, _, _ => none
  | k + 1, x1, x6, x7, x102000, x102001, x102002 => if x7 < x102001 then (if 0 ≤ x7 then (if x7 < (x1.size : Int) then (if (Go.bits .and .u8 (bt x1 x7) 192) = 128 then (codes_form_read.l0 k x1 (Go.bits .or .i64 (wrap64 (x6 * 64)) (wrap64 (Go.bits .and .u8 (bt x1 x7) 63))) (wrap64 (x7 + 1)) x102000 x102001 x102002) else (some (0, false))) else (none)) else (none)) else ((codes_right.f x6).bind fun t102 => (if t102 = true then ((codes_bytes.f x6).bind fun t103 => (if 0 ≤ x102001 then (if x102001 ≤ (x1.size : Int) then (some (x6, ((strOfNums t103).toList == (x1.extract 0 (x102001 : Int).toNat).toList))) else (none)) else (none))) else (some (x6, false))))
def codes_form_read.f (k : Nat) (a0_0 : Int) (a0_1 : Int) (a0_2 : Int) (a1 : ByteArray) : Option (Int × Bool) := if (a1.size : Int) < a0_1 then (some (0, false)) else (if 0 < (a1.size : Int) then (codes_form_read.l0 k a1 (wrap64 (Go.bits .xor .u8 (bt a1 0) a0_2)) 1 a0_0 a0_1 a0_2) else (none))
theorem codes_form_read.mono_l : ∀ k, (∀ y0 y1 y2 y3 y4 y5, LeO (codes_form_read.l0 k y0 y1 y2 y3 y4 y5) (codes_form_read.l0 (k + 1) y0 y1 y2 y3 y4 y5))
  | 0 => fun _ _ _ _ _ _ r h => by simp [codes_form_read.l0] at h
  | k + 1 => by
    have ih0 := codes_form_read.mono_l k
    · intro y0 y1 y2 y3 y4 y5
      unfold codes_form_read.l0
      repeat' first
      | (with_reducible exact ih0 _ _ _ _ _ _)
      | (with_reducible exact LeO.refl _)
      | (with_reducible exact LeO.none _)
      | (with_reducible refine LeO.ite ?_ ?_)
      | (with_reducible refine LeO.bind ?_ (fun _ => ?_))
      | exact ih0 _ _ _ _ _ _
      | exact LeO.none _
      | refine LeO.ite ?_ ?_
      | refine LeO.bind ?_ (fun _ => ?_)
theorem codes_form_read.mono : ∀ a0 a1 a2 a3 k, LeO (codes_form_read.f k a0 a1 a2 a3) (codes_form_read.f (k + 1) a0 a1 a2 a3) := by
  intro a0 a1 a2 a3 k
  have ih0 := codes_form_read.mono_l k
  unfold codes_form_read.f
  repeat' first
      | (with_reducible exact ih0 _ _ _ _ _ _)
      | (with_reducible exact LeO.refl _)
      | (with_reducible exact LeO.none _)
      | (with_reducible refine LeO.ite ?_ ?_)
      | (with_reducible refine LeO.bind ?_ (fun _ => ?_))
      | exact ih0 _ _ _ _ _ _
      | exact LeO.none _
      | refine LeO.ite ?_ ?_
      | refine LeO.bind ?_ (fun _ => ?_)
def codes_form_read.T10 : Bool × List (List Nat × List Nat) := (true, [([], []), ([], []), ([1], [1]), ([2, 2], [2]), ([3], [3]), ([4, 3, 3], [3, 4]), ([5, 3], [3, 5]), ([3], [3]), ([3], [3]), ([8, 3], [3, 8]), ([7, 9, 3], [3, 7, 9]), ([6, 10, 3], [3, 6, 10]), ([3, 11], [3, 11]), ([0, 5, 0], [0]), ([12, 13, 0, 1, 2, 3, 4, 5, 6, 7, 8, 9, 10, 11, 12, 13], [12])])
def codes_form_read.B10 : List Nat := [0, 0, 2, 6, 14, 30, 62, 14, 14, 270, 910, 2046, 4094, 63, 16383]
theorem codes_form_read.tab10 : rtab .any (opsOf Tryd.f64 10) = codes_form_read.T10 := by kernel_rfl
theorem codes_form_read.bits10 : waitsOk codes_form_read.T10.2 codes_form_read.B10 = true := by kernel_rfl
set_option maxHeartbeats 8000000 in
set_option maxRecDepth 100000 in
theorem codes_form_read.calls (k : Nat) (a0_0 : Int) (a0_1 : Int) (a0_2 : Int) (a1 : ByteArray) (r1 : Int) (r2 : Bool) (w : World) (h : codes_form_read.f k a0_0 a0_1 a0_2 a1 = some (r1, r2)) :
    Calls Tryd.prog 64 #[.agg #[.int .i64 a0_0, .int .i64 a0_1, .int .u8 a0_2], .string a1] w fun e w' => e = .returned (.tuple #[.int .i64 r1, .bool r2]) ∧ Below w.heap.size w w' := by
  have hu104 := Tryd.underlying104
  have HB := Aside0.mk (Below.refl w.heap.size w)
  have H : (if (a1.size : Int) < a0_1 then (some (0, false)) else (if 0 < (a1.size : Int) then (codes_form_read.l0 k a1 (wrap64 (Go.bits .xor .u8 (bt a1 0) a0_2)) 1 a0_0 a0_1 a0_2) else (none))) = some (r1, r2) := h
  clear h
  by_cases c3 : (a1.size : Int) < a0_1
  · rw [if_pos c3] at H
    have c3b0 : decide ((a1.size : Int) < a0_1) = true := decide_eq_true c3
    clear c3
    simp only [Option.some.injEq, Prod.mk.injEq] at H
    obtain ⟨rfl, rfl⟩ := H
    go_enter Tryd.func64, Tryd.ntmps64
    go_wp2_with (first | ((with_reducible refine gate_dst (N := 2) rfl ?_); refine box_event ?hg (N := 2) ?hd (cs := #[.int .i64 a0_0, .int .i64 a0_1, .int .u8 a0_2]) (t := 104) ?hr ?_; (case hd => rfl); (case hg => rfl); (case hr => first | (go_simp; done) | (go_simp; rfl)); intro gb101 hg w4 hbox hb; have n0_ := Aside0.mk (below_step (by repeat (first | (with_reducible first | exact HB.out | apply below_alloc | apply pw_below_drewN | apply below_drew1) | exact HB.out)) hb); have n1_ := Aside0.mk (hbox); have n2_ := Aside0.mk ((by rw [hg]; exact (below_size (by repeat (first | (with_reducible first | exact HB.out | apply below_alloc | apply pw_below_drewN | apply below_drew1) | exact HB.out))) : w.heap.size ≤ gb101)); have n3_ := Aside0.mk ((by rw [hg]; exact (below_size (by repeat (first | (with_reducible first | exact HB.out | apply below_alloc | apply pw_below_drewN | apply below_drew1) | exact HB.out))) : w.heap.size ≤ gb101)); clear HB; have HB := n0_; have BK101 := n1_; have GW101 := n2_; have GE101 := n3_; clear n0_ n1_ n2_ n3_; clear hb hbox hg; have hcz5_0 : w4.cell? ⟨gb101, 0, none⟩ = some (.int .i64 a0_0) := (blk_cell BK101.out 0).trans rfl; have hcz5_1 : w4.cell? ⟨gb101, 1, none⟩ = some (.int .i64 a0_1) := (blk_cell BK101.out 1).trans rfl; have hcz5_2 : w4.cell? ⟨gb101, 2, none⟩ = some (.int .u8 a0_2) := (blk_cell BK101.out 2).trans rfl; have hfz5_0 := blk_frozen BK101.out 0; have hfz5_1 := blk_frozen BK101.out 1; have hfz5_2 := blk_frozen BK101.out 2))
    go_ret2
    exact ⟨by first | rfl | (simp [errW_none, errW_some] <;> rfl) | (simp [*, errW_none, errW_some] <;> rfl), by repeat (first | (with_reducible first | exact HB.out | apply below_alloc | apply pw_below_drewN | apply below_drew1 | refine below_set ?_ GE101.out) | exact HB.out)⟩
  · rw [if_neg c3] at H
    have c3b0 : decide ((a1.size : Int) < a0_1) = false := decide_eq_false c3
    clear c3
    by_cases c6 : 0 < (a1.size : Int)
    · rw [if_pos c6] at H
      have c6b0 : decide (0 < (a1.size : Int)) = true := decide_eq_true c6
      have c6b1 : decide (0 < a1.size) = true := decide_eq_true (by omega)
      clear c6
      have H' := Aside0.mk H
      clear H
      go_enter Tryd.func64, Tryd.ntmps64
      try go_wp2_with (first | ((with_reducible refine gate_dst (N := 2) rfl ?_); refine box_event ?hg (N := 2) ?hd (cs := #[.int .i64 a0_0, .int .i64 a0_1, .int .u8 a0_2]) (t := 104) ?hr ?_; (case hd => rfl); (case hg => rfl); (case hr => first | (go_simp; done) | (go_simp; rfl)); intro gb101 hg w8 hbox hb; have n0_ := Aside0.mk (below_step (by repeat (first | (with_reducible first | exact HB.out | apply below_alloc | apply pw_below_drewN | apply below_drew1) | exact HB.out)) hb); have n1_ := Aside0.mk (hbox); have n2_ := Aside0.mk ((by rw [hg]; exact (below_size (by repeat (first | (with_reducible first | exact HB.out | apply below_alloc | apply pw_below_drewN | apply below_drew1) | exact HB.out))) : w.heap.size ≤ gb101)); have n3_ := Aside0.mk ((by rw [hg]; exact (below_size (by repeat (first | (with_reducible first | exact HB.out | apply below_alloc | apply pw_below_drewN | apply below_drew1) | exact HB.out))) : w.heap.size ≤ gb101)); clear HB; have HB := n0_; have BK101 := n1_; have GW101 := n2_; have GE101 := n3_; clear n0_ n1_ n2_ n3_; clear hb hbox hg; have hcz9_0 : w8.cell? ⟨gb101, 0, none⟩ = some (.int .i64 a0_0) := (blk_cell BK101.out 0).trans rfl; have hcz9_1 : w8.cell? ⟨gb101, 1, none⟩ = some (.int .i64 a0_1) := (blk_cell BK101.out 1).trans rfl; have hcz9_2 : w8.cell? ⟨gb101, 2, none⟩ = some (.int .u8 a0_2) := (blk_cell BK101.out 2).trans rfl; have hfz9_0 := blk_frozen BK101.out 0; have hfz9_1 := blk_frozen BK101.out 1; have hfz9_2 := blk_frozen BK101.out 2))
      have n0_ := Aside0.mk (blk_drew BK101.out)
      have n1_ := Aside0.mk (below_drew1 HB.out)
      clear BK101
      clear HB
      have BK101 := n0_
      have HB := n1_
      clear n0_ n1_
      have p7 : 0 ≤ (0 : Int) := (by omega)
      have q7 : 0 < a1.size := (by have : (0 : Int) < (a1.size : Int) := of_decide_eq_true (by first | (with_reducible assumption) | assumption); omega)
      have hx7 : ∀ h : 0 < a1.size, ((a1[0]'h).toNat : Int) = bt a1 0 := bt_at a1 0
      clear p7
      have qi7 : (0 < (a1.size : Int)) = True := eq_true (of_decide_eq_true (by first | (with_reducible assumption) | assumption))
      replace q7 := eq_true q7
      refine start_ (n := 7) (S := fun w' => w'.cell? ⟨gb101, 0, none⟩ = some (.int .i64 a0_0) ∧ w'.cell? ⟨gb101, 1, none⟩ = some (.int .i64 a0_1) ∧ w'.cell? ⟨gb101, 2, none⟩ = some (.int .u8 a0_2)) (ds := []) #[false, false, false, false, false, false, false] (by kernel_rfl) rfl rfl ⟨(blk_cell BK101.out 0).trans rfl, (blk_cell BK101.out 1).trans rfl, (blk_cell BK101.out 2).trans rfl⟩ (fun hHeld => ?_)
      generalize w8.drew = w10 at BK101 HB hHeld ⊢
      refine pure_ (i := 0) (N := some 13) (v := ?_) (a' := ?_) #[true, false, false, false, false, false, false] rfl rfl (by kernel_rfl) (fun _ _ _ h => h) (Or.inl ⟨by rfl, ?_⟩) ?_ ?_
      rotate_left
      · intro w'
        go_simp
        with_reducible rfl
      rotate_left
      · simp only [Act.put, List.setIfInBounds_toArray, List.set_cons_zero, List.set_cons_succ, i64_w, i32_w]
        rfl
      refine pure_ (i := 2) (N := some 15) (v := ?_) (a' := ?_) #[true, false, true, false, false, false, false] rfl rfl (by kernel_rfl) (fun _ _ _ h => h) (Or.inl ⟨by rfl, ?_⟩) ?_ ?_
      rotate_left
      · intro w'
        go_simp
        with_reducible rfl
      rotate_left
      · simp only [Act.put, List.setIfInBounds_toArray, List.set_cons_zero, List.set_cons_succ, i64_w, i32_w]
        rfl
      refine take_ (i := 1) (N := some 14) (v := ?_) (a' := ?_) #[true, true, true, false, false, false, false] rfl rfl (by kernel_rfl) (fun _ _ _ h => h) (Or.inl ⟨by rfl, ?_⟩) hHeld ?_ ?_
      rotate_left
      · rintro w' ⟨s0, s1, s2⟩
        go_simp
        with_reducible rfl
      rotate_left
      · simp only [Act.put, List.setIfInBounds_toArray, List.set_cons_zero, List.set_cons_succ, i64_w, i32_w]
        rfl
      refine take_ (i := 3) (N := some 16) (v := ?_) (a' := ?_) #[true, true, true, true, false, false, false] rfl rfl (by kernel_rfl) (fun _ _ _ h => h) (Or.inl ⟨by rfl, ?_⟩) hHeld ?_ ?_
      rotate_left
      · rintro w' ⟨s0, s1, s2⟩
        go_simp
        with_reducible rfl
      rotate_left
      · simp only [Act.put, List.setIfInBounds_toArray, List.set_cons_zero, List.set_cons_succ, i64_w, i32_w]
        rfl
      refine pure_ (i := 4) (N := some 17) (v := ?_) (a' := ?_) #[true, true, true, true, true, false, false] rfl rfl (by kernel_rfl) (fun _ _ _ h => h) (Or.inl ⟨by rfl, ?_⟩) ?_ ?_
      rotate_left
      · intro w'
        go_simp
        with_reducible rfl
      rotate_left
      · simp only [Act.put, List.setIfInBounds_toArray, List.set_cons_zero, List.set_cons_succ, i64_w, i32_w]
        rfl
      refine pure_ (i := 5) (N := some 18) (v := ?_) (a' := ?_) #[true, true, true, true, true, true, false] rfl rfl (by kernel_rfl) (fun _ _ _ h => h) (Or.inl ⟨by rfl, ?_⟩) ?_ ?_
      rotate_left
      · intro w'
        go_simp
        with_reducible rfl
      rotate_left
      · simp only [Act.put, List.setIfInBounds_toArray, List.set_cons_zero, List.set_cons_succ, i64_w, i32_w]
        rfl
      refine pure_ (i := 6) (N := some 6) (v := ?_) (a' := ?_) #[true, true, true, true, true, true, true] rfl rfl (by kernel_rfl) (fun _ _ _ h => h) (Or.inl ⟨by rfl, ?_⟩) ?_ ?_
      rotate_left
      · intro w'
        go_simp
        with_reducible rfl
      rotate_left
      · simp only [Act.put, List.setIfInBounds_toArray, List.set_cons_zero, List.set_cons_succ, i64_w, i32_w]
        rfl
      refine done_ (by kernel_rfl) ?_
      try go_wp2
      go_loopg [6, 7] k (fun kq v6 v7 w' => ∃ (x6_1 : Int) (x7_1 : Int), v6 = .int .i64 x6_1 ∧ v7 = .int .i64 x7_1 ∧ Aside0 (codes_form_read.l0 kq a1 x6_1 x7_1 a0_0 a0_1 a0_2 = some (r1, r2)) ∧ Aside0 (kq ≤ k) ∧ Aside0 (w'.heap[gb101]? = some (.cells #[.int .i64 a0_0, .int .i64 a0_1, .int .u8 a0_2] 104 (0, 0))) ∧ Aside0 (Below w.heap.size w w'))
      case atStart => exact ⟨(wrap64 (Go.bits .xor .u8 (bt a1 0) a0_2)), (1), (by first | rfl | (simp; done) | (simp [*]; done)), (by first | rfl | (simp; done) | (simp [*]; done)), H', ⟨Nat.le_refl _⟩, ⟨by (with_reducible repeat (first | refine blk_drewN ?_ _ | refine blk_drew ?_ | refine blk_alloc ?_ _)); exact BK101.out⟩, ⟨by repeat (first | (with_reducible first | exact HB.out | apply below_alloc | apply pw_below_drewN | apply below_drew1 | refine below_set ?_ GE101.out) | exact HB.out)⟩⟩
      case round =>
        clear H'
        try clear p2
        try clear c3
        try clear c3b0
        try clear c6
        try clear c6b0
        try clear c6b1
        try clear p6
        try clear p7
        try clear q7
        try clear hx7
        try clear qi7
        try clear hcz5_0
        try clear hcz5_1
        try clear hcz5_2
        try clear hcz9_0
        try clear hcz9_1
        try clear hcz9_2
        try clear hfz5_0
        try clear hfz5_1
        try clear hfz5_2
        try clear hfz9_0
        try clear hfz9_1
        try clear hfz9_2
        try clear p7
        try clear q7
        obtain ⟨x6_1, x7_1, rfl, rfl, HA, HK1, BK101, HB⟩ := hrel
        cases gk with
        | zero => exact absurd HA.out (by simp [codes_form_read.l0])
        | succ k1 =>
          have H := HA.out
          clear HA
          simp only [codes_form_read.l0] at H
          by_cases c11 : x7_1 < a0_1
          · rw [if_pos c11] at H
            have c11b0 : decide (x7_1 < a0_1) = true := decide_eq_true c11
            clear c11
            by_cases c12 : 0 ≤ x7_1
            · rw [if_pos c12] at H
              have c12b0 : decide (0 ≤ x7_1) = true := decide_eq_true c12
              clear c12
              by_cases c13 : x7_1 < (a1.size : Int)
              · rw [if_pos c13] at H
                have c13b0 : decide (x7_1 < (a1.size : Int)) = true := decide_eq_true c13
                clear c13
                by_cases c15 : (Go.bits .and .u8 (bt a1 x7_1) 192) = 128
                · rw [if_pos c15] at H
                  have c15b0 : ((Go.bits .and .u8 (bt a1 x7_1) 192) == 128) = true := beq_iff_eq.mpr c15
                  have c15b1 : ((Go.bits .and .u8 (bt a1 x7_1) 192) != 128) = false := bne_eq_false_iff_eq.mpr c15
                  clear c15
                  have H' := Aside0.mk H
                  clear H
                  have hcz17_0 : wr.cell? ⟨gb101, 0, none⟩ = some (.int .i64 a0_0) := (blk_cell BK101.out 0).trans rfl
                  have hcz17_1 : wr.cell? ⟨gb101, 1, none⟩ = some (.int .i64 a0_1) := (blk_cell BK101.out 1).trans rfl
                  have hcz17_2 : wr.cell? ⟨gb101, 2, none⟩ = some (.int .u8 a0_2) := (blk_cell BK101.out 2).trans rfl
                  have hfz17_0 := blk_frozen BK101.out 0
                  have hfz17_1 := blk_frozen BK101.out 1
                  have hfz17_2 := blk_frozen BK101.out 2
                  have p14 : 0 ≤ (x7_1 : Int) := of_decide_eq_true (by first | (with_reducible assumption) | assumption)
                  have q14 : x7_1 < (a1.size : Int) := of_decide_eq_true (by first | (with_reducible assumption) | assumption)
                  have hx14 := bt_at a1 x7_1
                  replace p14 := eq_true p14
                  replace q14 := eq_true q14
                  have p16 : 0 ≤ (x7_1 : Int) := of_decide_eq_true (by first | (with_reducible assumption) | assumption)
                  have q16 : x7_1 < (a1.size : Int) := of_decide_eq_true (by first | (with_reducible assumption) | assumption)
                  have hx16 := bt_at a1 x7_1
                  replace p16 := eq_true p16
                  replace q16 := eq_true q16
                  go_wp2
                  go_roundg k1
                  case measure => have := HK1.out; omega
                  case rel => exact ⟨(Go.bits .or .i64 (wrap64 (x6_1 * 64)) (wrap64 (Go.bits .and .u8 (bt a1 x7_1) 63))), (wrap64 (x7_1 + 1)), (by first | rfl | (simp; done) | (simp [*]; done)), (by first | rfl | (simp; done) | (simp [*]; done)), H', ⟨by have := HK1.out; omega⟩, ⟨by (with_reducible repeat (first | refine blk_drewN ?_ _ | refine blk_drew ?_ | refine blk_alloc ?_ _)); exact BK101.out⟩, ⟨by repeat (first | (with_reducible first | exact HB.out | apply below_alloc | apply pw_below_drewN | apply below_drew1 | refine below_set ?_ GE101.out) | exact HB.out)⟩⟩
                · rw [if_neg c15] at H
                  have c15b0 : ((Go.bits .and .u8 (bt a1 x7_1) 192) == 128) = false := beq_eq_false_iff_ne.mpr c15
                  have c15b1 : ((Go.bits .and .u8 (bt a1 x7_1) 192) != 128) = true := bne_iff_ne.mpr c15
                  simp only [Option.some.injEq, Prod.mk.injEq] at H
                  obtain ⟨rfl, rfl⟩ := H
                  have hcz18_0 : wr.cell? ⟨gb101, 0, none⟩ = some (.int .i64 a0_0) := (blk_cell BK101.out 0).trans rfl
                  have hcz18_1 : wr.cell? ⟨gb101, 1, none⟩ = some (.int .i64 a0_1) := (blk_cell BK101.out 1).trans rfl
                  have hcz18_2 : wr.cell? ⟨gb101, 2, none⟩ = some (.int .u8 a0_2) := (blk_cell BK101.out 2).trans rfl
                  have hfz18_0 := blk_frozen BK101.out 0
                  have hfz18_1 := blk_frozen BK101.out 1
                  have hfz18_2 := blk_frozen BK101.out 2
                  have p14 : 0 ≤ (x7_1 : Int) := of_decide_eq_true (by first | (with_reducible assumption) | assumption)
                  have q14 : x7_1 < (a1.size : Int) := of_decide_eq_true (by first | (with_reducible assumption) | assumption)
                  have hx14 := bt_at a1 x7_1
                  replace p14 := eq_true p14
                  replace q14 := eq_true q14
                  go_wp2
                  go_ret2
                  exact ⟨by first | rfl | (simp [errW_none, errW_some] <;> rfl) | (simp [*, errW_none, errW_some] <;> rfl), by repeat (first | (with_reducible first | exact HB.out | apply below_alloc | apply pw_below_drewN | apply below_drew1 | refine below_set ?_ GE101.out) | exact HB.out)⟩
              · rw [if_neg c13] at H
                exact absurd H (by simp)
            · rw [if_neg c12] at H
              exact absurd H (by simp)
          · rw [if_neg c11] at H
            have c11b0 : decide (x7_1 < a0_1) = false := decide_eq_false c11
            clear c11
            replace H := Option.bind_eq_some_iff.mp H
            obtain ⟨t102, A190, H⟩ := H
            replace H : (if t102 = true then ((codes_bytes.f x6_1).bind fun t103 => (if 0 ≤ a0_1 then (if a0_1 ≤ (a1.size : Int) then (some (x6_1, ((strOfNums t103).toList == (a1.extract 0 (a0_1 : Int).toNat).toList))) else (none)) else (none))) else (some (x6_1, false))) = some (r1, r2) := H
            have A19 := Aside0.mk A190
            clear A190
            by_cases c20 : t102 = true
            · subst c20
              have H1 : ((codes_bytes.f x6_1).bind fun t103 => (if 0 ≤ a0_1 then (if a0_1 ≤ (a1.size : Int) then (some (x6_1, ((strOfNums t103).toList == (a1.extract 0 (a0_1 : Int).toNat).toList))) else (none)) else (none))) = some (r1, r2) := by rw [if_pos rfl] at H; exact H
              clear H
              have H := H1
              clear H1
              replace H := Option.bind_eq_some_iff.mp H
              obtain ⟨t103, A210, H⟩ := H
              replace H : (if 0 ≤ a0_1 then (if a0_1 ≤ (a1.size : Int) then (some (x6_1, ((strOfNums t103).toList == (a1.extract 0 (a0_1 : Int).toNat).toList))) else (none)) else (none)) = some (r1, r2) := H
              have A21 := Aside0.mk A210
              clear A210
              by_cases c22 : 0 ≤ a0_1
              · rw [if_pos c22] at H
                have c22b0 := eq_true c22
                have c22b1 : decide (0 ≤ a0_1) = true := decide_eq_true c22
                clear c22
                by_cases c23 : a0_1 ≤ (a1.size : Int)
                · rw [if_pos c23] at H
                  have c23b0 := eq_true c23
                  have c23b1 : decide (a0_1 ≤ (a1.size : Int)) = true := decide_eq_true c23
                  clear c23
                  simp only [Option.some.injEq, Prod.mk.injEq] at H
                  obtain ⟨rfl, rfl⟩ := H
                  have hcz24_0 : wr.cell? ⟨gb101, 0, none⟩ = some (.int .i64 a0_0) := (blk_cell BK101.out 0).trans rfl
                  have hcz24_1 : wr.cell? ⟨gb101, 1, none⟩ = some (.int .i64 a0_1) := (blk_cell BK101.out 1).trans rfl
                  have hcz24_2 : wr.cell? ⟨gb101, 2, none⟩ = some (.int .u8 a0_2) := (blk_cell BK101.out 2).trans rfl
                  have hfz24_0 := blk_frozen BK101.out 0
                  have hfz24_1 := blk_frozen BK101.out 1
                  have hfz24_2 := blk_frozen BK101.out 2
                  try go_wp2
                  have n0_ := Aside0.mk (blk_drew BK101.out)
                  have n1_ := Aside0.mk (below_drew1 HB.out)
                  clear BK101
                  clear HB
                  have BK101 := n0_
                  have HB := n1_
                  clear n0_ n1_
                  refine start_ (n := 15) (S := fun w' => w'.cell? ⟨gb101, 0, none⟩ = some (.int .i64 a0_0) ∧ w'.cell? ⟨gb101, 1, none⟩ = some (.int .i64 a0_1) ∧ w'.cell? ⟨gb101, 2, none⟩ = some (.int .u8 a0_2)) (ds := []) #[false, false, false, false, false, false, false, false, false, false, false, false, false, false, false] (by kernel_rfl) rfl rfl ⟨(blk_cell BK101.out 0).trans rfl, (blk_cell BK101.out 1).trans rfl, (blk_cell BK101.out 2).trans rfl⟩ (fun hHeld => ?_); refine with_tabW codes_form_read.tab10 codes_form_read.bits10 (fun HT_ HW_ => ?_)
                  generalize wr.drew = w25 at BK101 HB hHeld ⊢
                  refine pure_ (i := 0) (N := some 38) (v := ?_) (a' := ?_) #[true, false, false, false, false, false, false, false, false, false, false, false, false, false, false] rfl rfl (any_of HT_.out (by kernel_rfl)) (fun _ _ _ h => h) (Or.inl ⟨by rfl, ?_⟩) ?_ ?_
                  rotate_left
                  · intro w'
                    go_simp
                    with_reducible rfl
                  rotate_left
                  · simp only [Act.put, List.setIfInBounds_toArray, List.set_cons_zero, List.set_cons_succ, i64_w, i32_w]
                    rfl
                  refine pure_ (i := 1) (N := some 39) (v := ?_) (a' := ?_) #[true, true, false, false, false, false, false, false, false, false, false, false, false, false, false] rfl rfl (any_of HT_.out (by kernel_rfl)) (fun _ _ _ h => h) (Or.inl ⟨by rfl, ?_⟩) ?_ ?_
                  rotate_left
                  · intro w'
                    go_simp
                    with_reducible rfl
                  rotate_left
                  · simp only [Act.put, List.setIfInBounds_toArray, List.set_cons_zero, List.set_cons_succ, i64_w, i32_w]
                    rfl
                  refine one_ (i := 2) (N := some 40) #[true, true, true, false, false, false, false, false, false, false, false, false, false, false, false] rfl rfl (one_of HT_.out (by kernel_rfl)) (by decide) (fun K hK => ?_)
                  refine goes_ Tryd.func72 (by kernel_rfl) rfl #[.int .i64 x6_1] (by rfl) rfl rfl (by (try simp only [List.map_toArray, List.map_cons, List.map_nil]); first | done | rfl | (simp only [List.length_drop, List.length_take]; rfl)) ?_
                  with_reducible refine (codes_right.calls x6_1 true _ A19.out).mono ?_
                  rintro e w' ⟨rfl, ⟨nd, rfl⟩⟩
                  refine ⟨_, rfl, ?_⟩
                  refine hK.out _ _ ⟨(blk_cell BK101.out 0).trans rfl, (blk_cell BK101.out 1).trans rfl, (blk_cell BK101.out 2).trans rfl⟩ (fun hHeld => ?_)
                  clear hK K
                  refine norm_ (a' := ?_) ?_ ?_
                  rotate_left
                  · show Act.put _ (some 40) _ = _
                    simp only [Act.put, List.setIfInBounds_toArray, List.set_cons_zero, List.set_cons_succ, i64_w, i32_w]
                    rfl
                  refine pure_ (i := 3) (N := some 41) (v := ?_) (a' := ?_) #[true, true, true, true, false, false, false, false, false, false, false, false, false, false, false] rfl rfl (any_of HT_.out (by kernel_rfl)) (fun _ _ _ h => h) (Or.inl ⟨by rfl, ?_⟩) ?_ ?_
                  rotate_left
                  · intro w'
                    go_simp
                    with_reducible rfl
                  rotate_left
                  · simp only [Act.put, List.setIfInBounds_toArray, List.set_cons_zero, List.set_cons_succ, i64_w, i32_w]
                    rfl
                  refine pure_ (i := 4) (N := some 42) (v := ?_) (a' := ?_) #[true, true, true, true, true, false, false, false, false, false, false, false, false, false, false] rfl rfl (any_of HT_.out (by kernel_rfl)) (fun _ _ _ h => h) (Or.inl ⟨by rfl, ?_⟩) ?_ ?_
                  rotate_left
                  · intro w'
                    go_simp
                    with_reducible rfl
                  rotate_left
                  · simp only [Act.put, List.setIfInBounds_toArray, List.set_cons_zero, List.set_cons_succ, i64_w, i32_w]
                    rfl
                  refine pure_ (i := 7) (N := some 45) (v := ?_) (a' := ?_) #[true, true, true, true, true, false, false, true, false, false, false, false, false, false, false] rfl rfl (any_of HT_.out (by kernel_rfl)) (fun _ _ _ h => h) (Or.inl ⟨by rfl, ?_⟩) ?_ ?_
                  rotate_left
                  · intro w'
                    go_simp
                    with_reducible rfl
                  rotate_left
                  · simp only [Act.put, List.setIfInBounds_toArray, List.set_cons_zero, List.set_cons_succ, i64_w, i32_w]
                    rfl
                  refine pure_ (i := 8) (N := some 46) (v := ?_) (a' := ?_) #[true, true, true, true, true, false, false, true, true, false, false, false, false, false, false] rfl rfl (any_of HT_.out (by kernel_rfl)) (fun _ _ _ h => h) (Or.inl ⟨by rfl, ?_⟩) ?_ ?_
                  rotate_left
                  · intro w'
                    go_simp
                    with_reducible rfl
                  rotate_left
                  · simp only [Act.put, List.setIfInBounds_toArray, List.set_cons_zero, List.set_cons_succ, i64_w, i32_w]
                    rfl
                  refine take_ (i := 9) (N := some 47) (v := ?_) (a' := ?_) #[true, true, true, true, true, false, false, true, true, true, false, false, false, false, false] rfl rfl (take_ofW HT_.out HW_.out (by kernel_rfl)) (fun _ _ _ h => h) (Or.inl ⟨by rfl, ?_⟩) hHeld ?_ ?_
                  rotate_left
                  · rintro w' ⟨s0, s1, s2⟩
                    go_simp
                    with_reducible rfl
                  rotate_left
                  · simp only [Act.put, List.setIfInBounds_toArray, List.set_cons_zero, List.set_cons_succ, i64_w, i32_w]
                    rfl
                  refine pure_ (i := 10) (N := some 48) (v := ?_) (a' := ?_) #[true, true, true, true, true, false, false, true, true, true, true, false, false, false, false] rfl rfl (any_of HT_.out (by kernel_rfl)) (fun _ _ _ h => h) (Or.inl ⟨by rfl, ?_⟩) ?_ ?_
                  rotate_left
                  · intro w'
                    go_simp
                    with_reducible rfl
                  rotate_left
                  · simp only [Act.put, List.setIfInBounds_toArray, List.set_cons_zero, List.set_cons_succ, i64_w, i32_w]
                    rfl
                  refine one_ (i := 5) (N := some 43) #[true, true, true, true, true, true, false, true, true, true, true, false, false, false, false] rfl rfl (one_of HT_.out (by kernel_rfl)) (by decide) (fun K hK => ?_)
                  refine goes_ Tryd.func73 (by kernel_rfl) rfl #[.int .i64 x6_1] (by rfl) rfl rfl (by (try simp only [List.map_toArray, List.map_cons, List.map_nil]); first | done | rfl | (simp only [List.length_drop, List.length_take]; rfl)) ?_
                  with_reducible refine (codes_bytes.calls x6_1 t103 _ A21.out).mono ?_
                  rintro e w26 ⟨v104, rfl, ho0, hb⟩
                  refine ⟨_, rfl, ?_⟩
                  have n0_ := Aside0.mk (Kd.R_lower ho0 (below_size (by repeat (first | (with_reducible first | exact HB.out | apply below_alloc | apply pw_below_drewN | apply below_drew1 | refine below_set ?_ GE101.out) | exact HB.out))))
                  have n1_ := Aside0.mk (blk_below (g := gb101) (o := .cells #[.int .i64 a0_0, .int .i64 a0_1, .int .u8 a0_2] 104 (0, 0)) (by (with_reducible repeat (first | refine blk_drewN ?_ _ | refine blk_drew ?_ | refine blk_alloc ?_ _)); exact BK101.out) hb)
                  have n2_ := Aside0.mk (below_step (by repeat (first | (with_reducible first | exact HB.out | apply below_alloc | apply pw_below_drewN | apply below_drew1 | refine below_set ?_ GE101.out) | exact HB.out)) hb)
                  clear BK101
                  clear HB
                  have HO105 := n0_
                  have BK101 := n1_
                  have HB := n2_
                  clear n0_ n1_ n2_
                  (try clear hb)
                  (try clear hb2)
                  (try clear hk)
                  (try clear hi)
                  (try clear ho0)
                  refine hK.out _ _ ⟨(blk_cell BK101.out 0).trans rfl, (blk_cell BK101.out 1).trans rfl, (blk_cell BK101.out 2).trans rfl⟩ (fun hHeld => ?_)
                  clear hK K
                  refine norm_ (a' := ?_) ?_ ?_
                  rotate_left
                  · show Act.put _ (some 43) _ = _
                    simp only [Act.put, List.setIfInBounds_toArray, List.set_cons_zero, List.set_cons_succ, i64_w, i32_w]
                    rfl
                  refine pure_ (i := 13) (N := some 4) (v := ?_) (a' := ?_) #[true, true, true, true, true, true, false, true, true, true, true, false, false, true, false] rfl rfl (any_of HT_.out (by kernel_rfl)) (fun _ _ _ h => h) (Or.inl ⟨by rfl, ?_⟩) ?_ ?_
                  rotate_left
                  · intro w'
                    go_simp
                    with_reducible rfl
                  rotate_left
                  · simp only [Act.put, List.setIfInBounds_toArray, List.set_cons_zero, List.set_cons_succ, i64_w, i32_w]
                    rfl
                  refine one_ (i := 6) (N := some 44) #[true, true, true, true, true, true, true, true, true, true, true, false, false, true, false] rfl rfl (one_of HT_.out (by kernel_rfl)) (by decide) (fun K hK => ?_)
                  have hcv27 := own_string (P := Tryd.prog) Tryd.underlying67 Tryd.underlying5 Tryd.underlying9 (Kd.own_of_R HO105.out)
                  refine value_ (w1 := ?_) (v := ?_) (by rfl) rfl ?_ ?_
                  rotate_left 2
                  · go_simp
                    constructor
                    · rfl
                    · rfl
                  clear hcv27
                  refine hK.out _ _ ⟨(blk_cell BK101.out 0).trans rfl, (blk_cell BK101.out 1).trans rfl, (blk_cell BK101.out 2).trans rfl⟩ (fun hHeld => ?_)
                  clear hK K
                  refine norm_ (a' := ?_) ?_ ?_
                  rotate_left
                  · show Act.put _ (some 44) _ = _
                    simp only [Act.put, List.setIfInBounds_toArray, List.set_cons_zero, List.set_cons_succ, i64_w, i32_w]
                    rfl
                  refine pure_ (i := 11) (N := some 49) (v := ?_) (a' := ?_) #[true, true, true, true, true, true, true, true, true, true, true, true, false, true, false] rfl rfl (any_of HT_.out (by kernel_rfl)) (fun _ _ _ h => h) (Or.inl ⟨by rfl, ?_⟩) ?_ ?_
                  rotate_left
                  · intro w'
                    go_simp
                    with_reducible rfl
                  rotate_left
                  · simp only [Act.put, List.setIfInBounds_toArray, List.set_cons_zero, List.set_cons_succ, i64_w, i32_w]
                    rfl
                  refine pure_ (i := 12) (N := some 50) (v := ?_) (a' := ?_) #[true, true, true, true, true, true, true, true, true, true, true, true, true, true, false] rfl rfl (any_of HT_.out (by kernel_rfl)) (fun _ _ _ h => h) (Or.inl ⟨by rfl, ?_⟩) ?_ ?_
                  rotate_left
                  · intro w'
                    go_simp
                    with_reducible rfl
                  rotate_left
                  · simp only [Act.put, List.setIfInBounds_toArray, List.set_cons_zero, List.set_cons_succ, i64_w, i32_w]
                    rfl
                  refine pure_ (i := 14) (N := some 5) (v := ?_) (a' := ?_) #[true, true, true, true, true, true, true, true, true, true, true, true, true, true, true] rfl rfl (any_of HT_.out (by kernel_rfl)) (fun _ _ _ h => h) (Or.inl ⟨by rfl, ?_⟩) ?_ ?_
                  rotate_left
                  · intro w'
                    go_simp
                    with_reducible rfl
                  rotate_left
                  · simp only [Act.put, List.setIfInBounds_toArray, List.set_cons_zero, List.set_cons_succ, i64_w, i32_w]
                    rfl
                  refine done_ (done_of HT_.out (by kernel_rfl)) ?_
                  try go_wp2
                  go_ret2
                  exact ⟨by first | rfl | (simp [errW_none, errW_some] <;> rfl) | (simp [*, errW_none, errW_some] <;> rfl), by repeat (first | (with_reducible first | exact HB.out | apply below_alloc | apply pw_below_drewN | apply below_drew1 | refine below_set ?_ GE101.out) | exact HB.out)⟩
                · rw [if_neg c23] at H
                  exact absurd H (by simp)
              · rw [if_neg c22] at H
                exact absurd H (by simp)
            · replace c20 := Bool.eq_false_iff.mpr c20
              subst c20
              have H1 : (some (x6_1, false)) = some (r1, r2) := by rw [if_neg (show ¬ (false = true) by decide)] at H; exact H
              clear H
              have H := H1
              clear H1
              simp only [Option.some.injEq, Prod.mk.injEq] at H
              obtain ⟨rfl, rfl⟩ := H
              have hcz28_0 : wr.cell? ⟨gb101, 0, none⟩ = some (.int .i64 a0_0) := (blk_cell BK101.out 0).trans rfl
              have hcz28_1 : wr.cell? ⟨gb101, 1, none⟩ = some (.int .i64 a0_1) := (blk_cell BK101.out 1).trans rfl
              have hcz28_2 : wr.cell? ⟨gb101, 2, none⟩ = some (.int .u8 a0_2) := (blk_cell BK101.out 2).trans rfl
              have hfz28_0 := blk_frozen BK101.out 0
              have hfz28_1 := blk_frozen BK101.out 1
              have hfz28_2 := blk_frozen BK101.out 2
              try go_wp2
              have n0_ := Aside0.mk (blk_drew BK101.out)
              have n1_ := Aside0.mk (below_drew1 HB.out)
              clear BK101
              clear HB
              have BK101 := n0_
              have HB := n1_
              clear n0_ n1_
              refine start_ (n := 15) (S := fun w' => True) (ds := []) #[false, false, false, false, false, false, false, false, false, false, false, false, false, false, false] (by kernel_rfl) rfl rfl trivial (fun hHeld => ?_); refine with_tabW codes_form_read.tab10 codes_form_read.bits10 (fun HT_ HW_ => ?_)
              generalize wr.drew = w29 at BK101 HB hHeld ⊢
              refine pure_ (i := 0) (N := some 38) (v := ?_) (a' := ?_) #[true, false, false, false, false, false, false, false, false, false, false, false, false, false, false] rfl rfl (any_of HT_.out (by kernel_rfl)) (fun _ _ _ h => h) (Or.inl ⟨by rfl, ?_⟩) ?_ ?_
              rotate_left
              · intro w'
                go_simp
                with_reducible rfl
              rotate_left
              · simp only [Act.put, List.setIfInBounds_toArray, List.set_cons_zero, List.set_cons_succ, i64_w, i32_w]
                rfl
              refine pure_ (i := 1) (N := some 39) (v := ?_) (a' := ?_) #[true, true, false, false, false, false, false, false, false, false, false, false, false, false, false] rfl rfl (any_of HT_.out (by kernel_rfl)) (fun _ _ _ h => h) (Or.inl ⟨by rfl, ?_⟩) ?_ ?_
              rotate_left
              · intro w'
                go_simp
                with_reducible rfl
              rotate_left
              · simp only [Act.put, List.setIfInBounds_toArray, List.set_cons_zero, List.set_cons_succ, i64_w, i32_w]
                rfl
              refine one_ (i := 2) (N := some 40) #[true, true, true, false, false, false, false, false, false, false, false, false, false, false, false] rfl rfl (one_of HT_.out (by kernel_rfl)) (by decide) (fun K hK => ?_)
              refine goes_ Tryd.func72 (by kernel_rfl) rfl #[.int .i64 x6_1] (by rfl) rfl rfl (by (try simp only [List.map_toArray, List.map_cons, List.map_nil]); first | done | rfl | (simp only [List.length_drop, List.length_take]; rfl)) ?_
              with_reducible refine (codes_right.calls x6_1 false _ A19.out).mono ?_
              rintro e w' ⟨rfl, ⟨nd, rfl⟩⟩
              refine ⟨_, rfl, ?_⟩
              refine hK.out _ _ trivial (fun hHeld => ?_)
              clear hK K
              refine norm_ (a' := ?_) ?_ ?_
              rotate_left
              · show Act.put _ (some 40) _ = _
                simp only [Act.put, List.setIfInBounds_toArray, List.set_cons_zero, List.set_cons_succ, i64_w, i32_w]
                rfl
              refine pure_ (i := 3) (N := some 41) (v := ?_) (a' := ?_) #[true, true, true, true, false, false, false, false, false, false, false, false, false, false, false] rfl rfl (any_of HT_.out (by kernel_rfl)) (fun _ _ _ h => h) (Or.inl ⟨by rfl, ?_⟩) ?_ ?_
              rotate_left
              · intro w'
                go_simp
                with_reducible rfl
              rotate_left
              · simp only [Act.put, List.setIfInBounds_toArray, List.set_cons_zero, List.set_cons_succ, i64_w, i32_w]
                rfl
              refine pure_ (i := 4) (N := some 42) (v := undef) (a' := ?_) #[true, true, true, true, true, false, false, false, false, false, false, false, false, false, false] rfl rfl (any_of HT_.out (by kernel_rfl)) (fun _ _ _ h => h) (Or.inr ⟨by rfl, rfl⟩) ?_ ?_
              rotate_left
              · simp only [Act.put, List.setIfInBounds_toArray, List.set_cons_zero, List.set_cons_succ, i64_w, i32_w]
                rfl
              refine pure_ (i := 5) (N := some 43) (v := undef) (a' := ?_) #[true, true, true, true, true, true, false, false, false, false, false, false, false, false, false] rfl rfl (any_of HT_.out (by kernel_rfl)) (fun _ _ _ h => h) (Or.inr ⟨by rfl, rfl⟩) ?_ ?_
              rotate_left
              · simp only [Act.put, List.setIfInBounds_toArray, List.set_cons_zero, List.set_cons_succ, i64_w, i32_w]
                rfl
              refine pure_ (i := 6) (N := some 44) (v := undef) (a' := ?_) #[true, true, true, true, true, true, true, false, false, false, false, false, false, false, false] rfl rfl (any_of HT_.out (by kernel_rfl)) (fun _ _ _ h => h) (Or.inr ⟨by rfl, rfl⟩) ?_ ?_
              rotate_left
              · simp only [Act.put, List.setIfInBounds_toArray, List.set_cons_zero, List.set_cons_succ, i64_w, i32_w]
                rfl
              refine pure_ (i := 7) (N := some 45) (v := undef) (a' := ?_) #[true, true, true, true, true, true, true, true, false, false, false, false, false, false, false] rfl rfl (any_of HT_.out (by kernel_rfl)) (fun _ _ _ h => h) (Or.inr ⟨by rfl, rfl⟩) ?_ ?_
              rotate_left
              · simp only [Act.put, List.setIfInBounds_toArray, List.set_cons_zero, List.set_cons_succ, i64_w, i32_w]
                rfl
              refine pure_ (i := 8) (N := some 46) (v := undef) (a' := ?_) #[true, true, true, true, true, true, true, true, true, false, false, false, false, false, false] rfl rfl (any_of HT_.out (by kernel_rfl)) (fun _ _ _ h => h) (Or.inr ⟨by rfl, rfl⟩) ?_ ?_
              rotate_left
              · simp only [Act.put, List.setIfInBounds_toArray, List.set_cons_zero, List.set_cons_succ, i64_w, i32_w]
                rfl
              refine pure_ (i := 9) (N := some 47) (v := undef) (a' := ?_) #[true, true, true, true, true, true, true, true, true, true, false, false, false, false, false] rfl rfl (any_of HT_.out (by kernel_rfl)) (fun _ _ _ h => h) (Or.inr ⟨by rfl, rfl⟩) ?_ ?_
              rotate_left
              · simp only [Act.put, List.setIfInBounds_toArray, List.set_cons_zero, List.set_cons_succ, i64_w, i32_w]
                rfl
              refine pure_ (i := 10) (N := some 48) (v := undef) (a' := ?_) #[true, true, true, true, true, true, true, true, true, true, true, false, false, false, false] rfl rfl (any_of HT_.out (by kernel_rfl)) (fun _ _ _ h => h) (Or.inr ⟨by rfl, rfl⟩) ?_ ?_
              rotate_left
              · simp only [Act.put, List.setIfInBounds_toArray, List.set_cons_zero, List.set_cons_succ, i64_w, i32_w]
                rfl
              refine pure_ (i := 11) (N := some 49) (v := undef) (a' := ?_) #[true, true, true, true, true, true, true, true, true, true, true, true, false, false, false] rfl rfl (any_of HT_.out (by kernel_rfl)) (fun _ _ _ h => h) (Or.inr ⟨by rfl, rfl⟩) ?_ ?_
              rotate_left
              · simp only [Act.put, List.setIfInBounds_toArray, List.set_cons_zero, List.set_cons_succ, i64_w, i32_w]
                rfl
              refine pure_ (i := 12) (N := some 50) (v := ?_) (a' := ?_) #[true, true, true, true, true, true, true, true, true, true, true, true, true, false, false] rfl rfl (any_of HT_.out (by kernel_rfl)) (fun _ _ _ h => h) (Or.inl ⟨by rfl, ?_⟩) ?_ ?_
              rotate_left
              · intro w'
                go_simp
                with_reducible rfl
              rotate_left
              · simp only [Act.put, List.setIfInBounds_toArray, List.set_cons_zero, List.set_cons_succ, i64_w, i32_w]
                rfl
              refine pure_ (i := 13) (N := some 4) (v := ?_) (a' := ?_) #[true, true, true, true, true, true, true, true, true, true, true, true, true, true, false] rfl rfl (any_of HT_.out (by kernel_rfl)) (fun _ _ _ h => h) (Or.inl ⟨by rfl, ?_⟩) ?_ ?_
              rotate_left
              · intro w'
                go_simp
                with_reducible rfl
              rotate_left
              · simp only [Act.put, List.setIfInBounds_toArray, List.set_cons_zero, List.set_cons_succ, i64_w, i32_w]
                rfl
              refine pure_ (i := 14) (N := some 5) (v := ?_) (a' := ?_) #[true, true, true, true, true, true, true, true, true, true, true, true, true, true, true] rfl rfl (any_of HT_.out (by kernel_rfl)) (fun _ _ _ h => h) (Or.inl ⟨by rfl, ?_⟩) ?_ ?_
              rotate_left
              · intro w'
                go_simp
                with_reducible rfl
              rotate_left
              · simp only [Act.put, List.setIfInBounds_toArray, List.set_cons_zero, List.set_cons_succ, i64_w, i32_w]
                rfl
              refine done_ (done_of HT_.out (by kernel_rfl)) ?_
              try go_wp2
              go_ret2
              exact ⟨by first | rfl | (simp [errW_none, errW_some] <;> rfl) | (simp [*, errW_none, errW_some] <;> rfl), by repeat (first | (with_reducible first | exact HB.out | apply below_alloc | apply pw_below_drewN | apply below_drew1 | refine below_set ?_ GE101.out) | exact HB.out)⟩
    · rw [if_neg c6] at H
      exact absurd H (by simp)

/-! ### codes_Step: function 51 -/
-- WALKED BY HAND (given)
def codes_Step.g (k : Nat) (t : ByteArray) : Option (Int × Int × Bool) :=
  (codes_form_read.f k 127 1 0 t).bind fun r1 => if r1.2 = true then some (r1.1, 1, true) else
  (codes_form_read.f k 2047 2 192 t).bind fun r2 => if r2.2 = true then some (r2.1, 2, true) else
  (codes_form_read.f k 65535 3 224 t).bind fun r3 => if r3.2 = true then some (r3.1, 3, true) else
  (codes_form_read.f k 1114111 4 240 t).bind fun r4 => if r4.2 = true then some (r4.1, 4, true) else some (0, 0, false)
def codes_Step.f (k : Nat) (a0 : ByteArray) (a1 : Int) : Option (Int × Int × Bool) :=
  if a1 < 0 then some (0, 0, false) else if a1 ≥ (a0.size : Int) then some (0, 0, false) else codes_Step.g k (a0.extract (a1 : Int).toNat a0.size)
theorem codes_Step.mono : ∀ a0 a1 k, LeO (codes_Step.f k a0 a1) (codes_Step.f (k + 1) a0 a1) := by
  intro a0 a1 k
  unfold codes_Step.f codes_Step.g
  repeat' first
      | (with_reducible exact codes_form_read.mono _ _ _ _ _)
      | (with_reducible exact LeO.refl _)
      | (with_reducible refine LeO.ite ?_ ?_)
      | (with_reducible refine LeO.bind ?_ (fun _ => ?_))
      | exact codes_form_read.mono _ _ _ _ _
      | refine LeO.ite ?_ ?_
      | refine LeO.bind ?_ (fun _ => ?_)
/-- What holds of a world while the form at block g is looked at. -/
def codes_Step.S (B : Nat) (w : World) (m z l : Int) (g : Nat) (w' : World) : Prop :=
  w'.cell? ⟨g, 0, none⟩ = some (.int .i64 m) ∧ w'.cell? ⟨g, 1, none⟩ = some (.int .i64 z) ∧ w'.cell? ⟨g, 2, none⟩ = some (.int .u8 l) ∧ g < w'.heap.size ∧ Below w.heap.size w w'
theorem codes_Step.keep {B : Nat} {w w1 w2 : World} {m z l : Int} {g : Nat} (h : codes_Step.S B w m z l g w1) (hb : Below w1.heap.size w1 w2) : codes_Step.S B w m z l g w2 := by
  obtain ⟨h0, h1, h2, h3, h4⟩ := h
  exact ⟨(hb.cell h3).trans h0, (hb.cell h3).trans h1, (hb.cell h3).trans h2, Nat.lt_of_lt_of_le h3 hb.size, below_step h4 hb⟩
theorem codes_Step.keep5 {B : Nat} {w w1 w2 : World} {m z l : Int} {g : Nat} (hb : Below w1.heap.size w1 w2) (h0 : w1.cell? ⟨g, 0, none⟩ = some (.int .i64 m)) (h1 : w1.cell? ⟨g, 1, none⟩ = some (.int .i64 z)) (h2 : w1.cell? ⟨g, 2, none⟩ = some (.int .u8 l)) (h3 : g < w1.heap.size) (h4 : Below w.heap.size w w1) : codes_Step.S B w m z l g w2 := codes_Step.keep ⟨h0, h1, h2, h3, h4⟩ hb
theorem codes_Step.next {w u : World} {m z l : Int} {g : Nat} (h : Below w.heap.size w u) (hg : g = u.heap.size) : codes_Step.S w.heap.size w m z l g ((u.alloc (.cells #[.int .i64 m, .int .i64 z, .int .u8 l] 104)).drew) := by
  subst hg
  have hb := heap_alloc_new u (.cells #[.int .i64 m, .int .i64 z, .int .u8 l] 104)
  have hc : ∀ j, ((u.alloc (.cells #[.int .i64 m, .int .i64 z, .int .u8 l] 104)).drew).cell? ⟨u.heap.size, j, none⟩ = (#[.int .i64 m, .int .i64 z, .int .u8 l] : Array Value)[j]? := fun j => Lib.cell_of_heap hb j
  exact ⟨hc 0, hc 1, hc 2, by show _ < (u.heap.push _).size; simp, (h.alloc h.size _).drew⟩
set_option maxHeartbeats 4000000 in
set_option maxRecDepth 100000 in
theorem codes_Step.calls (k : Nat) (a0 : ByteArray) (a1 : Int) (r1 : Int) (r2 : Int) (r3 : Bool) (w : World) (h : codes_Step.f k a0 a1 = some (r1, r2, r3)) :
    Calls Tryd.prog 51 #[.string a0, .int .i64 a1] w fun e w' => e = .returned (.tuple #[.int .i64 r1, .int .i64 r2, .bool r3]) ∧ Below w.heap.size w w' := by
  unfold codes_Step.f at h
  by_cases c1 : a1 < 0
  · rw [if_pos c1] at h
    simp only [Option.some.injEq, Prod.mk.injEq] at h
    obtain ⟨rfl, rfl, rfl⟩ := h
    go_enter Tryd.func51, Tryd.ntmps51
    go_wp2
    go_ret3
    exact ⟨rfl, Below.refl _ _⟩
  rw [if_neg c1] at h
  by_cases c2 : a1 ≥ (a0.size : Int)
  · rw [if_pos c2] at h
    simp only [Option.some.injEq, Prod.mk.injEq] at h
    obtain ⟨rfl, rfl, rfl⟩ := h
    go_enter Tryd.func51, Tryd.ntmps51
    go_wp2
    go_ret3
    exact ⟨rfl, Below.refl _ _⟩
  rw [if_neg c2] at h
  have H := Aside0.mk h
  clear h
  have d1 : decide (a1 < 0) = false := decide_eq_false c1
  have d2 : decide ((a0.size : Int) ≤ a1) = false := decide_eq_false c2
  have p1 : 0 ≤ a1 := by omega
  have p2 : a1 ≤ (a0.size : Int) := by omega
  have i0 : ∀ w, (Instr.index 105 (.agg #[.int .i64 127, .int .i64 1, .int .u8 0, .int .i64 2047, .int .i64 2, .int .u8 192, .int .i64 65535, .int .i64 3, .int .u8 224, .int .i64 1114111, .int .i64 4, .int .u8 240]) (.int .i64 0)).run Tryd.prog w = .ok (.agg #[.int .i64 127, .int .i64 1, .int .u8 0]) w := fun _ => by kernel_rfl
  have i1 : ∀ w, (Instr.index 105 (.agg #[.int .i64 127, .int .i64 1, .int .u8 0, .int .i64 2047, .int .i64 2, .int .u8 192, .int .i64 65535, .int .i64 3, .int .u8 224, .int .i64 1114111, .int .i64 4, .int .u8 240]) (.int .i64 1)).run Tryd.prog w = .ok (.agg #[.int .i64 2047, .int .i64 2, .int .u8 192]) w := fun _ => by kernel_rfl
  have i2 : ∀ w, (Instr.index 105 (.agg #[.int .i64 127, .int .i64 1, .int .u8 0, .int .i64 2047, .int .i64 2, .int .u8 192, .int .i64 65535, .int .i64 3, .int .u8 224, .int .i64 1114111, .int .i64 4, .int .u8 240]) (.int .i64 2)).run Tryd.prog w = .ok (.agg #[.int .i64 65535, .int .i64 3, .int .u8 224]) w := fun _ => by kernel_rfl
  have i3 : ∀ w, (Instr.index 105 (.agg #[.int .i64 127, .int .i64 1, .int .u8 0, .int .i64 2047, .int .i64 2, .int .u8 192, .int .i64 65535, .int .i64 3, .int .u8 224, .int .i64 1114111, .int .i64 4, .int .u8 240]) (.int .i64 3)).run Tryd.prog w = .ok (.agg #[.int .i64 1114111, .int .i64 4, .int .u8 240]) w := fun _ => by kernel_rfl
  go_enter Tryd.func51, Tryd.ntmps51
  go_wp2_with (go_at_call 63; refine (Codes.forms _).mono ?_; rintro e w1 ⟨rfl, rfl⟩)
  have hg := H.out
  unfold codes_Step.g at hg
  have HG := Aside0.mk hg
  clear hg H
  refine wp_loop_rounds 5 ?_
  rw [rounds_succ]
  go_wp2
  have hg := HG.out
  clear HG
  obtain ⟨⟨n0, b0⟩, E0, hg⟩ := Option.bind_eq_some_iff.1 hg
  dsimp only at hg
  have E0' := Aside0.mk E0
  clear E0
  have HG := Aside0.mk hg
  clear hg
  have hs0 : codes_Step.S w.heap.size w 127 1 0 (w.heap.size + 1) ((w.alloc (.cells #[.int .i64 127, .int .i64 1, .int .u8 0, .int .i64 2047, .int .i64 2, .int .u8 192, .int .i64 65535, .int .i64 3, .int .u8 224, .int .i64 1114111, .int .i64 4, .int .u8 240] 105)).alloc (.cells #[.int .i64 127, .int .i64 1, .int .u8 0] 104)).drew := codes_Step.next (h := (Below.refl _ _).alloc (Nat.le_refl _) _) (by simp)
  go_region_held3 (fun w' => w'.cell? ⟨w.heap.size + 1, 0, none⟩ = some (.int .i64 127) ∧ w'.cell? ⟨w.heap.size + 1, 1, none⟩ = some (.int .i64 1) ∧ w'.cell? ⟨w.heap.size + 1, 2, none⟩ = some (.int .u8 0) ∧ (w.heap.size + 1) < w'.heap.size ∧ Below w.heap.size w w') (first | exact hs0 | exact codes_Step.keep (by assumption) hb0 | (go_split_ands; exact codes_Step.keep5 (B := w.heap.size) hb0 (by assumption) (by assumption) (by assumption) (by assumption) (by assumption))) (first | (go_at_call 64; refine (codes_form_read.calls k 127 1 0 _ n0 b0 _ E0'.out).mono ?_; rintro e u0 ⟨rfl, hb0⟩))
  have q0 : codes_Step.S w.heap.size w 127 1 0 (w.heap.size + 1) u0 := by assumption
  have Q0 := Aside0.mk q0
  have c3 := q0.2.1
  clear hs0 q0 hb0
  cases b0 with
  | true =>
    have hg := HG.out
    rw [if_pos rfl] at hg
    simp only [Option.some.injEq, Prod.mk.injEq] at hg
    obtain ⟨rfl, rfl, rfl⟩ := hg
    go_wp2
    go_quiet (fail)
    go_wp2
    go_ret3
    exact ⟨rfl, by repeat (first | exact Q0.out.2.2.2.2 | apply pw_below_drewN | apply below_drew1)⟩
  | false =>
    have hg := HG.out
    rw [if_neg (by simp)] at hg
    have HG := Aside0.mk hg
    clear hg c3
    go_wp2
    rw [rounds_succ]
    go_wp2
    have hg := HG.out
    clear HG
    obtain ⟨⟨n1, b1⟩, E1, hg⟩ := Option.bind_eq_some_iff.1 hg
    dsimp only at hg
    have E1' := Aside0.mk E1
    clear E1
    have HG := Aside0.mk hg
    clear hg
    have hs1 : codes_Step.S w.heap.size w 2047 2 192 u0.heap.size (u0.alloc (.cells #[.int .i64 2047, .int .i64 2, .int .u8 192] 104)).drew := codes_Step.next (h := Q0.out.2.2.2.2) rfl
    go_region_held3 (fun w' => w'.cell? ⟨u0.heap.size, 0, none⟩ = some (.int .i64 2047) ∧ w'.cell? ⟨u0.heap.size, 1, none⟩ = some (.int .i64 2) ∧ w'.cell? ⟨u0.heap.size, 2, none⟩ = some (.int .u8 192) ∧ u0.heap.size < w'.heap.size ∧ Below w.heap.size w w') (first | exact hs1 | exact codes_Step.keep (by assumption) hb1 | (go_split_ands; exact codes_Step.keep5 (B := w.heap.size) hb1 (by assumption) (by assumption) (by assumption) (by assumption) (by assumption))) (first | (go_at_call 64; refine (codes_form_read.calls k 2047 2 192 _ n1 b1 _ E1'.out).mono ?_; rintro e u1 ⟨rfl, hb1⟩))
    have q1 : codes_Step.S w.heap.size w 2047 2 192 u0.heap.size u1 := by assumption
    have Q1 := Aside0.mk q1
    have c4 := q1.2.1
    clear hs1 q1 hb1
    cases b1 with
    | true =>
      have hg := HG.out
      rw [if_pos rfl] at hg
      simp only [Option.some.injEq, Prod.mk.injEq] at hg
      obtain ⟨rfl, rfl, rfl⟩ := hg
      go_wp2
      go_quiet (fail)
      go_wp2
      go_ret3
      exact ⟨rfl, by repeat (first | exact Q1.out.2.2.2.2 | apply pw_below_drewN | apply below_drew1)⟩
    | false =>
      have hg := HG.out
      rw [if_neg (by simp)] at hg
      have HG := Aside0.mk hg
      clear hg c4
      go_wp2
      rw [rounds_succ]
      go_wp2
      have hg := HG.out
      clear HG
      obtain ⟨⟨n2, b2⟩, E2, hg⟩ := Option.bind_eq_some_iff.1 hg
      dsimp only at hg
      have E2' := Aside0.mk E2
      clear E2
      have HG := Aside0.mk hg
      clear hg
      have hs2 : codes_Step.S w.heap.size w 65535 3 224 u1.heap.size (u1.alloc (.cells #[.int .i64 65535, .int .i64 3, .int .u8 224] 104)).drew := codes_Step.next (h := Q1.out.2.2.2.2) rfl
      go_region_held3 (fun w' => w'.cell? ⟨u1.heap.size, 0, none⟩ = some (.int .i64 65535) ∧ w'.cell? ⟨u1.heap.size, 1, none⟩ = some (.int .i64 3) ∧ w'.cell? ⟨u1.heap.size, 2, none⟩ = some (.int .u8 224) ∧ u1.heap.size < w'.heap.size ∧ Below w.heap.size w w') (first | exact hs2 | exact codes_Step.keep (by assumption) hb2 | (go_split_ands; exact codes_Step.keep5 (B := w.heap.size) hb2 (by assumption) (by assumption) (by assumption) (by assumption) (by assumption))) (first | (go_at_call 64; refine (codes_form_read.calls k 65535 3 224 _ n2 b2 _ E2'.out).mono ?_; rintro e u2 ⟨rfl, hb2⟩))
      have q2 : codes_Step.S w.heap.size w 65535 3 224 u1.heap.size u2 := by assumption
      have Q2 := Aside0.mk q2
      have c5 := q2.2.1
      clear hs2 q2 hb2
      cases b2 with
      | true =>
        have hg := HG.out
        rw [if_pos rfl] at hg
        simp only [Option.some.injEq, Prod.mk.injEq] at hg
        obtain ⟨rfl, rfl, rfl⟩ := hg
        go_wp2
        go_quiet (fail)
        go_wp2
        go_ret3
        exact ⟨rfl, by repeat (first | exact Q2.out.2.2.2.2 | apply pw_below_drewN | apply below_drew1)⟩
      | false =>
        have hg := HG.out
        rw [if_neg (by simp)] at hg
        have HG := Aside0.mk hg
        clear hg c5
        go_wp2
        rw [rounds_succ]
        go_wp2
        have hg := HG.out
        clear HG
        obtain ⟨⟨n3, b3⟩, E3, hg⟩ := Option.bind_eq_some_iff.1 hg
        dsimp only at hg
        have E3' := Aside0.mk E3
        clear E3
        have HG := Aside0.mk hg
        clear hg
        have hs3 : codes_Step.S w.heap.size w 1114111 4 240 u2.heap.size (u2.alloc (.cells #[.int .i64 1114111, .int .i64 4, .int .u8 240] 104)).drew := codes_Step.next (h := Q2.out.2.2.2.2) rfl
        go_region_held3 (fun w' => w'.cell? ⟨u2.heap.size, 0, none⟩ = some (.int .i64 1114111) ∧ w'.cell? ⟨u2.heap.size, 1, none⟩ = some (.int .i64 4) ∧ w'.cell? ⟨u2.heap.size, 2, none⟩ = some (.int .u8 240) ∧ u2.heap.size < w'.heap.size ∧ Below w.heap.size w w') (first | exact hs3 | exact codes_Step.keep (by assumption) hb3 | (go_split_ands; exact codes_Step.keep5 (B := w.heap.size) hb3 (by assumption) (by assumption) (by assumption) (by assumption) (by assumption))) (first | (go_at_call 64; refine (codes_form_read.calls k 1114111 4 240 _ n3 b3 _ E3'.out).mono ?_; rintro e u3 ⟨rfl, hb3⟩))
        have q3 : codes_Step.S w.heap.size w 1114111 4 240 u2.heap.size u3 := by assumption
        have Q3 := Aside0.mk q3
        have c6 := q3.2.1
        clear hs3 q3 hb3
        cases b3 with
        | true =>
          have hg := HG.out
          rw [if_pos rfl] at hg
          simp only [Option.some.injEq, Prod.mk.injEq] at hg
          obtain ⟨rfl, rfl, rfl⟩ := hg
          go_wp2
          go_quiet (fail)
          go_wp2
          go_ret3
          exact ⟨rfl, by repeat (first | exact Q3.out.2.2.2.2 | apply pw_below_drewN | apply below_drew1)⟩
        | false =>
          have hg := HG.out
          rw [if_neg (by simp)] at hg
          have HG := Aside0.mk hg
          clear hg c6
          go_wp2
          rw [rounds_succ]
          go_wp2
          have hg := HG.out
          simp only [Option.some.injEq, Prod.mk.injEq] at hg
          obtain ⟨rfl, rfl, rfl⟩ := hg
          go_ret3
          exact ⟨rfl, Q3.out.2.2.2.2⟩

end Go.Proofs.YtjgaikmejccdkaaDoor.PDoc
