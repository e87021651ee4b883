/- Layer 3's functions over an index in memory, walked: places, lines, offsets. -/
import Derived.Test.YtgejmmkfaliinaaDoorLinesW
import Derived.Test.YtgejmmkfaliinaaDoorWMore
import Derived.Below
import Derived.OwnWalk
import Derived.Laws.MakeOwn
import Derived.Tactics
import Derived.KernelRfl
import Derived.RowKit3
import Derived.Deep.LoopGhost
import Derived.Deep.QuietTactic
import Derived.BigQuiet
import Derived.Laws.Rows
import Derived.RowKit
import Derived.Outline
import Derived.LoopN
import Derived.StillTailTactics
import Derived.OwnWalk
import Derived.Deep.Draws
import Derived.Lib.Builder
namespace Go.Proofs.YtgejmmkfaliinaaDoor.Lines
open Go.RowKit Go.Proofs.YtgejmmkfaliinaaDoorW.PrintWords Go.Proofs.YtgejmmkfaliinaaDoorW.PrintLast Go.Proofs.YtgejmmkfaliinaaDoorW.PrintMore
set_option linter.unusedVariables false
set_option linter.unusedSimpArgs false
/-- What is asked of the lines' beginnings. -/
structure Good (z : List Int) : Prop where
  len : z.length ≤ 2000000
  asc : ∀ a b, a ≤ b → b < z.length → z.getD a 0 ≤ z.getD b 0
  zero : z.getD 0 0 = 0
  top : ∀ i, i < z.length → z.getD i 0 ≤ 2000001
  pos : 0 < z.length
theorem Good.ge {z : List Int} (h : Good z) (i : Nat) (hi : i < z.length) : 0 ≤ z.getD i 0 := by
  have := h.asc 0 i (Nat.zero_le _) hi
  rw [h.zero] at this
  exact this
set_option maxHeartbeats 2000000 in
set_option maxRecDepth 100000 in
theorem Place (g : Nat) (s : ByteArray) (z : List Int) (at0 : Int) (w : World) (hI : Ix w g s z) (hg : Good z) (hs : s.size ≤ 1000000) (h0 : 0 ≤ at0) (h1 : at0 ≤ s.size) :
    Calls Tryd.prog 10 #[.pointer (some ⟨g, 0, none⟩), .int .i64 at0] w fun e w' => ∃ n : Nat, e = .returned (.tuple #[.int .i64 n, .int .i64 (at0 - z.getD n 0), .int .i64 0]) ∧ n < z.length ∧ z.getD n 0 ≤ at0 ∧ (∀ t, n < t → t < z.length → at0 < z.getD t 0) ∧ Below w.heap.size w w' := by
  have hL := line g s z at0 w hI hg.len (fun a b hab hb h => Int.lt_of_lt_of_le h (hg.asc a b hab hb))
  have HL := Aside0.mk hL
  have HI := Aside0.mk hI
  have HG := Aside0.mk hg
  obtain ⟨r, c, i1, i2, i3, i4, i5⟩ := hI
  have d0 : decide (at0 < 0) = false := decide_eq_false (by omega)
  have d1 : decide ((s.size : Int) < at0) = false := decide_eq_false (by omega)
  clear hL i2 i5 hg
  go_enter Tryd.func10, Tryd.ntmps10
  go_wp2_with (go_at_call 16; refine HL.out.mono ?_; rintro e w4 ⟨k, rfl, hk1, hk2, hk3, hb⟩)
  have hI4 := HI.out.below hb
  obtain ⟨r4, c4, j1, j2, j3, j4, j5⟩ := hI4
  have hk0 : 0 < k := by
    rcases Nat.eq_zero_or_pos k with e | e
    · subst e
      have := hk3 0 (Nat.le_refl _) j4
      rw [HG.out.zero] at this
      omega
    · exact e
  obtain ⟨n, rfl⟩ : ∃ n, k = n + 1 := ⟨k - 1, by omega⟩
  obtain ⟨y, hy⟩ : ∃ y, y = z.getD n 0 := ⟨_, rfl⟩
  have hcy := j5 n (by omega)
  rw [← hy] at hcy
  have hy0 : 0 ≤ y := by rw [hy]; exact HG.out.ge n (by omega)
  have hy1 : y ≤ 2000001 := by rw [hy]; exact HG.out.top n (by omega)
  have hy2 : y ≤ at0 := by rw [hy]; exact hk2 n (by omega)
  obtain ⟨x, hx⟩ : ∃ x : Int, ((n + 1 : Nat) : Int) - 1 = x := ⟨_, rfl⟩
  have hxn : x.toNat = n := by omega
  rw [← hxn] at hcy
  have x0 : 0 ≤ x := by omega
  have x1 : x < (z.length : Int) := by omega
  have q0 := eq_true x0
  have q1 := eq_true x1
  have e1 : IntKind.i64.wrap (at0 - y) = at0 - y := by rw [IntKind.wrap_i64]; omega
  have e2 : wrap64 (at0 - y) = at0 - y := by unfold wrap64; omega
  have K3 := Aside0.mk hk3
  have HB := Aside0.mk hb
  clear hk2 hk3 j5 hb
  rw [hx]
  have HX := Aside0.mk hx
  have HY := Aside0.mk hy
  clear hx hxn hy
  go_wp2
  go_quiet (fail)
  go_wp2
  go_ret3
  have hx := HX.out
  have ex : x = (n : Int) := by omega
  subst ex
  refine ⟨n, ?_, by omega, by rw [← HY.out]; exact hy2, fun t ht htl => K3.out t (by omega) htl, pw_below_drewN HB.out _⟩
  rw [← HY.out]
  first | rfl | (rw [e2]; rfl) | (simp only [e2]; rfl)
set_option maxHeartbeats 2000000 in
set_option maxRecDepth 100000 in
theorem Place_out (g : Nat) (s : ByteArray) (z : List Int) (at0 : Int) (w : World) (hI : Ix w g s z) (h : at0 < 0 ∨ (s.size : Int) < at0) :
    Calls Tryd.prog 10 #[.pointer (some ⟨g, 0, none⟩), .int .i64 at0] w fun e w' => e = .returned (.tuple #[.int .i64 0, .int .i64 0, .int .i64 2]) ∧ Below w.heap.size w w' := by
  obtain ⟨r, c, i1, i2, i3, i4, i5⟩ := hI
  clear i5
  by_cases c0 : at0 < 0
  · have d0 : decide (at0 < 0) = true := decide_eq_true c0
    go_enter Tryd.func10, Tryd.ntmps10
    go_wp2
    go_ret3
    exact ⟨rfl, Below.refl _ _⟩
  · have d0 : decide (at0 < 0) = false := decide_eq_false c0
    have d1 : decide ((s.size : Int) < at0) = true := decide_eq_true (by omega)
    go_enter Tryd.func10, Tryd.ntmps10
    go_wp2
    go_ret3
    exact ⟨rfl, Below.refl _ _⟩
set_option maxHeartbeats 2000000 in
set_option maxRecDepth 100000 in
theorem Place_none (at0 : Int) (w : World) :
    Calls Tryd.prog 10 #[.pointer none, .int .i64 at0] w fun e w' => e = .returned (.tuple #[.int .i64 0, .int .i64 0, .int .i64 2]) ∧ Below w.heap.size w w' := by
  go_enter Tryd.func10, Tryd.ntmps10
  go_wp2
  go_ret3
  exact ⟨rfl, Below.refl _ _⟩
theorem frozen_cells {W : World} {b : Nat} {cs : Array Value} {t : TypeId} (hb : W.heap[b]? = some (.cells cs t (0, 0))) (j : Nat) : W.frozen? ⟨b, j, none⟩ = false := by
  unfold World.frozen?
  rw [show W.heap[(⟨b, j, none⟩ : Addr).block]? = _ from hb]
  simp
theorem pair_cells {W : World} {b : Nat} {u0 u1 : Value} (h0 : W.cell? ⟨b, 0, none⟩ = some u0) (h1 : W.cell? ⟨b, 1, none⟩ = some u1) (v0 v1 : Value) :
    ((W.setCell ⟨b, 0, none⟩ v0).setCell ⟨b, 1, none⟩ v1).cell? ⟨b, 0, none⟩ = some v0 ∧ ((W.setCell ⟨b, 0, none⟩ v0).setCell ⟨b, 1, none⟩ v1).cell? ⟨b, 1, none⟩ = some v1 := by
  have hne : (⟨b, 1, none⟩ : Addr) ≠ ⟨b, 0, none⟩ := by simp
  have hne' : (⟨b, 0, none⟩ : Addr) ≠ ⟨b, 1, none⟩ := by simp
  constructor
  · rw [World.cell?_setCell_other _ _ _ _ hne]
    exact World.cell?_setCell_same _ _ _ h0
  · exact World.cell?_setCell_same _ _ _ ((World.cell?_setCell_other _ _ _ _ hne').trans h1)
/-- Where a line ends. -/
def fin (s : ByteArray) (z : List Int) (n : Nat) : Int := if n + 1 < z.length then z.getD (n + 1) 0 - 1 else (s.size : Int)
set_option maxHeartbeats 2000000 in
set_option maxRecDepth 100000 in
theorem Line (g : Nat) (s : ByteArray) (z : List Int) (n : Nat) (w : World) (hI : Ix w g s z) (hg : Good z) (hs : s.size ≤ 1000000) (hn : n < z.length) :
    Calls Tryd.prog 7 #[.pointer (some ⟨g, 0, none⟩), .int .i64 n] w fun e w' => e = .returned (.tuple #[.agg #[.int .i64 (z.getD n 0), .int .i64 (fin s z n)], .int .i64 0]) ∧ Below w.heap.size w w' := by
  have HI := Aside0.mk hI
  have hlen := hg.len
  have hy0 := hg.ge n hn
  have hy1 := hg.top n hn
  obtain ⟨y, hy⟩ : ∃ y, y = z.getD n 0 := ⟨_, rfl⟩
  rw [← hy] at hy0 hy1 ⊢
  obtain ⟨x, hx⟩ : ∃ x : Int, (n : Int) = x := ⟨_, rfl⟩
  have hxn : x.toNat = n := by omega
  have HX := Aside0.mk hxn
  have x0 : 0 ≤ x := by omega
  have x1 : x < (z.length : Int) := by omega
  have d0 : decide (x < 0) = false := decide_eq_false (by omega)
  have d1 : decide ((z.length : Int) ≤ x) = false := decide_eq_false (by omega)
  by_cases c2 : n + 1 < z.length
  · have d2 : decide (x + 1 < (z.length : Int)) = true := decide_eq_true (by omega)
    have x2 : x + 1 < (z.length : Int) := by omega
    have hu0 := hg.ge (n + 1) c2
    have hu1 := hg.top (n + 1) c2
    have hf : fin s z n = z.getD (n + 1) 0 - 1 := by unfold fin; rw [if_pos c2]
    rw [hf]
    obtain ⟨u, hu⟩ : ∃ u, u = z.getD (n + 1) 0 := ⟨_, rfl⟩
    rw [← hu] at hu0 hu1 ⊢
    have HU := Aside0.mk hu
    have HY := Aside0.mk hy
    have HC := Aside0.mk c2
    have HN := Aside0.mk hn
    clear hf hu hy hxn c2 hn hg
    rw [hx]
    clear hx
    go_enter Tryd.func7, Tryd.ntmps7
    go_wp2_with (go_at_call 12; refine (Count g s z _ (HI.out.below ((Below.refl _ w).alloc (Nat.le_refl _) _))).mono ?_; rintro e w4 ⟨rfl, hb⟩; obtain ⟨r4, c4, j1, j2, j3, j4, j5⟩ := (HI.out.below ((Below.refl _ w).alloc (Nat.le_refl _) _)).below hb; have hcy := j5 n HN.out; rw [← HY.out, ← HX.out] at hcy; have hcu := j5 (n + 1) HC.out; rw [← HU.out, show n + 1 = (x + 1).toNat from by have := HX.out; omega] at hcu; have hbk := (hb.block w.heap.size (by simp)).trans (heap_alloc_new w _); have k0 := Go.Lib.cell_of_heap hbk 0; have k1 := Go.Lib.cell_of_heap hbk 1; have f0 : w4.frozen? ⟨w.heap.size, 0, none⟩ = false := (frozen_cells hbk _); have f1 : w4.frozen? ⟨w.heap.size, 1, none⟩ = false := (frozen_cells hbk _); clear j5; have HB := Aside0.mk hb; clear hb)
    refine bodyPost_ret (v := .tuple #[.agg #[.int .i64 y, .int .i64 (u - 1)], .int .i64 0]) ?_ rfl ⟨rfl, (((Below.refl _ w).alloc (Nat.le_refl _) _).trans (HB.out.mono (by simp)) |>.setCell (Nat.le_refl _) _).setCell (Nat.le_refl _) _⟩
    obtain ⟨hc0, hc1⟩ := pair_cells k0 k1 (.int .i64 y) (.int .i64 (u - 1))
    simp [results, Tryd.results7, go_sem, hc0, hc1]
  · have d2 : decide (x + 1 < (z.length : Int)) = false := decide_eq_false (by omega)
    have hf : fin s z n = (s.size : Int) := by unfold fin; rw [if_neg c2]
    rw [hf]
    have HY := Aside0.mk hy
    have HN := Aside0.mk hn
    clear hf hy hxn c2 hn hg
    rw [hx]
    clear hx
    go_enter Tryd.func7, Tryd.ntmps7
    go_wp2_with (go_at_call 12; refine (Count g s z _ (HI.out.below ((Below.refl _ w).alloc (Nat.le_refl _) _))).mono ?_; rintro e w4 ⟨rfl, hb⟩; obtain ⟨r4, c4, j1, j2, j3, j4, j5⟩ := (HI.out.below ((Below.refl _ w).alloc (Nat.le_refl _) _)).below hb; have hcy := j5 n HN.out; rw [← HY.out, ← HX.out] at hcy; have hbk := (hb.block w.heap.size (by simp)).trans (heap_alloc_new w _); have k0 := Go.Lib.cell_of_heap hbk 0; have k1 := Go.Lib.cell_of_heap hbk 1; have f0 : w4.frozen? ⟨w.heap.size, 0, none⟩ = false := (frozen_cells hbk _); have f1 : w4.frozen? ⟨w.heap.size, 1, none⟩ = false := (frozen_cells hbk _); clear j5; have HB := Aside0.mk hb; clear hb)
    refine bodyPost_ret (v := .tuple #[.agg #[.int .i64 y, .int .i64 (s.size : Int)], .int .i64 0]) ?_ rfl ⟨rfl, (((Below.refl _ w).alloc (Nat.le_refl _) _).trans (HB.out.mono (by simp)) |>.setCell (Nat.le_refl _) _).setCell (Nat.le_refl _) _⟩
    obtain ⟨hc0, hc1⟩ := pair_cells k0 k1 (.int .i64 y) (.int .i64 (s.size : Int))
    simp [results, Tryd.results7, go_sem, hc0, hc1]
set_option maxHeartbeats 2000000 in
set_option maxRecDepth 100000 in
/-- A line that is none: the two ways out. -/
theorem Line_out (g : Nat) (s : ByteArray) (z : List Int) (x : Int) (w : World) (hI : Ix w g s z) (h : x < 0 ∨ (z.length : Int) ≤ x) :
    Calls Tryd.prog 7 #[.pointer (some ⟨g, 0, none⟩), .int .i64 x] w fun e w' => e = .returned (.tuple #[.agg #[.int .i64 0, .int .i64 0], .int .i64 2]) ∧ Below w.heap.size w w' := by
  have HI := Aside0.mk hI
  by_cases c0 : x < 0
  · have d0 : decide (x < 0) = true := decide_eq_true c0
    have hbk := heap_alloc_new w (.cells #[.int .i64 0, .int .i64 0] 26)
    have k0 := Go.Lib.cell_of_heap hbk 0
    have k1 := Go.Lib.cell_of_heap hbk 1
    have f0 : (w.alloc (.cells #[.int .i64 0, .int .i64 0] 26)).frozen? ⟨w.heap.size, 0, none⟩ = false := frozen_cells hbk _
    have f1 : (w.alloc (.cells #[.int .i64 0, .int .i64 0] 26)).frozen? ⟨w.heap.size, 1, none⟩ = false := frozen_cells hbk _
    clear hI
    go_enter Tryd.func7, Tryd.ntmps7
    go_wp2
    first
    | (refine bodyPost_ret (v := .tuple #[.agg #[.int .i64 0, .int .i64 0], .int .i64 2]) ?_ rfl ⟨rfl, (Below.refl _ w).alloc (Nat.le_refl _) _⟩; simp [results, Tryd.results7, go_sem, k0, k1]; done)
    | (refine bodyPost_ret (v := .tuple #[.agg #[.int .i64 0, .int .i64 0], .int .i64 2]) ?_ rfl ⟨rfl, (((Below.refl _ w).alloc (Nat.le_refl _) _) |>.setCell (Nat.le_refl _) _).setCell (Nat.le_refl _) _⟩
       obtain ⟨hc0, hc1⟩ := pair_cells k0 k1 (.int .i64 0) (.int .i64 0)
       simp [results, Tryd.results7, go_sem, hc0, hc1])
  · have d0 : decide (x < 0) = false := decide_eq_false c0
    have d1 : decide ((z.length : Int) ≤ x) = true := decide_eq_true (by omega)
    clear hI
    go_enter Tryd.func7, Tryd.ntmps7
    go_wp2_with (go_at_call 12; refine (Count g s z _ (HI.out.below ((Below.refl _ w).alloc (Nat.le_refl _) _))).mono ?_; rintro e w4 ⟨rfl, hb⟩; have hbk := (hb.block w.heap.size (by simp)).trans (heap_alloc_new w _); have k0 := Go.Lib.cell_of_heap hbk 0; have k1 := Go.Lib.cell_of_heap hbk 1; have f0 : w4.frozen? ⟨w.heap.size, 0, none⟩ = false := (frozen_cells hbk _); have f1 : w4.frozen? ⟨w.heap.size, 1, none⟩ = false := (frozen_cells hbk _); have HB := Aside0.mk hb; clear hb)
    first
    | (refine bodyPost_ret (v := .tuple #[.agg #[.int .i64 0, .int .i64 0], .int .i64 2]) ?_ rfl ⟨rfl, ((Below.refl _ w).alloc (Nat.le_refl _) _).trans (HB.out.mono (by simp))⟩; simp [results, Tryd.results7, go_sem, k0, k1]; done)
    | (refine bodyPost_ret (v := .tuple #[.agg #[.int .i64 0, .int .i64 0], .int .i64 2]) ?_ rfl ⟨rfl, (((Below.refl _ w).alloc (Nat.le_refl _) _).trans (HB.out.mono (by simp)) |>.setCell (Nat.le_refl _) _).setCell (Nat.le_refl _) _⟩
       obtain ⟨hc0, hc1⟩ := pair_cells k0 k1 (.int .i64 0) (.int .i64 0)
       simp [results, Tryd.results7, go_sem, hc0, hc1])
set_option maxHeartbeats 2000000 in
set_option maxRecDepth 100000 in
theorem Line_none (x : Int) (w : World) :
    Calls Tryd.prog 7 #[.pointer none, .int .i64 x] w fun e w' => e = .returned (.tuple #[.agg #[.int .i64 0, .int .i64 0], .int .i64 2]) ∧ Below w.heap.size w w' := by
  by_cases c0 : x < 0
  · have d0 : decide (x < 0) = true := decide_eq_true c0
    have hbk := heap_alloc_new w (.cells #[.int .i64 0, .int .i64 0] 26)
    have k0 := Go.Lib.cell_of_heap hbk 0
    have k1 := Go.Lib.cell_of_heap hbk 1
    have f0 : (w.alloc (.cells #[.int .i64 0, .int .i64 0] 26)).frozen? ⟨w.heap.size, 0, none⟩ = false := frozen_cells hbk _
    have f1 : (w.alloc (.cells #[.int .i64 0, .int .i64 0] 26)).frozen? ⟨w.heap.size, 1, none⟩ = false := frozen_cells hbk _
    go_enter Tryd.func7, Tryd.ntmps7
    go_wp2
    first
    | (refine bodyPost_ret (v := .tuple #[.agg #[.int .i64 0, .int .i64 0], .int .i64 2]) ?_ rfl ⟨rfl, (Below.refl _ w).alloc (Nat.le_refl _) _⟩; simp [results, Tryd.results7, go_sem, k0, k1]; done)
    | (refine bodyPost_ret (v := .tuple #[.agg #[.int .i64 0, .int .i64 0], .int .i64 2]) ?_ rfl ⟨rfl, (((Below.refl _ w).alloc (Nat.le_refl _) _) |>.setCell (Nat.le_refl _) _).setCell (Nat.le_refl _) _⟩
       obtain ⟨hc0, hc1⟩ := pair_cells k0 k1 (.int .i64 0) (.int .i64 0)
       simp [results, Tryd.results7, go_sem, hc0, hc1])
  · have d0 : decide (x < 0) = false := decide_eq_false c0
    have d1 : decide (0 ≤ x) = true := decide_eq_true (by omega)
    go_enter Tryd.func7, Tryd.ntmps7
    go_wp2_with (go_at_call 12; refine (Count_none _).mono ?_; rintro e w4 ⟨rfl, hb⟩; have hbk := (hb.block w.heap.size (by simp)).trans (heap_alloc_new w _); have k0 := Go.Lib.cell_of_heap hbk 0; have k1 := Go.Lib.cell_of_heap hbk 1; have f0 : w4.frozen? ⟨w.heap.size, 0, none⟩ = false := (frozen_cells hbk _); have f1 : w4.frozen? ⟨w.heap.size, 1, none⟩ = false := (frozen_cells hbk _); have HB := Aside0.mk hb; clear hb)
    first
    | (refine bodyPost_ret (v := .tuple #[.agg #[.int .i64 0, .int .i64 0], .int .i64 2]) ?_ rfl ⟨rfl, ((Below.refl _ w).alloc (Nat.le_refl _) _).trans (HB.out.mono (by simp))⟩; simp [results, Tryd.results7, go_sem, k0, k1]; done)
    | (refine bodyPost_ret (v := .tuple #[.agg #[.int .i64 0, .int .i64 0], .int .i64 2]) ?_ rfl ⟨rfl, (((Below.refl _ w).alloc (Nat.le_refl _) _).trans (HB.out.mono (by simp)) |>.setCell (Nat.le_refl _) _).setCell (Nat.le_refl _) _⟩
       obtain ⟨hc0, hc1⟩ := pair_cells k0 k1 (.int .i64 0) (.int .i64 0)
       simp [results, Tryd.results7, go_sem, hc0, hc1])
end Go.Proofs.YtgejmmkfaliinaaDoor.Lines
