/- Layer 3's functions over an index in memory, walked: offsets, updates. -/
import Derived.Test.YtgejmmkfaliinaaDoorLinesX
import Derived.Test.YtgejmmkfaliinaaDoorWMore
import Derived.Below
import Derived.OwnWalk
import Derived.Laws.MakeOwn
import Derived.Tactics
import Derived.KernelRfl
import Derived.RowKit3
import Derived.Deep.LoopGhost
import Derived.Deep.QuietTactic
import Derived.BigQuiet
import Derived.Laws.Rows
import Derived.RowKit
import Derived.Outline
import Derived.LoopN
import Derived.StillTailTactics
import Derived.OwnWalk
import Derived.Deep.Draws
import Derived.Lib.Builder
namespace Go.Proofs.YtgejmmkfaliinaaDoor.Lines
open Go.RowKit Go.Proofs.YtgejmmkfaliinaaDoorW.PrintWords Go.Proofs.YtgejmmkfaliinaaDoorW.PrintLast Go.Proofs.YtgejmmkfaliinaaDoorW.PrintMore
set_option linter.unusedVariables false
set_option linter.unusedSimpArgs false
set_option maxHeartbeats 2000000 in
set_option maxRecDepth 100000 in
theorem Offset_yes (v : Value) (n col a b : Int) (w : World) (ha : 0 ≤ a ∧ a ≤ 2000001) (hb : -1 ≤ b ∧ b ≤ 2000001) (h0 : 0 ≤ col) (h1 : col ≤ b - a)
    (hL : Calls Tryd.prog 7 #[v, .int .i64 n] w fun e' w' => e' = .returned (.tuple #[.agg #[.int .i64 a, .int .i64 b], .int .i64 0]) ∧ Below w.heap.size w w') :
    Calls Tryd.prog 8 #[v, .int .i64 n, .int .i64 col] w fun e' w' => e' = .returned (.tuple #[.int .i64 (a + col), .int .i64 0]) ∧ Below w.heap.size w w' := by
  have HL := Aside0.mk hL
  have d0 : decide (col < 0) = false := decide_eq_false (by omega)
  have d1 : decide (b - a < col) = false := decide_eq_false (by omega)
  clear hL
  obtain ⟨a1, a2⟩ := ha
  obtain ⟨b1, b2⟩ := hb
  go_enter Tryd.func8, Tryd.ntmps8
  go_wp2_with (go_at_call 7; refine HL.out.mono ?_; rintro e w4 ⟨rfl, hb⟩; have HB := Aside0.mk hb; have hsz := hb.size; clear hb)
  go_ret2
  exact ⟨rfl, by repeat (first | exact HB.out | (refine Below.setCell ?_ (by first | omega | (simp; done) | (simp; omega)) _) | (refine Below.alloc ?_ (by first | omega | (simp; done) | (simp; omega)) _))⟩
set_option maxHeartbeats 2000000 in
set_option maxRecDepth 100000 in
theorem Offset_out (v : Value) (n col a b : Int) (w : World) (ha : 0 ≤ a ∧ a ≤ 2000001) (hb : -1 ≤ b ∧ b ≤ 2000001) (h0 : col < 0 ∨ b - a < col)
    (hL : Calls Tryd.prog 7 #[v, .int .i64 n] w fun e' w' => e' = .returned (.tuple #[.agg #[.int .i64 a, .int .i64 b], .int .i64 0]) ∧ Below w.heap.size w w') :
    Calls Tryd.prog 8 #[v, .int .i64 n, .int .i64 col] w fun e' w' => e' = .returned (.tuple #[.int .i64 0, .int .i64 2]) ∧ Below w.heap.size w w' := by
  have HL := Aside0.mk hL
  clear hL
  obtain ⟨a1, a2⟩ := ha
  obtain ⟨b1, b2⟩ := hb
  by_cases c0 : col < 0
  · have d0 : decide (col < 0) = true := decide_eq_true c0
    go_enter Tryd.func8, Tryd.ntmps8
    go_wp2_with (go_at_call 7; refine HL.out.mono ?_; rintro e w4 ⟨rfl, hb⟩; have HB := Aside0.mk hb; have hsz := hb.size; clear hb)
    go_ret2
    exact ⟨rfl, by repeat (first | exact HB.out | (refine Below.setCell ?_ (by first | omega | (simp; done) | (simp; omega)) _) | (refine Below.alloc ?_ (by first | omega | (simp; done) | (simp; omega)) _))⟩
  · have d0 : decide (col < 0) = false := decide_eq_false c0
    have d1 : decide (b - a < col) = true := decide_eq_true (by omega)
    go_enter Tryd.func8, Tryd.ntmps8
    go_wp2_with (go_at_call 7; refine HL.out.mono ?_; rintro e w4 ⟨rfl, hb⟩; have HB := Aside0.mk hb; have hsz := hb.size; clear hb)
    go_ret2
    exact ⟨rfl, by repeat (first | exact HB.out | (refine Below.setCell ?_ (by first | omega | (simp; done) | (simp; omega)) _) | (refine Below.alloc ?_ (by first | omega | (simp; done) | (simp; omega)) _))⟩
set_option maxHeartbeats 2000000 in
set_option maxRecDepth 100000 in
theorem Offset_err (v : Value) (n col : Int) (w : World)
    (hL : Calls Tryd.prog 7 #[v, .int .i64 n] w fun e' w' => e' = .returned (.tuple #[.agg #[.int .i64 0, .int .i64 0], .int .i64 2]) ∧ Below w.heap.size w w') :
    Calls Tryd.prog 8 #[v, .int .i64 n, .int .i64 col] w fun e' w' => e' = .returned (.tuple #[.int .i64 0, .int .i64 2]) ∧ Below w.heap.size w w' := by
  have HL := Aside0.mk hL
  clear hL
  go_enter Tryd.func8, Tryd.ntmps8
  go_wp2_with (go_at_call 7; refine HL.out.mono ?_; rintro e w4 ⟨rfl, hb⟩; have HB := Aside0.mk hb; have hsz := hb.size; clear hb)
  go_ret2
  exact ⟨rfl, by repeat (first | exact HB.out | (refine Below.setCell ?_ (by first | omega | (simp; done) | (simp; omega)) _) | (refine Below.alloc ?_ (by first | omega | (simp; done) | (simp; omega)) _))⟩
end Go.Proofs.YtgejmmkfaliinaaDoor.Lines
