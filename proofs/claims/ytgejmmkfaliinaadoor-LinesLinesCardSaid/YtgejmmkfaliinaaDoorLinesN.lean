/- LinesNone, walked. -/
import Derived.Test.YtgejmmkfaliinaaDoorLinesZ
import Derived.Test.YtgejmmkfaliinaaDoorLinesY
namespace Go.Proofs.YtgejmmkfaliinaaDoor.Lines
open Go.RowKit Go.Proofs.YtgejmmkfaliinaaDoorW.PrintWords Go.Proofs.YtgejmmkfaliinaaDoorW.PrintLast Go.Proofs.YtgejmmkfaliinaaDoorW.PrintMore
set_option linter.unusedVariables false
set_option linter.unusedSimpArgs false
set_option maxHeartbeats 2000000 in
set_option maxRecDepth 100000 in
theorem Update_none (x y : Int) (t : ByteArray) (w : World) :
    Calls Tryd.prog 11 #[.pointer none, .int .i64 x, .int .i64 y, .string t] w fun e w' => e = .returned (.tuple #[.pointer none, .int .i64 2]) ∧ Below w.heap.size w w' := by
  go_enter Tryd.func11, Tryd.ntmps11
  go_wp2
  go_ret2
  exact ⟨rfl, Below.refl _ _⟩
set_option maxHeartbeats 2000000 in
set_option maxRecDepth 100000 in
theorem Indent_err (v : Value) (n : Int) (w : World)
    (hL : Calls Tryd.prog 7 #[v, .int .i64 n] w fun e' w' => e' = .returned (.tuple #[.agg #[.int .i64 0, .int .i64 0], .int .i64 2]) ∧ Below w.heap.size w w') :
    Calls Tryd.prog 9 #[v, .int .i64 n] w fun e' w' => e' = .returned (.int .i64 0) ∧ Below w.heap.size w w' := by
  have HL := Aside0.mk hL
  clear hL
  go_enter Tryd.func9, Tryd.ntmps9
  go_wp2_with (go_at_call 7; refine HL.out.mono ?_; rintro e w4 ⟨rfl, hb⟩; have HB := Aside0.mk hb; have hsz := hb.size; clear hb)
  go_ret
  exact ⟨rfl, by repeat (first | exact HB.out | (refine Below.setCell ?_ (by first | omega | (simp; done) | (simp; omega)) _) | (refine Below.alloc ?_ (by first | omega | (simp; done) | (simp; omega)) _))⟩
set_option maxHeartbeats 4000000 in
set_option maxRecDepth 100000 in
theorem LinesNone (n k : Int) (w : World) : Calls Tryd.prog 4 #[.int .i64 n, .int .i64 k] w fun e w' => e = .returned (.bool true) ∧ Below w.heap.size w w' := by
  have HP := Aside0.mk (fun w => Place_none n w)
  have HO := Aside0.mk (fun w => Offset_err (.pointer none) n k w (Line_none n w))
  have HL := Aside0.mk (fun w => Line_none n w)
  have HU := Aside0.mk (fun w => Update_none n k ⟨#[97]⟩ w)
  have HC := Aside0.mk (fun w => Count_none w)
  have HI := Aside0.mk (fun w => Indent_err (.pointer none) n w (Line_none n w))
  have HT := Aside0.mk (fun w => Text_none w)
  have HB := Aside0.mk (Below.refl w.heap.size w)
  go_enter Tryd.func4, Tryd.ntmps4
  go_wp2_with (first | (go_at_call 10; refine (HP.out _).mono ?_; rintro e w3 ⟨rfl, hb3⟩; have hB3 := Aside0.mk (below_step HB.out hb3); clear HB hb3; have HB := hB3; clear hB3) | (go_at_call 8; refine (HO.out _).mono ?_; rintro e w3 ⟨rfl, hb3⟩; have hB3 := Aside0.mk (below_step HB.out hb3); clear HB hb3; have HB := hB3; clear hB3) | (go_at_call 7; refine (HL.out _).mono ?_; rintro e w3 ⟨rfl, hb3⟩; have hB3 := Aside0.mk ((below_step HB.out hb3).alloc (below_step HB.out hb3).size (.cells #[.int .i64 0, .int .i64 0] 26)); clear HB hb3; have HB := hB3; clear hB3) | (go_at_call 11; refine (HU.out _).mono ?_; rintro e w3 ⟨rfl, hb3⟩; have hB3 := Aside0.mk (below_step HB.out hb3); clear HB hb3; have HB := hB3; clear hB3) | (go_at_call 12; refine (HC.out _).mono ?_; rintro e w3 ⟨rfl, hb3⟩; have hB3 := Aside0.mk (below_step HB.out hb3); clear HB hb3; have HB := hB3; clear hB3) | (go_at_call 9; refine (HI.out _).mono ?_; rintro e w3 ⟨rfl, hb3⟩; have hB3 := Aside0.mk (below_step HB.out hb3); clear HB hb3; have HB := hB3; clear hB3) | (go_at_call 13; refine (HT.out _).mono ?_; rintro e w3 ⟨rfl, hb3⟩; have hB3 := Aside0.mk (below_step HB.out hb3); clear HB hb3; have HB := hB3; clear hB3) | (go_at_call 5; refine (awake _).mono ?_; rintro e w3 ⟨rfl, hb3⟩; have hB3 := Aside0.mk (below_step HB.out hb3); clear HB hb3; have HB := hB3; clear hB3))
  go_ret
  exact ⟨rfl, HB.out⟩
end Go.Proofs.YtgejmmkfaliinaaDoor.Lines
