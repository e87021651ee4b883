/- BufNone, walked. -/
import Derived.Test.YtpghnadlekafpaaBufJ
namespace Go.Proofs.Ytpghnadlekafpaa.PBuf
open Go.RowKit Go.Proofs.YtpghnadlekafpaaW.PrintWords Go.Proofs.YtpghnadlekafpaaW.PrintLast Go.Proofs.YtpghnadlekafpaaW.PrintMore
set_option linter.unusedVariables false
set_option linter.unusedSimpArgs false
theorem nil_yes (w : World) : Calls Try.prog 18 #[.pointer none, .int .i64 0, .int .i64 0] w fun e w' => e = .returned (.tuple #[.string ⟨#[]⟩, .int .i64 0]) ∧ Below w.heap.size w w' :=
  Slice_yes (.pointer none) 0 0 0 ⟨#[]⟩ w (Len_none w) (fun w1 _ => Text_none w1) rfl (by decide)
theorem nil_no (x y : Int) (h : ¬ (x = 0 ∧ y = 0)) (w : World) : Calls Try.prog 18 #[.pointer none, .int .i64 x, .int .i64 y] w fun e w' => e = .returned (.tuple #[.string ⟨#[]⟩, .int .i64 2]) ∧ Below w.heap.size w w' :=
  Slice_no (.pointer none) 0 x y w (Len_none w) (by omega)
theorem nil_at (x : Int) (w : World) : Calls Try.prog 19 #[.pointer none, .int .i64 x] w fun e w' => e = .returned (.tuple #[.int .u8 0, .bool false]) ∧ Below w.heap.size w w' := At_no (.pointer none) 0 x w (Len_none w) (by omega)
set_option maxHeartbeats 4000000 in
set_option maxRecDepth 100000 in
theorem BufNone (x y : Int) (t : ByteArray) (w : World) : Calls Try.prog 7 #[.int .i64 x, .int .i64 y, .string t] w fun e w' => e = .returned (.bool true) ∧ Below w.heap.size w w' := by
  have HB := Aside0.mk (Below.refl w.heap.size w)
  by_cases c1 : (t.size : Int) > 100
  · have d1 : decide ((t.size : Int) > 100) = true := decide_eq_true c1
    have d1b : decide (100 < (t.size : Int)) = true := d1
    clear c1
    go_enter Try.func7, Try.ntmps7
    go_wp2_with (go_at_call 8; refine (awake _).mono ?_; rintro e w3 ⟨rfl, hb3⟩; have hB3 := Aside0.mk (below_step HB.out hb3); clear HB hb3; have HB := hB3; clear hB3)
    go_ret
    exact ⟨rfl, HB.out⟩
  · have d1 : decide ((t.size : Int) > 100) = false := decide_eq_false c1
    have d1b : decide (100 < (t.size : Int)) = false := d1
    clear c1
    by_cases c2 : x = 0
    · subst c2
      by_cases c3 : y = 0
      · subst c3
        have HSL := Aside0.mk nil_yes
        go_enter Try.func7, Try.ntmps7
        go_wp2_with (first | (go_at_call 18; refine (HSL.out _).mono ?_; rintro e w3 ⟨rfl, hb3⟩; have hB3 := Aside0.mk (below_step HB.out hb3); clear HB hb3; have HB := hB3; clear hB3) | (go_at_call 19; refine (nil_at _ _).mono ?_; rintro e w3 ⟨rfl, hb3⟩; have hB3 := Aside0.mk (below_step HB.out hb3); clear HB hb3; have HB := hB3; clear hB3) | (go_at_call 12; refine (Undo_none _).mono ?_; rintro e w3 ⟨rfl, hb3⟩; have hB3 := Aside0.mk (below_step HB.out hb3); clear HB hb3; have HB := hB3; clear hB3) | (go_at_call 22; refine (Redo_none _).mono ?_; rintro e w3 ⟨rfl, hb3⟩; have hB3 := Aside0.mk (below_step HB.out hb3); clear HB hb3; have HB := hB3; clear hB3) | (go_at_call 10; refine (Splice_none _ _ _ _).mono ?_; rintro e w3 ⟨z, rfl, rfl, hb3⟩; have hB3 := Aside0.mk (below_step HB.out hb3); clear HB hb3; have HB := hB3; clear hB3) | (go_at_call 15; refine (Apply_none _ _).mono ?_; rintro e w3 ⟨rfl, hb3⟩; have hB3 := Aside0.mk (below_step HB.out hb3); clear HB hb3; have HB := hB3; clear hB3) | (go_at_call 13; refine (Len_none _).mono ?_; rintro e w3 ⟨rfl, hb3⟩; have hB3 := Aside0.mk (below_step HB.out hb3); clear HB hb3; have HB := hB3; clear hB3) | (go_at_call 16; refine (Text_none _).mono ?_; rintro e w3 ⟨rfl, hb3⟩; have hB3 := Aside0.mk (below_step HB.out hb3); clear HB hb3; have HB := hB3; clear hB3) | (go_at_call 11; refine (Past_none _).mono ?_; rintro e w3 ⟨rfl, hb3⟩; have hB3 := Aside0.mk (below_step HB.out hb3); clear HB hb3; have HB := hB3; clear hB3) | (go_at_call 17; refine (Future_none _).mono ?_; rintro e w3 ⟨rfl, hb3⟩; have hB3 := Aside0.mk (below_step HB.out hb3); clear HB hb3; have HB := hB3; clear hB3) | (go_at_call 23; refine (Pieces_none _).mono ?_; rintro e w3 ⟨rfl, hb3⟩; have hB3 := Aside0.mk (below_step HB.out hb3); clear HB hb3; have HB := hB3; clear hB3) | (go_at_call 8; refine (awake _).mono ?_; rintro e w3 ⟨rfl, hb3⟩; have hB3 := Aside0.mk (below_step HB.out hb3); clear HB hb3; have HB := hB3; clear hB3))
        all_goals go_ret
        all_goals exact ⟨rfl, HB.out⟩

      · have HSL := Aside0.mk (nil_no 0 y (fun h => c3 h.2))
        have e3 : (y == 0) = false := beq_eq_false_iff_ne.2 c3
        clear c3
        go_enter Try.func7, Try.ntmps7
        go_wp2_with (first | (go_at_call 18; refine (HSL.out _).mono ?_; rintro e w3 ⟨rfl, hb3⟩; have hB3 := Aside0.mk (below_step HB.out hb3); clear HB hb3; have HB := hB3; clear hB3) | (go_at_call 19; refine (nil_at _ _).mono ?_; rintro e w3 ⟨rfl, hb3⟩; have hB3 := Aside0.mk (below_step HB.out hb3); clear HB hb3; have HB := hB3; clear hB3) | (go_at_call 12; refine (Undo_none _).mono ?_; rintro e w3 ⟨rfl, hb3⟩; have hB3 := Aside0.mk (below_step HB.out hb3); clear HB hb3; have HB := hB3; clear hB3) | (go_at_call 22; refine (Redo_none _).mono ?_; rintro e w3 ⟨rfl, hb3⟩; have hB3 := Aside0.mk (below_step HB.out hb3); clear HB hb3; have HB := hB3; clear hB3) | (go_at_call 10; refine (Splice_none _ _ _ _).mono ?_; rintro e w3 ⟨z, rfl, rfl, hb3⟩; have hB3 := Aside0.mk (below_step HB.out hb3); clear HB hb3; have HB := hB3; clear hB3) | (go_at_call 15; refine (Apply_none _ _).mono ?_; rintro e w3 ⟨rfl, hb3⟩; have hB3 := Aside0.mk (below_step HB.out hb3); clear HB hb3; have HB := hB3; clear hB3) | (go_at_call 13; refine (Len_none _).mono ?_; rintro e w3 ⟨rfl, hb3⟩; have hB3 := Aside0.mk (below_step HB.out hb3); clear HB hb3; have HB := hB3; clear hB3) | (go_at_call 16; refine (Text_none _).mono ?_; rintro e w3 ⟨rfl, hb3⟩; have hB3 := Aside0.mk (below_step HB.out hb3); clear HB hb3; have HB := hB3; clear hB3) | (go_at_call 11; refine (Past_none _).mono ?_; rintro e w3 ⟨rfl, hb3⟩; have hB3 := Aside0.mk (below_step HB.out hb3); clear HB hb3; have HB := hB3; clear hB3) | (go_at_call 17; refine (Future_none _).mono ?_; rintro e w3 ⟨rfl, hb3⟩; have hB3 := Aside0.mk (below_step HB.out hb3); clear HB hb3; have HB := hB3; clear hB3) | (go_at_call 23; refine (Pieces_none _).mono ?_; rintro e w3 ⟨rfl, hb3⟩; have hB3 := Aside0.mk (below_step HB.out hb3); clear HB hb3; have HB := hB3; clear hB3) | (go_at_call 8; refine (awake _).mono ?_; rintro e w3 ⟨rfl, hb3⟩; have hB3 := Aside0.mk (below_step HB.out hb3); clear HB hb3; have HB := hB3; clear hB3))
        all_goals go_ret
        all_goals exact ⟨rfl, HB.out⟩

    · have HSL := Aside0.mk (nil_no x y (fun h => c2 h.1))
      have e2 : (x == 0) = false := beq_eq_false_iff_ne.2 c2
      clear c2
      go_enter Try.func7, Try.ntmps7
      go_wp2_with (first | (go_at_call 18; refine (HSL.out _).mono ?_; rintro e w3 ⟨rfl, hb3⟩; have hB3 := Aside0.mk (below_step HB.out hb3); clear HB hb3; have HB := hB3; clear hB3) | (go_at_call 19; refine (nil_at _ _).mono ?_; rintro e w3 ⟨rfl, hb3⟩; have hB3 := Aside0.mk (below_step HB.out hb3); clear HB hb3; have HB := hB3; clear hB3) | (go_at_call 12; refine (Undo_none _).mono ?_; rintro e w3 ⟨rfl, hb3⟩; have hB3 := Aside0.mk (below_step HB.out hb3); clear HB hb3; have HB := hB3; clear hB3) | (go_at_call 22; refine (Redo_none _).mono ?_; rintro e w3 ⟨rfl, hb3⟩; have hB3 := Aside0.mk (below_step HB.out hb3); clear HB hb3; have HB := hB3; clear hB3) | (go_at_call 10; refine (Splice_none _ _ _ _).mono ?_; rintro e w3 ⟨z, rfl, rfl, hb3⟩; have hB3 := Aside0.mk (below_step HB.out hb3); clear HB hb3; have HB := hB3; clear hB3) | (go_at_call 15; refine (Apply_none _ _).mono ?_; rintro e w3 ⟨rfl, hb3⟩; have hB3 := Aside0.mk (below_step HB.out hb3); clear HB hb3; have HB := hB3; clear hB3) | (go_at_call 13; refine (Len_none _).mono ?_; rintro e w3 ⟨rfl, hb3⟩; have hB3 := Aside0.mk (below_step HB.out hb3); clear HB hb3; have HB := hB3; clear hB3) | (go_at_call 16; refine (Text_none _).mono ?_; rintro e w3 ⟨rfl, hb3⟩; have hB3 := Aside0.mk (below_step HB.out hb3); clear HB hb3; have HB := hB3; clear hB3) | (go_at_call 11; refine (Past_none _).mono ?_; rintro e w3 ⟨rfl, hb3⟩; have hB3 := Aside0.mk (below_step HB.out hb3); clear HB hb3; have HB := hB3; clear hB3) | (go_at_call 17; refine (Future_none _).mono ?_; rintro e w3 ⟨rfl, hb3⟩; have hB3 := Aside0.mk (below_step HB.out hb3); clear HB hb3; have HB := hB3; clear hB3) | (go_at_call 23; refine (Pieces_none _).mono ?_; rintro e w3 ⟨rfl, hb3⟩; have hB3 := Aside0.mk (below_step HB.out hb3); clear HB hb3; have HB := hB3; clear hB3) | (go_at_call 8; refine (awake _).mono ?_; rintro e w3 ⟨rfl, hb3⟩; have hB3 := Aside0.mk (below_step HB.out hb3); clear HB hb3; have HB := hB3; clear hB3))
      all_goals go_ret
      all_goals exact ⟨rfl, HB.out⟩

end Go.Proofs.Ytpghnadlekafpaa.PBuf
