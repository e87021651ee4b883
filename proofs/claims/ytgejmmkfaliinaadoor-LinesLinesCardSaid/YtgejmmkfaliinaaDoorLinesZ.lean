/- The document's example, walked. -/
import Derived.Test.YtgejmmkfaliinaaDoorLinesP
import Derived.Test.YtgejmmkfaliinaaDoorLinesY
namespace Go.Proofs.YtgejmmkfaliinaaDoor.Lines
open Go.RowKit Go.Proofs.YtgejmmkfaliinaaDoorW.PrintWords Go.Proofs.YtgejmmkfaliinaaDoorW.PrintLast Go.Proofs.YtgejmmkfaliinaaDoorW.PrintMore
set_option linter.unusedVariables false
set_option linter.unusedSimpArgs false
theorem beg_ex : beg ⟨#[97, 98, 10, 99]⟩ = [0, 3] := by kernel_rfl
set_option maxHeartbeats 2000000 in
set_option maxRecDepth 100000 in
/-- The document's example. -/
theorem awake (w : World) : Calls Tryd.prog 5 #[] w fun e w' => e = .returned (.bool true) ∧ Below w.heap.size w w' := by
  have hP : ∀ (g : Nat) (w : World), Ix w g ⟨#[97, 98, 10, 99]⟩ [0, 3] → Calls Tryd.prog 10 #[.pointer (some ⟨g, 0, none⟩), .int .i64 3] w fun e w' => e = .returned (.tuple #[.int .i64 1, .int .i64 0, .int .i64 0]) ∧ Below w.heap.size w w' := by
    intro g w hI
    refine (Place g _ _ 3 w hI ⟨by decide, ?_, rfl, ?_, by decide⟩ (by decide) (by decide) (by decide)).mono ?_
    · intro a b hab hb
      have : b = 0 ∨ b = 1 := by simp at hb; omega
      rcases this with rfl | rfl
      · obtain rfl : a = 0 := by omega
        exact Int.le_refl _
      · have : a = 0 ∨ a = 1 := by omega
        rcases this with rfl | rfl <;> decide
    · intro i hi
      have : i = 0 ∨ i = 1 := by simp at hi; omega
      rcases this with rfl | rfl <;> decide
    · rintro e w' ⟨n, rfl, n1, n2, n3, hb⟩
      have : n = 0 ∨ n = 1 := by simp at n1; omega
      rcases this with rfl | rfl
      · exact absurd (n3 1 (by decide) (by decide)) (by decide)
      · exact ⟨rfl, hb⟩
  have HP := Aside0.mk hP
  clear hP
  go_enter Tryd.func5, Tryd.ntmps5
  go_wp2_with (first | (go_at_call 6; refine (New _ (by decide) _).mono ?_; rintro e w2 ⟨g, rfl, hg, hI, hb⟩; rw [beg_ex] at hI; have HI := Aside0.mk hI; have HB := Aside0.mk hb; clear hI hb hg) | (go_at_call 10; refine (HP.out g _ HI.out).mono ?_; rintro e w3 ⟨rfl, hb3⟩; have hI3 := Aside0.mk (HI.out.below hb3); have hB3 := Aside0.mk (below_step HB.out hb3); clear HI HB hb3; have HI := hI3; have HB := hB3; clear hI3 hB3) | (go_at_call 12; refine (Count g _ _ _ HI.out).mono ?_; rintro e w3 ⟨rfl, hb3⟩; have hI3 := Aside0.mk (HI.out.below hb3); have hB3 := Aside0.mk (below_step HB.out hb3); clear HI HB hb3; have HI := hI3; have HB := hB3; clear hI3 hB3))
  go_ret
  exact ⟨rfl, HB.out⟩
end Go.Proofs.YtgejmmkfaliinaaDoor.Lines
