/- A buffer's text, some bytes of it, a byte. -/
import Derived.Test.YtpghnadlekafpaaBuf2
namespace Go.Proofs.Ytpghnadlekafpaa.PBuf
open Go.RowKit Go.Proofs.YtpghnadlekafpaaW.PrintWords Go.Proofs.YtpghnadlekafpaaW.PrintLast Go.Proofs.YtpghnadlekafpaaW.PrintMore
set_option linter.unusedVariables false
set_option linter.unusedSimpArgs false
abbrev tb (P : List Pc) : ByteArray := ⟨(tx P).toArray⟩
theorem tb_size (P : List Pc) : (tb P).size = (tx P).length := by simp [ByteArray.size]
set_option maxHeartbeats 2000000 in
set_option maxRecDepth 100000 in
theorem Text {w : World} {base g : Nat} {Vp Vf Vl : Value} {n : Int} {P : List Pc} {past fut : List St} (hB : Bf w base g Vp Vf Vl n P past fut) (hl : P.length ≤ 4398046511104) (hs : (tx P).length ≤ 140737488355328) : Calls Try.prog 16 #[.pointer (some ⟨g, 0, none⟩)] w fun e w' => e = .returned (.string (tb P)) ∧ Below w.heap.size w w' := by
  have c3 : w.cell? ⟨g, 2, none⟩ = some Vl := (blk_cell hB.c 2).trans rfl
  obtain ⟨A, c, rfl, hlc, hC⟩ := R_reads0 hB.l
  have HJ := Aside0.mk (join A c P w hC hl hs)
  clear hB hlc hC hl hs
  go_enter Try.func16, Try.ntmps16
  go_wp2_with (go_at_call 32; refine HJ.out.mono ?_; rintro e w1 ⟨rfl, hb⟩; have HB := Aside0.mk hb; clear hb)
  go_ret
  exact ⟨rfl, HB.out⟩
set_option maxHeartbeats 2000000 in
set_option maxRecDepth 100000 in
theorem within (v : Value) (n x y : Int) (w : World) (hL : Calls Try.prog 13 #[v] w fun e w' => e = .returned (.int .i64 n) ∧ Below w.heap.size w w') : Calls Try.prog 33 #[v, .int .i64 x, .int .i64 y] w fun e w' => e = .returned (.bool (decide (0 ≤ x ∧ x ≤ y ∧ y ≤ n))) ∧ Below w.heap.size w w' := by
  have HL := Aside0.mk hL
  have HB0 := Aside0.mk (Below.refl w.heap.size w)
  clear hL
  by_cases c1 : 0 ≤ x
  · have d1 : decide (x ≥ 0) = true := decide_eq_true c1
    by_cases c2 : x ≤ y
    · have d2 : decide (x ≤ y) = true := decide_eq_true c2
      by_cases c3 : y ≤ n
      · have d3 : decide (y ≤ n) = true := decide_eq_true c3
        have E := Aside0.mk (decide_eq_true (show 0 ≤ x ∧ x ≤ y ∧ y ≤ n from ⟨c1, c2, c3⟩))
        clear c1 c2 c3
        go_enter Try.func33, Try.ntmps33
        go_wp2_with (go_at_call 13; refine HL.out.mono ?_; rintro e w1 ⟨rfl, hb⟩; have HB := Aside0.mk hb; clear hb)
        go_ret
        exact ⟨by rw [E.out]; rfl, HB.out⟩
      · have d3 : decide (y ≤ n) = false := decide_eq_false c3
        have E := Aside0.mk (decide_eq_false (show ¬ (0 ≤ x ∧ x ≤ y ∧ y ≤ n) from fun h => c3 h.2.2))
        clear c1 c2 c3
        go_enter Try.func33, Try.ntmps33
        go_wp2_with (go_at_call 13; refine HL.out.mono ?_; rintro e w1 ⟨rfl, hb⟩; have HB := Aside0.mk hb; clear hb)
        go_ret
        exact ⟨by rw [E.out]; rfl, HB.out⟩
    · have d2 : decide (x ≤ y) = false := decide_eq_false c2
      have E := Aside0.mk (decide_eq_false (show ¬ (0 ≤ x ∧ x ≤ y ∧ y ≤ n) from fun h => c2 h.2.1))
      clear c1 c2
      go_enter Try.func33, Try.ntmps33
      go_wp2
      go_ret
      exact ⟨by rw [E.out]; rfl, HB0.out⟩
  · have d1 : decide (x ≥ 0) = false := decide_eq_false c1
    have E := Aside0.mk (decide_eq_false (show ¬ (0 ≤ x ∧ x ≤ y ∧ y ≤ n) from fun h => c1 h.1))
    clear c1
    go_enter Try.func33, Try.ntmps33
    go_wp2
    go_ret
    exact ⟨by rw [E.out]; rfl, HB0.out⟩
set_option maxHeartbeats 2000000 in
set_option maxRecDepth 100000 in
theorem Slice_no (v : Value) (n x y : Int) (w : World) (hL : Calls Try.prog 13 #[v] w fun e w' => e = .returned (.int .i64 n) ∧ Below w.heap.size w w') (h : ¬ (0 ≤ x ∧ x ≤ y ∧ y ≤ n)) : Calls Try.prog 18 #[v, .int .i64 x, .int .i64 y] w fun e w' => e = .returned (.tuple #[.string ⟨#[]⟩, .int .i64 2]) ∧ Below w.heap.size w w' := by
  have HW := Aside0.mk (within v n x y w hL)
  have E := decide_eq_false h
  rw [E] at HW
  clear hL h E
  go_enter Try.func18, Try.ntmps18
  go_wp2_with (go_at_call 33; refine HW.out.mono ?_; rintro e w1 ⟨rfl, hb⟩; have HB := Aside0.mk hb; clear hb)
  go_ret2
  exact ⟨rfl, HB.out⟩
set_option maxHeartbeats 2000000 in
set_option maxRecDepth 100000 in
theorem Slice_yes (v : Value) (n x y : Int) (s : ByteArray) (w : World) (hL : Calls Try.prog 13 #[v] w fun e w' => e = .returned (.int .i64 n) ∧ Below w.heap.size w w') (hT : ∀ w1, Below w.heap.size w w1 → Calls Try.prog 16 #[v] w1 fun e w' => e = .returned (.string s) ∧ Below w1.heap.size w1 w') (hn : n = (s.size : Int)) (h : 0 ≤ x ∧ x ≤ y ∧ y ≤ n) : Calls Try.prog 18 #[v, .int .i64 x, .int .i64 y] w fun e w' => e = .returned (.tuple #[.string (s.extract x.toNat y.toNat), .int .i64 0]) ∧ Below w.heap.size w w' := by
  have HW := Aside0.mk (within v n x y w hL)
  have E := decide_eq_true h
  rw [E] at HW
  have HT := Aside0.mk hT
  rw [hn] at h
  obtain ⟨h1, h2, h3⟩ := h
  have g0 := eq_true h1
  have g1 := eq_true h2
  have g2 := eq_true h3
  have d0 : decide (0 ≤ x) = true := decide_eq_true h1
  have d1 : decide (x ≤ y) = true := decide_eq_true h2
  have d2 : decide (y ≤ (s.size : Int)) = true := decide_eq_true h3
  clear hL E hT hn h1 h2 h3
  go_enter Try.func18, Try.ntmps18
  go_wp2_with (first | (go_at_call 33; refine HW.out.mono ?_; rintro e w1 ⟨rfl, hb⟩; have HB := Aside0.mk hb; clear hb HW) | (go_at_call 16; refine (HT.out _ HB.out).mono ?_; rintro e w2 ⟨rfl, hb⟩; have HB2 := Aside0.mk (below_step HB.out hb); clear hb HT HB))
  go_ret2
  exact ⟨rfl, HB2.out⟩
end Go.Proofs.Ytpghnadlekafpaa.PBuf
