/- LinesUpdates, walked. -/
import Derived.Test.YtgejmmkfaliinaaLinesQ
namespace Go.Proofs.Ytgejmmkfaliinaa.Lines
open Go.RowKit Go.Proofs.YtgejmmkfaliinaaW.PrintWords Go.Proofs.YtgejmmkfaliinaaW.PrintLast Go.Proofs.YtgejmmkfaliinaaW.PrintMore Go.Proofs.Ytgejmmkfaliinaa.PLines
set_option linter.unusedVariables false
set_option linter.unusedSimpArgs false
set_option maxHeartbeats 2000000 in
set_option maxRecDepth 100000 in
theorem Update_none (x y : Int) (t : ByteArray) (w : World) :
    Calls Try.prog 16 #[.pointer none, .int .i64 x, .int .i64 y, .string t] w fun e w' => e = .returned (.tuple #[.pointer none, .int .i64 2]) ∧ Below w.heap.size w w' := by
  go_enter Try.func16, Try.ntmps16
  go_wp2
  go_ret2
  exact ⟨rfl, Below.refl _ _⟩
set_option maxHeartbeats 2000000 in
set_option maxRecDepth 100000 in
theorem Update_out (g : Nat) (s t : ByteArray) (z : List Int) (x y : Int) (w : World) (hI : Ix w g s z) (h : x < 0 ∨ y < x ∨ (s.size : Int) < y) :
    Calls Try.prog 16 #[.pointer (some ⟨g, 0, none⟩), .int .i64 x, .int .i64 y, .string t] w fun e w' => e = .returned (.tuple #[.pointer none, .int .i64 2]) ∧ Below w.heap.size w w' := by
  obtain ⟨r, c, i1, i2, i3, i4, i5⟩ := hI
  clear i5
  by_cases c0 : x < 0
  · have d0 : decide (x < 0) = true := decide_eq_true c0
    go_enter Try.func16, Try.ntmps16
    go_wp2
    go_ret2
    exact ⟨rfl, Below.refl _ _⟩
  · have d0 : decide (x < 0) = false := decide_eq_false c0
    by_cases c1 : y < x
    · have d1 : decide (y < x) = true := decide_eq_true c1
      go_enter Try.func16, Try.ntmps16
      go_wp2
      go_ret2
      exact ⟨rfl, Below.refl _ _⟩
    · have d1 : decide (y < x) = false := decide_eq_false c1
      have d2 : decide ((s.size : Int) < y) = true := decide_eq_true (by omega)
      go_enter Try.func16, Try.ntmps16
      go_wp2
      go_ret2
      exact ⟨rfl, Below.refl _ _⟩
/-- Two boxes for what two calls handed back. -/
theorem two_boxes {w6 W7 w7 : World} (p q : Value) (hW : W7 = w6.alloc (.cells #[p, q] 38)) (hb : Below W7.heap.size W7 w7) :
    (w7.alloc (.cells #[p, q] 38)).cell? ⟨w6.heap.size, 0, none⟩ = some p ∧ (w7.alloc (.cells #[p, q] 38)).cell? ⟨w6.heap.size, 1, none⟩ = some q ∧
    (w7.alloc (.cells #[p, q] 38)).cell? ⟨w7.heap.size, 0, none⟩ = some p ∧ (w7.alloc (.cells #[p, q] 38)).cell? ⟨w7.heap.size, 1, none⟩ = some q ∧
    Below w6.heap.size w6 (w7.alloc (.cells #[p, q] 38)) := by
  have ha := heap_alloc_new w6 (.cells #[p, q] 38)
  have a0 := Go.Lib.cell_of_heap ha 0
  have a1 := Go.Lib.cell_of_heap ha 1
  rw [← hW] at a0 a1
  have hc := heap_alloc_new w7 (.cells #[p, q] 38)
  have h6 : Below w6.heap.size w6 W7 := by rw [hW]; exact (Below.refl _ w6).alloc (Nat.le_refl _) _
  have h7 : Below w7.heap.size w7 (w7.alloc (.cells #[p, q] 38)) := (Below.refl _ w7).alloc (Nat.le_refl _) _
  have b0 := (hb.cell (World.block_lt_of_cell? _ _ a0)).trans a0
  have b1 := (hb.cell (World.block_lt_of_cell? _ _ a1)).trans a1
  exact ⟨(h7.cell (World.block_lt_of_cell? _ _ b0)).trans b0, (h7.cell (World.block_lt_of_cell? _ _ b1)).trans b1, Go.Lib.cell_of_heap hc 0, Go.Lib.cell_of_heap hc 1, (h6.trans (hb.mono h6.size)).trans (h7.mono (Nat.le_trans h6.size hb.size))⟩
set_option maxHeartbeats 4000000 in
set_option maxRecDepth 100000 in
theorem LinesUpdates (s : ByteArray) (x y : Int) (t : ByteArray) (w : World) : Calls Try.prog 4 #[.string s, .int .i64 x, .int .i64 y, .string t] w fun e w' => e = .returned (.bool true) ∧ Below w.heap.size w w' := by
  by_cases c00 : (s.size : Int) > 2000
  · have d0 : decide ((2000 : Int) < (s.size : Int)) = true := decide_eq_true c00
    go_enter Try.func4, Try.ntmps4
    go_wp2_with (go_at_call 9; refine (awake _).mono ?_; rintro e w2 ⟨rfl, hb⟩)
    go_ret
    exact ⟨rfl, hb⟩
  have e0 : decide ((2000 : Int) < (s.size : Int)) = false := decide_eq_false c00
  by_cases c01 : (t.size : Int) > 300
  · have d0 : decide ((300 : Int) < (t.size : Int)) = true := decide_eq_true c01
    go_enter Try.func4, Try.ntmps4
    go_wp2_with (go_at_call 9; refine (awake _).mono ?_; rintro e w2 ⟨rfl, hb⟩)
    go_ret
    exact ⟨rfl, hb⟩
  have e1 : decide ((300 : Int) < (t.size : Int)) = false := decide_eq_false c01
  have HNew := Aside0.mk (fun w => New s (by omega) w)
  by_cases c0 : x < 0 ∨ y < x ∨ (s.size : Int) < y
  · have HU := Aside0.mk (fun g w (hI : Ix w g s (beg s)) => Update_out g s t _ x y w hI c0)
    by_cases c1 : x < 0
    · have d1 : decide (x < 0) = true := decide_eq_true c1

      clear c0 c00 c01
      go_enter Try.func4, Try.ntmps4
      go_wp2_with (first | (go_at_call 10; refine (HNew.out _).mono ?_; clear HNew; rintro e w2 ⟨g, rfl, hg, hI, hb⟩; have HI := Aside0.mk hI; have HB := Aside0.mk hb; clear hI hb hg) | (go_at_call 16; refine (HU.out g _ HI.out).mono ?_; rintro e w3 ⟨rfl, hb3⟩; have hHI3 := Aside0.mk (HI.out.below hb3); have hB3 := Aside0.mk (below_step HB.out hb3); clear HB hb3 HI; have HI := hHI3; have HB := hB3; clear hB3 hHI3) | (go_at_call 9; refine (awake _).mono ?_; rintro e w3 ⟨rfl, hb3⟩; have hB3 := Aside0.mk (below_step HB.out hb3); clear HB hb3; have HB := hB3; clear hB3))
      go_ret
      exact ⟨rfl, HB.out⟩

    · have d1 : decide (x < 0) = false := decide_eq_false c1
      by_cases c2 : y < x
      · have d2 : decide (y < x) = true := decide_eq_true c2

        clear c0 c00 c01
        go_enter Try.func4, Try.ntmps4
        go_wp2_with (first | (go_at_call 10; refine (HNew.out _).mono ?_; clear HNew; rintro e w2 ⟨g, rfl, hg, hI, hb⟩; have HI := Aside0.mk hI; have HB := Aside0.mk hb; clear hI hb hg) | (go_at_call 16; refine (HU.out g _ HI.out).mono ?_; rintro e w3 ⟨rfl, hb3⟩; have hHI3 := Aside0.mk (HI.out.below hb3); have hB3 := Aside0.mk (below_step HB.out hb3); clear HB hb3 HI; have HI := hHI3; have HB := hB3; clear hB3 hHI3) | (go_at_call 9; refine (awake _).mono ?_; rintro e w3 ⟨rfl, hb3⟩; have hB3 := Aside0.mk (below_step HB.out hb3); clear HB hb3; have HB := hB3; clear hB3))
        go_ret
        exact ⟨rfl, HB.out⟩

      · have d2 : decide (y < x) = false := decide_eq_false c2
        have d3 : decide ((s.size : Int) < y) = true := decide_eq_true (by omega)

        clear c0 c00 c01
        go_enter Try.func4, Try.ntmps4
        go_wp2_with (first | (go_at_call 10; refine (HNew.out _).mono ?_; clear HNew; rintro e w2 ⟨g, rfl, hg, hI, hb⟩; have HI := Aside0.mk hI; have HB := Aside0.mk hb; clear hI hb hg) | (go_at_call 16; refine (HU.out g _ HI.out).mono ?_; rintro e w3 ⟨rfl, hb3⟩; have hHI3 := Aside0.mk (HI.out.below hb3); have hB3 := Aside0.mk (below_step HB.out hb3); clear HB hb3 HI; have HI := hHI3; have HB := hB3; clear hB3 hHI3) | (go_at_call 9; refine (awake _).mono ?_; rintro e w3 ⟨rfl, hb3⟩; have hB3 := Aside0.mk (below_step HB.out hb3); clear HB hb3; have HB := hB3; clear hB3))
        go_ret
        exact ⟨rfl, HB.out⟩

  · obtain ⟨a, ha⟩ : ∃ a : Nat, a = x.toNat := ⟨_, rfl⟩
    obtain ⟨b, hbb⟩ : ∃ b : Nat, b = y.toNat := ⟨_, rfl⟩
    have hax : (a : Int) = x := by omega
    have hby : (b : Int) = y := by omega
    have hs : s.size ≤ 2000 := by omega
    have ht : t.size ≤ 300 := by omega
    have hab : a ≤ b := by omega
    have hb : b ≤ s.size := by omega
    obtain ⟨s', hs'⟩ : ∃ s', s' = s.extract 0 a ++ t ++ s.extract b s.size := ⟨_, rfl⟩
    have hn : s'.size ≤ 2300 := by
      rw [hs', ByteArray.size_append, ByteArray.size_append, ByteArray.size_extract, ByteArray.size_extract]
      omega
    have HU := Aside0.mk (fun g w (hI : Ix w g s (beg s)) => Update g s t a b w hI hs ht hab hb)
    rw [upd_eq s t a b hs ht hab hb, ← hs'] at HU
    simp only [hax, hby] at HU
    obtain ⟨z, hz⟩ : ∃ z, z = beg s' := ⟨_, rfl⟩
    have hgood := good_beg s' (by omega)
    rw [← hz] at HU hgood
    have HNew2 := Aside0.mk (fun w => New s' (by omega) w)
    rw [← hz] at HNew2
    have HT := Aside0.mk (fun g w (hI : Ix w g s (beg s)) => Text g s _ w hI)
    have HT2 := Aside0.mk (fun g w (hI : Ix w g s' z) => Text g s' _ w hI)
    have HC := Aside0.mk (fun g w (hI : Ix w g s' z) => Count g s' _ w hI)
    have HLine := Aside0.mk (fun g w (n : Nat) (hn2 : n < z.length) (hI : Ix w g s' z) => Line g s' z n w hI hgood (by omega) hn2)
    have hzl := hgood.len
    rw [ha, hbb] at hs'
    have q0 : ((0 : Int) ≤ x) = True := eq_true (by omega)
    have q1 : (x ≤ (s.size : Int)) = True := eq_true (by omega)
    have q2 : ((0 : Int) ≤ y) = True := eq_true (by omega)
    have q3 : (y ≤ (s.size : Int)) = True := eq_true (by omega)
    have g1 : (9223372036854775807 < x.toNat + t.size) = False := eq_false (by omega)
    have g2 : (9223372036854775807 < x.toNat + t.size + (s.size - y.toNat)) = False := eq_false (by omega)
    have d1 : decide (x < 0) = false := decide_eq_false (by omega)
    have d2 : decide (y < x) = false := decide_eq_false (by omega)
    have d3 : decide ((s.size : Int) < y) = false := decide_eq_false (by omega)
    have HS := Aside0.mk hs'
    clear c0 c00 c01 hs ht hab hb hn hz hs' hgood hax hby ha hbb
    go_enter Try.func4, Try.ntmps4
    go_wp2_with (first | (go_at_call 10; refine (HNew.out _).mono ?_; clear HNew; rintro e w2 ⟨g, rfl, hg, hI, hb⟩; have HI := Aside0.mk hI; have HB := Aside0.mk hb; clear hI hb hg) | (go_at_call 16; refine (HU.out g _ HI.out).mono ?_; rintro e w3 ⟨g', rfl, hI', hb3⟩; have HI' := Aside0.mk hI'; clear hI'; have hHI3 := Aside0.mk (HI.out.below hb3); have hB3 := Aside0.mk (below_step HB.out hb3); clear HB hb3 HI; have HI := hHI3; have HB := hB3; clear hB3 hHI3))
    obtain ⟨w2, hw2⟩ : ∃ w2 : World, w2 = w3.drew := ⟨_, rfl⟩
    have hb3 := below_drew (Below.refl w3.heap.size w3)
    rw [← hw2] at hb3
    have hHI3 := Aside0.mk (HI.out.below hb3); have hHI'3 := Aside0.mk (HI'.out.below hb3); have hB3 := Aside0.mk (below_step HB.out hb3); clear HB hb3 HI HI'; have HI := hHI3; have HI' := hHI'3; have HB := hB3; clear hB3 hHI3 hHI'3
    have HW2 := Aside0.mk hw2
    clear hw2
    refine Try.still_tail_any 9 (by kernel_rfl) (by kernel_rfl) w2 HW2.out ?_
    simp only [List.take_succ_cons, List.take_zero, List.drop_succ_cons, List.drop_zero]
    repeat (refine wpStill_step (fun K hK => ?_); go_simp; refine hK _ ?_; clear hK K)
    refine wpStill_nil ?_
    rw [← HS.out]
    go_wp2_with (first | (go_at_call 10; (with_reducible refine (HNew2.out _).mono ?_); rintro e w4 ⟨g2, rfl, hg, hI2, hb3⟩; have HI2 := Aside0.mk hI2; clear hI2 hg; have hHI3 := Aside0.mk (HI.out.below hb3); have hHI'3 := Aside0.mk (HI'.out.below hb3); have hB3 := Aside0.mk (below_step HB.out hb3); clear HB hb3 HI HI'; have HI := hHI3; have HI' := hHI'3; have HB := hB3; clear hB3 hHI3 hHI'3) | (go_at_call 13; (with_reducible refine (HC.out g' _ HI'.out).mono ?_); rintro e w3 ⟨rfl, hb3⟩; have hHI3 := Aside0.mk (HI.out.below hb3); have hHI'3 := Aside0.mk (HI'.out.below hb3); have hHI23 := Aside0.mk (HI2.out.below hb3); have hB3 := Aside0.mk (below_step HB.out hb3); clear HB hb3 HI HI' HI2; have HI := hHI3; have HI' := hHI'3; have HI2 := hHI23; have HB := hB3; clear hB3 hHI3 hHI'3 hHI23) | (go_at_call 13; (with_reducible refine (HC.out g2 _ HI2.out).mono ?_); rintro e w3 ⟨rfl, hb3⟩; have hHI3 := Aside0.mk (HI.out.below hb3); have hHI'3 := Aside0.mk (HI'.out.below hb3); have hHI23 := Aside0.mk (HI2.out.below hb3); have hB3 := Aside0.mk (below_step HB.out hb3); clear HB hb3 HI HI' HI2; have HI := hHI3; have HI' := hHI'3; have HI2 := hHI23; have HB := hB3; clear hB3 hHI3 hHI'3 hHI23) | (go_at_call 14; (with_reducible refine (HT2.out g' _ HI'.out).mono ?_); rintro e w3 ⟨rfl, hb3⟩; have hHI3 := Aside0.mk (HI.out.below hb3); have hHI'3 := Aside0.mk (HI'.out.below hb3); have hHI23 := Aside0.mk (HI2.out.below hb3); have hB3 := Aside0.mk (below_step HB.out hb3); clear HB hb3 HI HI' HI2; have HI := hHI3; have HI' := hHI'3; have HI2 := hHI23; have HB := hB3; clear hB3 hHI3 hHI'3 hHI23) | (go_at_call 14; (with_reducible refine (HT2.out g2 _ HI2.out).mono ?_); rintro e w3 ⟨rfl, hb3⟩; have hHI3 := Aside0.mk (HI.out.below hb3); have hHI'3 := Aside0.mk (HI'.out.below hb3); have hHI23 := Aside0.mk (HI2.out.below hb3); have hB3 := Aside0.mk (below_step HB.out hb3); clear HB hb3 HI HI' HI2; have HI := hHI3; have HI' := hHI'3; have HI2 := hHI23; have HB := hB3; clear hB3 hHI3 hHI'3 hHI23) | (go_at_call 14; (with_reducible refine (HT.out g _ HI.out).mono ?_); rintro e w3 ⟨rfl, hb3⟩; have hHI3 := Aside0.mk (HI.out.below hb3); have hHI'3 := Aside0.mk (HI'.out.below hb3); have hHI23 := Aside0.mk (HI2.out.below hb3); have hB3 := Aside0.mk (below_step HB.out hb3); clear HB hb3 HI HI' HI2; have HI := hHI3; have HI' := hHI'3; have HI2 := hHI23; have HB := hB3; clear hB3 hHI3 hHI'3 hHI23))
    go_loopg [13] (z.length + 1) (fun kq v13 w' => ∃ (i : Int), v13 = .int .i64 i ∧ Aside0 (0 ≤ i ∧ i ≤ (z.length : Int) ∧ kq + i.toNat = z.length + 1) ∧ Aside0 (Ix w' g' s' z) ∧ Aside0 (Ix w' g2 s' z) ∧ Aside0 (Below w.heap.size w w'))
    case atStart => exact ⟨0, rfl, ⟨by omega, by omega, by simp⟩, HI', HI2, HB⟩
    case round =>
      obtain ⟨i, rfl, HX, HY', HY2, HB5⟩ := hrel
      clear HB HI HI' HI2
      have HB := HB5
      have HI' := HY'
      have HI2 := HY2
      clear HB5 HY' HY2
      have i0 : 0 ≤ i := HX.out.1
      by_cases c1 : i < (z.length : Int)
      · have e5 : decide (i < (z.length : Int)) = true := decide_eq_true c1
        obtain ⟨p, hp⟩ : ∃ p, p = z.getD i.toNat 0 := ⟨_, rfl⟩
        obtain ⟨q, hq⟩ : ∃ q, q = fin s' z i.toNat := ⟨_, rfl⟩
        have HLi := Aside0.mk (fun g w (hI : Ix w g s' z) => HLine.out g w i.toNat (by omega) hI)
        simp only [← hp, ← hq, show ((i.toNat : Nat) : Int) = i from by omega] at HLi
        clear hp hq HLine
        go_wp2_with (first | (go_at_call 13; (with_reducible refine (HC.out g2 _ HI2.out).mono ?_); rintro e w3 ⟨rfl, hb3⟩; have hHI'3 := Aside0.mk (HI'.out.below hb3); have hHI23 := Aside0.mk (HI2.out.below hb3); have hB3 := Aside0.mk (below_step HB.out hb3); clear HB hb3 HI' HI2; have HI' := hHI'3; have HI2 := hHI23; have HB := hB3; clear hB3 hHI'3 hHI23) | (go_at_call 17; (with_reducible refine (HLi.out g' _ HI'.out).mono ?_); rintro e w6 ⟨rfl, hb3⟩; have hHI'3 := Aside0.mk (HI'.out.below hb3); have hHI23 := Aside0.mk (HI2.out.below hb3); have hB3 := Aside0.mk (below_step HB.out hb3); clear HB hb3 HI' HI2; have HI' := hHI'3; have HI2 := hHI23; have HB := hB3; clear hB3 hHI'3 hHI23) | (go_at_call 17; (with_reducible refine (HLi.out g2 _ ?hx).mono ?_); (case hx => exact HI2.out.below (by repeat (first | exact Below.refl _ _ | (refine Below.setCell ?_ (by first | exact Nat.le_refl _ | simp) _) | (refine Below.alloc ?_ (Nat.le_refl _) _)))); rintro e w7 ⟨rfl, hb3⟩; obtain ⟨f0, f1, f2, f3, f4⟩ := two_boxes (.int .i64 p) (.int .i64 q) rfl hb3; have F4 := Aside0.mk f4; clear f4 hb3))
        go_roundg (gk - 1)
        case measure => have := HX.out; omega
        case rel =>
          have hx := HX.out
          exact ⟨i + 1, by first | rfl | (congr 1; unfold wrap64; omega), ⟨by omega, by omega, by omega⟩, ⟨HI'.out.below F4.out⟩, ⟨HI2.out.below F4.out⟩, ⟨below_step HB.out F4.out⟩⟩
      · have e5 : decide (i < (z.length : Int)) = false := decide_eq_false c1
        go_wp2_with (first | (go_at_call 13; (with_reducible refine (HC.out g2 _ HI2.out).mono ?_); rintro e w3 ⟨rfl, hb3⟩; have hHI'3 := Aside0.mk (HI'.out.below hb3); have hHI23 := Aside0.mk (HI2.out.below hb3); have hB3 := Aside0.mk (below_step HB.out hb3); clear HB hb3 HI' HI2; have HI' := hHI'3; have HI2 := hHI23; have HB := hB3; clear hB3 hHI'3 hHI23) | (go_at_call 9; refine (awake _).mono ?_; rintro e w3 ⟨rfl, hb3⟩; have hB3 := Aside0.mk (below_step HB.out hb3); clear HB hb3; have HB := hB3; clear hB3))
        go_ret
        exact ⟨rfl, HB.out⟩
end Go.Proofs.Ytgejmmkfaliinaa.Lines
