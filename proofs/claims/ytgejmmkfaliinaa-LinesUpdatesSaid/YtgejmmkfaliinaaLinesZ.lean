/- LinesPlaces, walked. -/
import Derived.Test.YtgejmmkfaliinaaLinesP
import Derived.Test.YtgejmmkfaliinaaLinesY
namespace Go.Proofs.Ytgejmmkfaliinaa.Lines
open Go.RowKit Go.Proofs.YtgejmmkfaliinaaW.PrintWords Go.Proofs.YtgejmmkfaliinaaW.PrintLast Go.Proofs.YtgejmmkfaliinaaW.PrintMore Go.Proofs.Ytgejmmkfaliinaa.PLines
set_option linter.unusedVariables false
set_option linter.unusedSimpArgs false
theorem beg_ex : beg ⟨#[97, 98, 10, 99]⟩ = [0, 3] := by kernel_rfl
set_option maxHeartbeats 2000000 in
set_option maxRecDepth 100000 in
/-- The document's example. -/
theorem awake (w : World) : Calls Try.prog 9 #[] w fun e w' => e = .returned (.bool true) ∧ Below w.heap.size w w' := by
  have hP : ∀ (g : Nat) (w : World), Ix w g ⟨#[97, 98, 10, 99]⟩ [0, 3] → Calls Try.prog 12 #[.pointer (some ⟨g, 0, none⟩), .int .i64 3] w fun e w' => e = .returned (.tuple #[.int .i64 1, .int .i64 0, .int .i64 0]) ∧ Below w.heap.size w w' := by
    intro g w hI
    refine (Place g _ _ 3 w hI ⟨by decide, ?_, rfl, ?_, by decide⟩ (by decide) (by decide) (by decide)).mono ?_
    · intro a b hab hb
      have : b = 0 ∨ b = 1 := by simp at hb; omega
      rcases this with rfl | rfl
      · obtain rfl : a = 0 := by omega
        exact Int.le_refl _
      · have : a = 0 ∨ a = 1 := by omega
        rcases this with rfl | rfl <;> decide
    · intro i hi
      have : i = 0 ∨ i = 1 := by simp at hi; omega
      rcases this with rfl | rfl <;> decide
    · rintro e w' ⟨n, rfl, n1, n2, n3, hb⟩
      have : n = 0 ∨ n = 1 := by simp at n1; omega
      rcases this with rfl | rfl
      · exact absurd (n3 1 (by decide) (by decide)) (by decide)
      · exact ⟨rfl, hb⟩
  have HP := Aside0.mk hP
  clear hP
  go_enter Try.func9, Try.ntmps9
  go_wp2_with (first | (go_at_call 10; refine (New _ (by decide) _).mono ?_; rintro e w2 ⟨g, rfl, hg, hI, hb⟩; rw [beg_ex] at hI; have HI := Aside0.mk hI; have HB := Aside0.mk hb; clear hI hb hg) | (go_at_call 12; refine (HP.out g _ HI.out).mono ?_; rintro e w3 ⟨rfl, hb3⟩; have hI3 := Aside0.mk (HI.out.below hb3); have hB3 := Aside0.mk (below_step HB.out hb3); clear HI HB hb3; have HI := hI3; have HB := hB3; clear hI3 hB3) | (go_at_call 13; refine (Count g _ _ _ HI.out).mono ?_; rintro e w3 ⟨rfl, hb3⟩; have hI3 := Aside0.mk (HI.out.below hb3); have hB3 := Aside0.mk (below_step HB.out hb3); clear HI HB hb3; have HI := hI3; have HB := hB3; clear hI3 hB3))
  go_ret
  exact ⟨rfl, HB.out⟩
/-- The row and the column of a place. -/
def row (s : ByteArray) (a : Nat) : Int := ((brk s a).length : Int)
def col (s : ByteArray) (a : Nat) : Int := (a : Int) - (begk s s.size).getD (brk s a).length 0
theorem row_lt (s : ByteArray) (a : Nat) (ha : a ≤ s.size) : (brk s a).length < (begk s s.size).length := by
  obtain ⟨r, er, _⟩ := begk_split s a ha
  have := begk_len s a
  rw [er, List.length_append]
  omega
theorem row_next (s : ByteArray) (a t : Nat) (ha : a ≤ s.size) (h1 : (brk s a).length < t) (h2 : t < (begk s s.size).length) : (a : Int) < (begk s s.size).getD t 0 := by
  obtain ⟨r, er, hr⟩ := begk_split s a ha
  have := begk_len s a
  rw [er] at h2 ⊢
  rw [List.length_append] at h2
  rw [getD_right _ _ _ (by omega)]
  refine hr _ ?_
  rw [List.getD_eq_getElem?_getD, List.getElem?_eq_getElem (by omega)]
  exact List.getElem_mem (by omega)
theorem col_ge (s : ByteArray) (a : Nat) (ha : a ≤ s.size) : 0 ≤ col s a ∧ col s a ≤ (a : Int) := by
  obtain ⟨r, er, hr⟩ := begk_split s a ha
  have hl := begk_len s a
  have h1 := begk_top s a (brk s a).length (by omega)
  have h2 : 0 ≤ (begk s a).getD (brk s a).length 0 := by
    rcases Nat.eq_zero_or_pos (brk s a).length with e | e
    · rw [e]; exact Int.le_refl 0
    · exact Int.le_of_lt (getD_lt (begk_sorted s a) 0 _ e (by omega))
  unfold col
  rw [er, getD_left _ _ _ (by omega)]
  omega
theorem PlaceB (g : Nat) (s : ByteArray) (a : Nat) (w : World) (hI : Ix w g s (beg s)) (hs : s.size ≤ 1000000) (ha : a ≤ s.size) :
    Calls Try.prog 12 #[.pointer (some ⟨g, 0, none⟩), .int .i64 a] w fun e w' => e = .returned (.tuple #[.int .i64 (row s a), .int .i64 (col s a), .int .i64 0]) ∧ Below w.heap.size w w' := by
  have hg := good_beg s hs
  refine (Place g s (beg s) a w hI hg hs (by omega) (by omega)).mono ?_
  rintro e w' ⟨n, rfl, n1, n2, n3, hb⟩
  rw [beg_eq s hs] at n1 n2 n3 ⊢
  obtain rfl := line_uniq s a n ha n1 n2 n3
  exact ⟨rfl, hb⟩
theorem OffsetB (g : Nat) (s : ByteArray) (a : Nat) (w : World) (hI : Ix w g s (beg s)) (hs : s.size ≤ 1000000) (ha : a ≤ s.size) :
    Calls Try.prog 15 #[.pointer (some ⟨g, 0, none⟩), .int .i64 (row s a), .int .i64 (col s a)] w fun e w' => e = .returned (.tuple #[.int .i64 a, .int .i64 0]) ∧ Below w.heap.size w w' := by
  have hg := good_begk s hs
  rw [beg_eq s hs] at hI
  have hr := row_lt s a ha
  have hL := Line g s _ (brk s a).length w hI hg hs hr
  have hc := col_ge s a ha
  have h0 := hg.ge _ hr
  have h1 := hg.top _ hr
  have hcd : col s a = (a : Int) - (begk s s.size).getD (brk s a).length 0 := rfl
  have hf : (a : Int) ≤ fin s (begk s s.size) (brk s a).length ∧ fin s (begk s s.size) (brk s a).length ≤ 2000001 := by
    unfold fin
    by_cases c : (brk s a).length + 1 < (begk s s.size).length
    · rw [if_pos c]
      have := row_next s a ((brk s a).length + 1) ha (by omega) c
      have := hg.top _ c
      omega
    · rw [if_neg c]; omega
  have := Offset_yes (.pointer (some ⟨g, 0, none⟩)) (row s a) (col s a) _ _ w ⟨h0, h1⟩ ⟨by omega, hf.2⟩ hc.1 (by rw [hcd]; omega) hL
  rw [hcd] at this ⊢
  rw [show (begk s s.size).getD (brk s a).length 0 + ((a : Int) - (begk s s.size).getD (brk s a).length 0) = (a : Int) from by omega] at this
  exact this
theorem CountB (g : Nat) (s : ByteArray) (w : World) (hI : Ix w g s (beg s)) (hs : s.size ≤ 1000000) :
    Calls Try.prog 13 #[.pointer (some ⟨g, 0, none⟩)] w fun e w' => e = .returned (.int .i64 (row s s.size + 1)) ∧ Below w.heap.size w w' := by
  have := Count g s _ w hI
  rw [beg_eq s hs, begk_len] at this
  exact this
theorem placeB (s : ByteArray) (hs : s.size ≤ 1000000) (a : Nat) (ha : a ≤ s.size) (w : World) :
    Calls Try.prog 11 #[.string s, .int .i64 a] w fun e w' => e = .returned (.tuple #[.int .i64 (row s a), .int .i64 (col s a)]) ∧ Below w.heap.size w w' :=
  (frisketlaw03_place.calls (a + 1) s a _ _ w (place_eq s hs a ha)).mono fun e w' ⟨h1, h2⟩ => ⟨h1, h2.below⟩
theorem row_range (s : ByteArray) (hs : s.size ≤ 2000) (a : Nat) (ha : a ≤ s.size) : 0 ≤ row s a ∧ row s a ≤ 2000 := by
  have := brk_len s a
  unfold row
  omega
set_option maxHeartbeats 4000000 in
set_option maxRecDepth 100000 in
theorem LinesPlaces (s : ByteArray) (x : Int) (w : World) : Calls Try.prog 3 #[.string s, .int .i64 x] w fun e w' => e = .returned (.bool true) ∧ Below w.heap.size w w' := by
  by_cases c0 : (s.size : Int) > 2000
  · have d0 : decide ((2000 : Int) < (s.size : Int)) = true := decide_eq_true c0
    go_enter Try.func3, Try.ntmps3
    go_wp2_with (go_at_call 9; refine (awake _).mono ?_; rintro e w2 ⟨rfl, hb⟩)
    go_ret
    exact ⟨rfl, hb⟩
  have d0 : decide ((2000 : Int) < (s.size : Int)) = false := decide_eq_false c0
  have hs : s.size ≤ 2000 := by omega
  have hsb : s.size ≤ 1000000 := by omega
  obtain ⟨m, hm⟩ : ∃ m, row s s.size = m := ⟨_, rfl⟩
  obtain ⟨m2, hm2⟩ : ∃ m2, col s s.size = m2 := ⟨_, rfl⟩
  have hmr := row_range s hs s.size (Nat.le_refl _)
  rw [hm] at hmr
  obtain ⟨m0, m1⟩ := hmr
  have HNew := Aside0.mk (fun w => New s hsb w)
  have HC := Aside0.mk (fun g w (hI : Ix w g s (beg s)) => CountB g s w hI hsb)
  have HT := Aside0.mk (fun g w (hI : Ix w g s (beg s)) => Text g s _ w hI)
  have HPL := Aside0.mk (fun w => placeB s hsb s.size (Nat.le_refl _) w)
  rw [hm, hm2] at HPL
  simp only [hm] at HC
  by_cases c1 : x < 0 ∨ (s.size : Int) < x
  · have HP := Aside0.mk (fun g w (hI : Ix w g s (beg s)) => Place_out g s _ x w hI c1)
    by_cases c2 : x < 0
    · have d1 : decide (x < 0) = true := decide_eq_true c2
      clear hm hm2 c1 c2 c0 hs hsb
      go_enter Try.func3, Try.ntmps3
      go_wp2_with (first | (go_at_call 10; refine (HNew.out _).mono ?_; rintro e w2 ⟨g, rfl, hg, hI, hb⟩; have HI := Aside0.mk hI; have HB := Aside0.mk hb; clear hI hb hg) | (go_at_call 11; refine (HPL.out _).mono ?_; rintro e w3 ⟨rfl, hb3⟩; have hI3 := Aside0.mk (HI.out.below hb3); have hB3 := Aside0.mk (below_step HB.out hb3); clear HI HB hb3; have HI := hI3; have HB := hB3; clear hI3 hB3) | (go_at_call 12; refine (HP.out g _ HI.out).mono ?_; rintro e w3 ⟨rfl, hb3⟩; have hI3 := Aside0.mk (HI.out.below hb3); have hB3 := Aside0.mk (below_step HB.out hb3); clear HI HB hb3; have HI := hI3; have HB := hB3; clear hI3 hB3) | (go_at_call 13; refine (HC.out g _ HI.out).mono ?_; rintro e w3 ⟨rfl, hb3⟩; have hI3 := Aside0.mk (HI.out.below hb3); have hB3 := Aside0.mk (below_step HB.out hb3); clear HI HB hb3; have HI := hI3; have HB := hB3; clear hI3 hB3) | (go_at_call 14; refine (HT.out g _ HI.out).mono ?_; rintro e w3 ⟨rfl, hb3⟩; have hI3 := Aside0.mk (HI.out.below hb3); have hB3 := Aside0.mk (below_step HB.out hb3); clear HI HB hb3; have HI := hI3; have HB := hB3; clear hI3 hB3) | (go_at_call 9; refine (awake _).mono ?_; rintro e w3 ⟨rfl, hb3⟩; have hB3 := Aside0.mk (below_step HB.out hb3); clear HB hb3; have HB := hB3; clear hB3))
      go_ret
      exact ⟨rfl, HB.out⟩
    · have d1 : decide (x < 0) = false := decide_eq_false c2
      have d2 : decide ((s.size : Int) < x) = true := decide_eq_true (by omega)
      clear hm hm2 c1 c2 c0 hs hsb
      go_enter Try.func3, Try.ntmps3
      go_wp2_with (first | (go_at_call 10; refine (HNew.out _).mono ?_; rintro e w2 ⟨g, rfl, hg, hI, hb⟩; have HI := Aside0.mk hI; have HB := Aside0.mk hb; clear hI hb hg) | (go_at_call 11; refine (HPL.out _).mono ?_; rintro e w3 ⟨rfl, hb3⟩; have hI3 := Aside0.mk (HI.out.below hb3); have hB3 := Aside0.mk (below_step HB.out hb3); clear HI HB hb3; have HI := hI3; have HB := hB3; clear hI3 hB3) | (go_at_call 12; refine (HP.out g _ HI.out).mono ?_; rintro e w3 ⟨rfl, hb3⟩; have hI3 := Aside0.mk (HI.out.below hb3); have hB3 := Aside0.mk (below_step HB.out hb3); clear HI HB hb3; have HI := hI3; have HB := hB3; clear hI3 hB3) | (go_at_call 13; refine (HC.out g _ HI.out).mono ?_; rintro e w3 ⟨rfl, hb3⟩; have hI3 := Aside0.mk (HI.out.below hb3); have hB3 := Aside0.mk (below_step HB.out hb3); clear HI HB hb3; have HI := hI3; have HB := hB3; clear hI3 hB3) | (go_at_call 14; refine (HT.out g _ HI.out).mono ?_; rintro e w3 ⟨rfl, hb3⟩; have hI3 := Aside0.mk (HI.out.below hb3); have hB3 := Aside0.mk (below_step HB.out hb3); clear HI HB hb3; have HI := hI3; have HB := hB3; clear hI3 hB3) | (go_at_call 9; refine (awake _).mono ?_; rintro e w3 ⟨rfl, hb3⟩; have hB3 := Aside0.mk (below_step HB.out hb3); clear HB hb3; have HB := hB3; clear hB3))
      go_ret
      exact ⟨rfl, HB.out⟩
  · obtain ⟨a, rfl⟩ : ∃ a : Nat, x = (a : Int) := ⟨x.toNat, by omega⟩
    have ha : a ≤ s.size := by omega
    obtain ⟨n, hn⟩ : ∃ n, row s a = n := ⟨_, rfl⟩
    obtain ⟨c, hc⟩ : ∃ c, col s a = c := ⟨_, rfl⟩
    have HP := Aside0.mk (fun g w (hI : Ix w g s (beg s)) => PlaceB g s a w hI hsb ha)
    have HO := Aside0.mk (fun g w (hI : Ix w g s (beg s)) => OffsetB g s a w hI hsb ha)
    have HPA := Aside0.mk (fun w => placeB s hsb a ha w)
    rw [hn, hc] at HPA
    simp only [hn, hc] at HP HO
    obtain ⟨x, hx⟩ : ∃ x : Int, (a : Int) = x := ⟨_, rfl⟩
    rw [hx] at HPA ⊢
    simp only [hx] at HP HO
    have d1 : decide (x < 0) = false := decide_eq_false (by omega)
    have d2 : decide ((s.size : Int) < x) = false := decide_eq_false (by omega)
    clear hx hn hc hm hm2 c1 c0 hs hsb ha
    go_enter Try.func3, Try.ntmps3
    go_wp2_with (first | (go_at_call 10; refine (HNew.out _).mono ?_; rintro e w2 ⟨g, rfl, hg, hI, hb⟩; have HI := Aside0.mk hI; have HB := Aside0.mk hb; clear hI hb hg) | (go_at_call 11; (first | (refine (HPL.out _).mono ?_; clear HPL) | refine (HPA.out _).mono ?_); rintro e w3 ⟨rfl, hb3⟩; have hI3 := Aside0.mk (HI.out.below hb3); have hB3 := Aside0.mk (below_step HB.out hb3); clear HI HB hb3; have HI := hI3; have HB := hB3; clear hI3 hB3) | (go_at_call 12; refine (HP.out g _ HI.out).mono ?_; rintro e w3 ⟨rfl, hb3⟩; have hI3 := Aside0.mk (HI.out.below hb3); have hB3 := Aside0.mk (below_step HB.out hb3); clear HI HB hb3; have HI := hI3; have HB := hB3; clear hI3 hB3) | (go_at_call 13; refine (HC.out g _ HI.out).mono ?_; rintro e w3 ⟨rfl, hb3⟩; have hI3 := Aside0.mk (HI.out.below hb3); have hB3 := Aside0.mk (below_step HB.out hb3); clear HI HB hb3; have HI := hI3; have HB := hB3; clear hI3 hB3) | (go_at_call 14; refine (HT.out g _ HI.out).mono ?_; rintro e w3 ⟨rfl, hb3⟩; have hI3 := Aside0.mk (HI.out.below hb3); have hB3 := Aside0.mk (below_step HB.out hb3); clear HI HB hb3; have HI := hI3; have HB := hB3; clear hI3 hB3) | (go_at_call 9; refine (awake _).mono ?_; rintro e w3 ⟨rfl, hb3⟩; have hB3 := Aside0.mk (below_step HB.out hb3); clear HB hb3; have HB := hB3; clear hB3) | (go_at_call 15; refine (HO.out g _ HI.out).mono ?_; rintro e w3 ⟨rfl, hb3⟩; have hI3 := Aside0.mk (HI.out.below hb3); have hB3 := Aside0.mk (below_step HB.out hb3); clear HI HB hb3; have HI := hI3; have HB := hB3; clear hI3 hB3))
    go_ret
    exact ⟨rfl, HB.out⟩
end Go.Proofs.Ytgejmmkfaliinaa.Lines
