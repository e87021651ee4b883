/- Layer 25: what is wrong with a box, or a width; a box's text; the least width. -/
import Derived.Test.YtjgaikmejccdkaaDoorLay5
namespace Go.Proofs.YtjgaikmejccdkaaDoor.PDoc
open Go.RowKit Go.Proofs.YtjgaikmejccdkaaDoorW.PrintWords Go.Proofs.YtjgaikmejccdkaaDoorW.PrintLast Go.Proofs.YtjgaikmejccdkaaDoorW.PrintMore
set_option linter.unusedVariables false
set_option linter.unusedSimpArgs false
/-- What is wrong. -/
def ert (W : Int) (d : D) : Int := if W < 1 then 1 else if 65535 < W then 1 else if 20000 < sz d then 3 else 0
set_option maxHeartbeats 1000000 in
set_option maxRecDepth 100000 in
theorem right_ {w : World} {v : Value} {d : D} (hd : DV w v d) (W : Int) : Calls Tryd.prog 42 #[v, .int .i64 W] w fun e w' => e = .returned (.int .i64 (ert W d)) ∧ Below w.heap.size w w' := by
  have HS := Aside0.mk (Size_ hd)
  unfold ert
  clear hd
  by_cases h1 : W < 1
  · rw [if_pos h1]
    have d1 : decide (W < 1) = true := decide_eq_true h1
    clear h1
    go_enter Tryd.func42, Tryd.ntmps42
    go_wp2
    go_ret
    exact ⟨rfl, Below.refl _ _⟩
  rw [if_neg h1]
  have d1 : decide (W < 1) = false := decide_eq_false h1
  by_cases h2 : 65535 < W
  · rw [if_pos h2]
    have d2 : decide (65535 < W) = true := decide_eq_true h2
    clear h1 h2
    go_enter Tryd.func42, Tryd.ntmps42
    go_wp2
    go_ret
    exact ⟨rfl, Below.refl _ _⟩
  rw [if_neg h2]
  have d2 : decide (65535 < W) = false := decide_eq_false h2
  by_cases h3 : 20000 < sz d
  · rw [if_pos h3]
    have d3 : decide (20000 < sz d) = true := decide_eq_true h3
    clear h1 h2 h3
    go_enter Tryd.func42, Tryd.ntmps42
    go_wp2_with (go_at_call 16; refine HS.out.mono ?_; clear HS; rintro e w1 ⟨rfl, hb⟩)
    go_ret
    exact ⟨rfl, hb⟩
  · rw [if_neg h3]
    have d3 : decide (20000 < sz d) = false := decide_eq_false h3
    clear h1 h2 h3
    go_enter Tryd.func42, Tryd.ntmps42
    go_wp2_with (go_at_call 16; refine HS.out.mono ?_; clear HS; rintro e w1 ⟨rfl, hb⟩)
    go_ret
    exact ⟨rfl, hb⟩
set_option maxHeartbeats 1000000 in
set_option maxRecDepth 100000 in
theorem Lay_no {w : World} {v : Value} {d : D} (hd : DV w v d) (W : Int) (h : ert W d ≠ 0) : Calls Tryd.prog 27 #[v, .int .i64 W] w fun e w' => e = .returned (.tuple #[.string ⟨#[]⟩, .int .i64 (ert W d)]) ∧ Below w.heap.size w w' := by
  have HR := Aside0.mk (right_ hd W)
  have d1 : (ert W d == 0) = false := beq_eq_false_iff_ne.2 h
  clear hd h
  go_enter Tryd.func27, Tryd.ntmps27
  go_wp2_with (go_at_call 42; refine HR.out.mono ?_; clear HR; rintro e w1 ⟨rfl, hb⟩)
  go_ret2
  exact ⟨rfl, hb⟩
set_option maxHeartbeats 1000000 in
set_option maxRecDepth 100000 in
theorem Lay_yes {w : World} {v : Value} {d : D} (hd : DV w v d) (hp : Pb d) (W : Int) (h1 : 1 ≤ W) (h2 : W ≤ 65535) (h3 : sz d ≤ 20000) : Calls Tryd.prog 27 #[v, .int .i64 W] w fun e w' => e = .returned (.tuple #[.string (prt W d), .int .i64 0]) ∧ Below w.heap.size w w' := by
  have HR := Aside0.mk (right_ hd W)
  have e0 : ert W d = 0 := by unfold ert; rw [if_neg (by omega), if_neg (by omega), if_neg (by omega)]
  rw [e0] at HR
  have HP := Aside0.mk (fun (u : World) (hb : Below w.heap.size w u) => printed_ (hd.below hb) hp W (by omega) (by omega))
  clear hd hp h1 h2 h3 e0
  go_enter Tryd.func27, Tryd.ntmps27
  go_wp2_with (first | (go_at_call 42; refine HR.out.mono ?_; clear HR; rintro e w1 ⟨rfl, hb⟩; have HB := Aside0.mk hb; clear hb) | (go_at_call 43; refine (HP.out _ HB.out).mono ?_; clear HP; rintro e w2 ⟨rfl, hb⟩; have n0_ := Aside0.mk (below_step HB.out hb); clear HB hb; have HB := n0_; clear n0_))
  go_ret2
  exact ⟨rfl, HB.out⟩
theorem bytes_eq {a b : ByteArray} (h : a = b) : (a.toList == b.toList) = true := by rw [h]; simp
theorem bytes_ne {a b : ByteArray} (h : a ≠ b) : (a.toList == b.toList) = false := by
  rw [beq_eq_false_iff_ne, ByteArray.toList_eq, ByteArray.toList_eq]
  intro e
  apply h
  obtain ⟨a⟩ := a
  obtain ⟨b⟩ := b
  have : a = b := Array.toList_inj.1 e
  rw [this]
set_option maxHeartbeats 1000000 in
set_option maxRecDepth 100000 in
theorem Least_no {w : World} {v : Value} {d : D} (hd : DV w v d) (h : 20000 < sz d) : Calls Tryd.prog 28 #[v] w fun e w' => e = .returned (.int .i64 0) ∧ Below w.heap.size w w' := by
  have e0 : ert 65535 d = 3 := by unfold ert; rw [if_neg (by omega), if_neg (by omega), if_pos h]
  have HL := Aside0.mk (Lay_no hd 65535 (by rw [e0]; omega))
  rw [e0] at HL
  clear hd h e0
  go_enter Tryd.func28, Tryd.ntmps28
  go_wp2_with (go_at_call 27; refine HL.out.mono ?_; clear HL; rintro e w1 ⟨rfl, hb⟩)
  go_ret
  exact ⟨rfl, hb⟩
set_option maxHeartbeats 4000000 in
set_option maxRecDepth 100000 in
theorem Least_yes {w : World} {v : Value} {d : D} (hd : DV w v d) (hp : Pb d) (h3 : sz d ≤ 20000) : Calls Tryd.prog 28 #[v] w fun e w' => (∃ n : Int, e = .returned (.int .i64 n) ∧ 1 ≤ n ∧ n ≤ 65535 ∧ prt n d = prt 65535 d ∧ (n = 1 ∨ prt (n - 1) d ≠ prt 65535 d)) ∧ Below w.heap.size w w' := by
  have HL := Aside0.mk (Lay_yes hd hp 65535 (by omega) (by omega) h3)
  have HP := Aside0.mk (fun (u : World) (hb : Below w.heap.size w u) (W : Int) (h0 : 0 ≤ W) (h1 : W ≤ 65535) => printed_ (hd.below hb) hp W h0 (by omega))
  clear hd hp h3
  go_enter Tryd.func28, Tryd.ntmps28
  go_wp2_with (go_at_call 27; refine HL.out.mono ?_; clear HL; rintro e w1 ⟨rfl, hb⟩; have HB := Aside0.mk hb; clear hb)
  go_loopg [5, 6] 65536 (fun kq v5 v6 w' => ∃ (lo hi : Int), v5 = .int .i64 lo ∧ v6 = .int .i64 hi ∧ Aside0 (1 ≤ lo ∧ lo ≤ hi ∧ hi ≤ 65535 ∧ hi - lo < (kq : Int)) ∧ Aside0 (prt hi d = prt 65535 d ∧ (lo = 1 ∨ prt (lo - 1) d ≠ prt 65535 d)) ∧ Aside0 (Below w.heap.size w w'))
  case atStart => exact ⟨1, 65535, rfl, rfl, ⟨by omega, by omega, by omega, by omega⟩, ⟨rfl, Or.inl rfl⟩, HB⟩
  case round =>
    clear HB
    obtain ⟨lo, hi, rfl, rfl, HI, HE, HB⟩ := hrel
    obtain ⟨i1, i2, i3, i4⟩ := HI.out
    by_cases c9 : lo < hi
    · have d9 : decide (lo < hi) = true := decide_eq_true c9
      have e1 : wrap64 (lo + hi) = lo + hi := w64 _ (by omega) (by omega)
      have e2 : (lo + hi).tdiv 2 = (lo + hi) / 2 := Int.tdiv_eq_ediv_of_nonneg (by omega)
      obtain ⟨md, hmd⟩ : ∃ md, md = (lo + hi) / 2 := ⟨_, rfl⟩
      have hm1 : lo ≤ md ∧ md < hi := by omega
      have e3 : wrap64 ((lo + hi) / 2) = md := by rw [← hmd]; exact w64 _ (by omega) (by omega)
      have HM := Aside0.mk hm1
      have HPP := Aside0.mk (HP.out wr HB.out md (by omega) (by omega))
      clear hmd hm1 i1 i2 i3 i4
      go_upto_region 7 with (fail)
      rw [e3]
      clear e1 e2 e3 c9 d9
      by_cases hq : prt md d = prt 65535 d
      · have HQ := Aside0.mk hq
        have d8 := bytes_eq hq
        clear hq
        go_wp2_with (go_at_call 43; refine HPP.out.mono ?_; clear HPP; rintro e w2 ⟨rfl, hb⟩; have n0_ := Aside0.mk (below_step HB.out hb); clear HB hb; have HB := n0_; clear n0_)
        go_roundg (gk - 1)
        case measure => have := HI.out; have := HM.out; omega
        case rel => exact ⟨lo, md, rfl, rfl, ⟨by have := HI.out; have := HM.out; omega, by have := HI.out; have := HM.out; omega, by have := HI.out; have := HM.out; omega, by have := HI.out; have := HM.out; omega⟩, ⟨HQ.out, HE.out.2⟩, HB⟩
      · have HQ := Aside0.mk hq
        have d8 := bytes_ne hq
        have e4 : wrap64 (md + 1) = md + 1 := by have := HI.out; have := HM.out; exact w64 _ (by omega) (by omega)
        clear hq
        go_wp2_with (go_at_call 43; refine HPP.out.mono ?_; clear HPP; rintro e w2 ⟨rfl, hb⟩; have n0_ := Aside0.mk (below_step HB.out hb); clear HB hb; have HB := n0_; clear n0_)
        go_roundg (gk - 1)
        case measure => have := HI.out; have := HM.out; omega
        case rel => exact ⟨md + 1, hi, by go_num, rfl, ⟨by have := HI.out; have := HM.out; omega, by have := HI.out; have := HM.out; omega, by have := HI.out; have := HM.out; omega, by have := HI.out; have := HM.out; omega⟩, ⟨HE.out.1, Or.inr (by rw [show md + 1 - 1 = md by omega]; exact HQ.out)⟩, HB⟩
    · have d9 : decide (lo < hi) = false := decide_eq_false c9
      obtain rfl : lo = hi := by omega
      clear i1 i2 i3 i4 c9
      go_wp2
      go_ret
      have hi := HI.out
      exact ⟨⟨lo, rfl, hi.1, hi.2.2.1, HE.out.1, HE.out.2⟩, HB.out⟩
end Go.Proofs.YtjgaikmejccdkaaDoor.PDoc
