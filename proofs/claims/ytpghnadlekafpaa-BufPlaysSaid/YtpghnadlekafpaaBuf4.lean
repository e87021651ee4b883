/- A byte of a buffer. -/
import Derived.Test.YtpghnadlekafpaaBuf3
namespace Go.Proofs.Ytpghnadlekafpaa.PBuf
open Go.RowKit Go.Proofs.YtpghnadlekafpaaW.PrintWords Go.Proofs.YtpghnadlekafpaaW.PrintLast Go.Proofs.YtpghnadlekafpaaW.PrintMore
set_option linter.unusedVariables false
set_option linter.unusedSimpArgs false
set_option maxHeartbeats 2000000 in
set_option maxRecDepth 100000 in
theorem At_no (v : Value) (n i : Int) (w : World) (hL : Calls Try.prog 13 #[v] w fun e w' => e = .returned (.int .i64 n) ∧ Below w.heap.size w w') (h : ¬ (0 ≤ i ∧ i < n)) : Calls Try.prog 19 #[v, .int .i64 i] w fun e w' => e = .returned (.tuple #[.int .u8 0, .bool false]) ∧ Below w.heap.size w w' := by
  have HL := Aside0.mk hL
  have HB := Aside0.mk (Below.refl w.heap.size w)
  clear hL
  by_cases c1 : i < 0
  · have d1 : decide (i < 0) = true := decide_eq_true c1
    clear h c1
    go_enter Try.func19, Try.ntmps19
    go_wp2
    go_ret2
    exact ⟨rfl, HB.out⟩
  · have d1 : decide (i < 0) = false := decide_eq_false c1
    have d2 : decide (i ≥ n) = true := decide_eq_true (by omega)
    clear h c1
    go_enter Try.func19, Try.ntmps19
    go_wp2_with (go_at_call 13; refine HL.out.mono ?_; rintro e w1 ⟨rfl, hb⟩; have HB1 := Aside0.mk hb; clear hb)
    go_ret2
    exact ⟨rfl, HB1.out⟩
set_option maxHeartbeats 2000000 in
set_option maxRecDepth 100000 in
theorem At_yes {w : World} {base g : Nat} {Vp Vf Vl : Value} {n : Int} {P : List Pc} {past fut : List St} (hB : Bf w base g Vp Vf Vl n P past fut) (hl : P.length ≤ 4398046511104) (hs : (tx P).length ≤ 140737488355328) (i : Int) (h0 : 0 ≤ i) (h1 : i < n) : Calls Try.prog 19 #[.pointer (some ⟨g, 0, none⟩), .int .i64 i] w fun e w' => e = .returned (.tuple #[.int .u8 (((tx P).getD i.toNat 0).toNat : Int), .bool true]) ∧ Below w.heap.size w w' := by
  have HL := Aside0.mk (Len hB)
  have c3 : w.cell? ⟨g, 2, none⟩ = some Vl := (blk_cell hB.c 2).trans rfl
  obtain ⟨A, c, rfl, hlc, hC⟩ := R_reads0 hB.l
  have HR := Aside0.mk hC
  have HLen := Aside0.mk hl
  have HN := Aside0.mk hB.n
  have HS := Aside0.mk hs
  clear hs
  have HH := Aside0.mk (And.intro h0 h1)
  have d1 : decide (i < 0) = false := decide_eq_false (by omega)
  have d2 : decide (i ≥ n) = false := decide_eq_false (by omega)
  clear hB hlc hC hl h0 h1
  go_enter Try.func19, Try.ntmps19
  go_wp2_with (go_at_call 13; refine HL.out.mono ?_; rintro e w1 ⟨rfl, hb⟩; have HB := Aside0.mk hb; replace c3 := (hb.cell (World.block_lt_of_cell? w _ c3)).trans c3; clear hb HL)
  clear c3 d1 d2
  go_loopg [1, 21] (P.length + 1) (fun kq v1 v21 w' => ∃ (x1 x21 : Int), v1 = .int .i64 x1 ∧ v21 = .int .i64 x21 ∧ Aside0 (0 ≤ x1 ∧ x1 < ((tx (P.drop x21.toNat)).length : Int) ∧ (tx (P.drop x21.toNat)).getD x1.toNat 0 = (tx P).getD i.toNat 0 ∧ x1 ≤ i) ∧ Aside0 (0 ≤ x21 ∧ x21.toNat ≤ P.length ∧ kq + x21.toNat = P.length + 1) ∧ Aside0 (Below w.heap.size w w'))
  case atStart => exact ⟨i, 0, rfl, rfl, ⟨HH.out.1, by have := HH.out.2; have := HN.out; simpa using (by omega), rfl, Int.le_refl _⟩, ⟨by omega, Nat.zero_le _, by simp⟩, ⟨HB.out⟩⟩
  case round =>
    clear HB
    obtain ⟨x1, x21, rfl, rfl, HA, HI, HB⟩ := hrel
    have p1 : 0 ≤ x21 := HI.out.1
    by_cases c1 : x21 < (P.length : Int)
    · have c1n : x21.toNat < P.length := by omega
      have d1 : decide (x21 < (P.length : Int)) = true := decide_eq_true c1
      have hE := HA.out
      rw [List.drop_eq_getElem_cons c1n] at hE
      have hrd : P[x21.toNat] = rd_T53 P x21 := by simp [rd_T53, List.getD, c1n]
      rw [hrd, tx_cons] at hE
      clear hrd
      obtain ⟨ad, e1, hx0⟩ := at_T53 HR.out x21 p1 c1
      cases e1
      replace hx0 := (HB.out.cell (World.block_lt_of_cell? w _ hx0)).trans hx0
      clear c1n HA
      replace p1 := eq_true p1
      replace c1 := eq_true c1
      generalize rd_T53 P x21 = p at hE hx0
      obtain ⟨s⟩ := p
      dsimp only at hE hx0
      have e2 : (x21 + 1).toNat = x21.toNat + 1 := by have := HI.out.1; omega
      have E2 := Aside0.mk e2
      clear e2
      by_cases c2 : x1 < (s.size : Int)
      · have g0 := eq_true hE.1
        have g1 := eq_true c2
        have dx0 : decide (0 ≤ x1) = true := decide_eq_true hE.1
        have d2 : decide (x1 < (s.size : Int)) = true := decide_eq_true c2
        have HE := Aside0.mk hE
        have C2 := Aside0.mk c2
        clear hE c2
        go_wp2
        go_ret2
        refine ⟨?_, HB.out.alloc HB.out.size _⟩
        have hx := HE.out
        have hc2 := C2.out
        have hb : (s.data.toList ++ tx (P.drop (x21.toNat + 1))).getD x1.toNat 0 = s[x1.toNat]'(by omega) := by
          have hl2 : s.data.toList.length = s.size := by simp
          rw [List.getD_eq_getElem?_getD, List.getElem?_append_left (by omega), List.getElem?_eq_getElem (by omega)]
          rfl
        rw [← hx.2.2.1, hb]
        rfl
      · have d2 : decide (x1 < (s.size : Int)) = false := decide_eq_false c2
        have hs : s.data.toList.length = s.size := by simp
        have hE2 : 0 ≤ x1 - (s.size : Int) ∧ x1 - (s.size : Int) < ((tx (P.drop (x21.toNat + 1))).length : Int) ∧ (tx (P.drop (x21.toNat + 1))).getD (x1 - (s.size : Int)).toNat 0 = (tx P).getD i.toNat 0 ∧ x1 - (s.size : Int) ≤ i := by
          obtain ⟨j1, j2, j3, j4⟩ := hE
          rw [List.length_append] at j2
          refine ⟨by omega, by omega, ?_, by omega⟩
          rw [← j3, List.getD_eq_getElem?_getD, List.getD_eq_getElem?_getD, List.getElem?_append_right (by omega)]
          congr 2
          omega
        have ew2 : wrap64 (x1 - (s.size : Int)) = x1 - (s.size : Int) := by
          have := HN.out; have := HH.out; have := HS.out; have := hE.1; have := hE.2.2.2
          unfold wrap64; omega
        have HA2 := Aside0.mk hE2
        have EW := Aside0.mk ew2
        clear hE c2 hs hE2 ew2
        go_wp2
        go_roundg (gk - 1)
        case measure => have := HI.out; omega
        case rel =>
          have hi := HI.out
          have hm := HLen.out
          have hlt : x21 < (P.length : Int) := of_eq_true c1
          have ew : wrap64 (x21 + 1) = x21 + 1 := by unfold wrap64; omega
          exact ⟨_, _, by rw [EW.out], by rw [ew], by rw [E2.out]; exact HA2, ⟨by omega, by omega, by omega⟩, ⟨HB.out.alloc HB.out.size _⟩⟩
    · have hE := HA.out
      have hdr : P.drop x21.toNat = [] := List.drop_eq_nil_of_le (by omega)
      rw [hdr] at hE
      have : (tx ([] : List Pc)).length = 0 := rfl
      exfalso
      omega
end Go.Proofs.Ytpghnadlekafpaa.PBuf
