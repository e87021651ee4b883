/- What only looks at a buffer: how long it is, its text. -/
import Derived.Test.YtpghnadlekafpaaBuf1
namespace Go.Proofs.Ytpghnadlekafpaa.PBuf
open Go.RowKit Go.Proofs.YtpghnadlekafpaaW.PrintWords Go.Proofs.YtpghnadlekafpaaW.PrintLast Go.Proofs.YtpghnadlekafpaaW.PrintMore
set_option linter.unusedVariables false
set_option linter.unusedSimpArgs false
set_option maxHeartbeats 2000000 in
set_option maxRecDepth 100000 in
theorem Len_none (w : World) : Calls Try.prog 13 #[.pointer none] w fun e w' => e = .returned (.int .i64 0) ∧ Below w.heap.size w w' := by
  go_enter Try.func13, Try.ntmps13
  go_wp2
  go_ret
  exact ⟨rfl, Below.refl _ _⟩
set_option maxHeartbeats 2000000 in
set_option maxRecDepth 100000 in
theorem Past_none (w : World) : Calls Try.prog 11 #[.pointer none] w fun e w' => e = .returned (.int .i64 0) ∧ Below w.heap.size w w' := by
  go_enter Try.func11, Try.ntmps11
  go_wp2
  go_ret
  exact ⟨rfl, Below.refl _ _⟩
set_option maxHeartbeats 2000000 in
set_option maxRecDepth 100000 in
theorem Future_none (w : World) : Calls Try.prog 17 #[.pointer none] w fun e w' => e = .returned (.int .i64 0) ∧ Below w.heap.size w w' := by
  go_enter Try.func17, Try.ntmps17
  go_wp2
  go_ret
  exact ⟨rfl, Below.refl _ _⟩
set_option maxHeartbeats 2000000 in
set_option maxRecDepth 100000 in
theorem Pieces_none (w : World) : Calls Try.prog 23 #[.pointer none] w fun e w' => e = .returned (.int .i64 0) ∧ Below w.heap.size w w' := by
  go_enter Try.func23, Try.ntmps23
  go_wp2
  go_ret
  exact ⟨rfl, Below.refl _ _⟩
set_option maxHeartbeats 2000000 in
set_option maxRecDepth 100000 in
theorem Text_none (w : World) : Calls Try.prog 16 #[.pointer none] w fun e w' => e = .returned (.string ⟨#[]⟩) ∧ Below w.heap.size w w' := by
  go_enter Try.func16, Try.ntmps16
  go_wp2
  go_ret
  exact ⟨rfl, Below.refl _ _⟩
set_option maxHeartbeats 2000000 in
set_option maxRecDepth 100000 in
theorem Len {w : World} {base g : Nat} {Vp Vf Vl : Value} {n : Int} {P : List Pc} {past fut : List St} (hB : Bf w base g Vp Vf Vl n P past fut) : Calls Try.prog 13 #[.pointer (some ⟨g, 0, none⟩)] w fun e w' => e = .returned (.int .i64 n) ∧ Below w.heap.size w w' := by
  have c3 : w.cell? ⟨g, 3, none⟩ = some (.int .i64 n) := (blk_cell hB.c 3).trans rfl
  clear hB
  go_enter Try.func13, Try.ntmps13
  go_wp2
  go_ret
  exact ⟨rfl, Below.refl _ _⟩
theorem R_slice0 {α : Type} {d : Kd α} {e base : Nat} {ok : Nat → Prop} {w : World} {v : Value} {xs : List α} (h : d.R e w base ok v xs) : ∃ A c, v = .slice A xs.length c ∧ xs.length ≤ c := Kd.Q_slice (Kd.Q_of_R h)
theorem R_reads0 {α : Type} {d : Kd α} {e base : Nat} {ok : Nat → Prop} {w : World} {v : Value} {xs : List α} (h : d.R e w base ok v xs) : ∃ A c, v = .slice A xs.length c ∧ xs.length ≤ c ∧ d.C w A xs.length xs := Kd.Q_reads (Kd.Q_of_R h)
set_option maxHeartbeats 2000000 in
set_option maxRecDepth 100000 in
theorem Past {w : World} {base g : Nat} {Vp Vf Vl : Value} {n : Int} {P : List Pc} {past fut : List St} (hB : Bf w base g Vp Vf Vl n P past fut) : Calls Try.prog 11 #[.pointer (some ⟨g, 0, none⟩)] w fun e w' => e = .returned (.int .i64 (past.length : Int)) ∧ Below w.heap.size w w' := by
  have c3 : w.cell? ⟨g, 0, none⟩ = some Vp := (blk_cell hB.c 0).trans rfl
  obtain ⟨A, c, rfl, hl⟩ := Kd.Q_slice hB.p
  clear hB hl
  go_enter Try.func11, Try.ntmps11
  go_wp2
  go_ret
  exact ⟨rfl, Below.refl _ _⟩
set_option maxHeartbeats 2000000 in
set_option maxRecDepth 100000 in
theorem Future {w : World} {base g : Nat} {Vp Vf Vl : Value} {n : Int} {P : List Pc} {past fut : List St} (hB : Bf w base g Vp Vf Vl n P past fut) : Calls Try.prog 17 #[.pointer (some ⟨g, 0, none⟩)] w fun e w' => e = .returned (.int .i64 (fut.length : Int)) ∧ Below w.heap.size w w' := by
  have c3 : w.cell? ⟨g, 1, none⟩ = some Vf := (blk_cell hB.c 1).trans rfl
  obtain ⟨A, c, rfl, hl⟩ := Kd.Q_slice hB.f
  clear hB hl
  go_enter Try.func17, Try.ntmps17
  go_wp2
  go_ret
  exact ⟨rfl, Below.refl _ _⟩
set_option maxHeartbeats 2000000 in
set_option maxRecDepth 100000 in
theorem Pieces {w : World} {base g : Nat} {Vp Vf Vl : Value} {n : Int} {P : List Pc} {past fut : List St} (hB : Bf w base g Vp Vf Vl n P past fut) : Calls Try.prog 23 #[.pointer (some ⟨g, 0, none⟩)] w fun e w' => e = .returned (.int .i64 (P.length : Int)) ∧ Below w.heap.size w w' := by
  have c3 : w.cell? ⟨g, 2, none⟩ = some Vl := (blk_cell hB.c 2).trans rfl
  obtain ⟨A, c, rfl, hl⟩ := R_slice0 hB.l
  clear hB hl
  go_enter Try.func23, Try.ntmps23
  go_wp2
  go_ret
  exact ⟨rfl, Below.refl _ _⟩
theorem tx_cons (p : Pc) (P : List Pc) : tx (p :: P) = p.f0.data.toList ++ tx P := rfl
set_option maxHeartbeats 1000000 in
set_option maxRecDepth 100000 in
theorem join (A : Option Addr) (c : Nat) (P : List Pc) (w : World) (hC : Kd.C kP w A P.length P) (hl : P.length ≤ 4398046511104) (hs : (tx P).length ≤ 140737488355328) :
    Calls Try.prog 32 #[.slice A P.length c] w fun e w' => e = .returned (.string ⟨(tx P).toArray⟩) ∧ Below w.heap.size w w' := by
  have HR := Aside0.mk hC
  have HL := Aside0.mk hl
  have HS := Aside0.mk hs
  have HF := Aside0.mk (Try.bfresh w)
  clear hC hl hs
  go_enter Try.func32, Try.ntmps32
  go_wp2
  go_loopg [8] (P.length + 1) (fun kq v8 w' => ∃ (xb : List UInt8) (x8 : Int), v8 = .int .i64 x8 ∧ Aside0 (xb ++ tx (P.drop x8.toNat) = tx P) ∧ Aside0 (0 ≤ x8 ∧ x8.toNat ≤ P.length ∧ kq + x8.toNat = P.length + 1) ∧ Aside0 (Lib.IsBuilderF 81 5 w.heap.size w.heap.size (Lib.byteCells xb) w') ∧ Aside0 (Below w.heap.size w w'))
  case atStart => exact ⟨[], 0, rfl, ⟨rfl⟩, ⟨by omega, Nat.zero_le _, by simp⟩, ⟨HF.out⟩, ⟨(Below.refl _ _).alloc (Nat.le_refl _) _⟩⟩
  case round =>
    obtain ⟨xb, x8, rfl, HA, HI, HBU, HB⟩ := hrel
    clear HF
    have p1 : 0 ≤ x8 := HI.out.1
    by_cases c1 : x8 < (P.length : Int)
    · have c1n : x8.toNat < P.length := by omega
      have d1 : decide (x8 < (P.length : Int)) = true := decide_eq_true c1
      have hE := HA.out
      rw [List.drop_eq_getElem_cons c1n] at hE
      have hrd : P[x8.toNat] = rd_T53 P x8 := by simp [rd_T53, List.getD, c1n]
      rw [hrd, tx_cons] at hE
      clear hrd
      have hlen := congrArg List.length hE
      simp only [List.length_append] at hlen
      have g5 : xb.length + (rd_T53 P x8).f0.size ≤ 140737488355328 := by
        have := HS.out
        have e : (rd_T53 P x8).f0.data.toList.length = (rd_T53 P x8).f0.size := by simp
        omega
      have G5 := Aside0.mk g5
      have HA2 := Aside0.mk hE
      clear hE HA g5 hlen
      obtain ⟨ad, e1, hx0⟩ := at_T53 HR.out x8 p1 c1
      cases e1
      replace hx0 := (HB.out.cell (World.block_lt_of_cell? w _ hx0)).trans hx0
      clear c1n
      replace p1 := eq_true p1
      replace c1 := eq_true c1
      generalize rd_T53 P x8 = p at G5 HA2 hx0
      obtain ⟨s⟩ := p
      have e2 : (x8 + 1).toNat = x8.toNat + 1 := by have := HI.out.1; omega
      have E2 := Aside0.mk e2
      clear e2
      go_wp2_with (go_at_call 35; refine (Try.bws w.heap.size w.heap.size xb _ _ (HBU.out.alloc (.cells #[.string s] 53)) G5.out (HB.out.alloc HB.out.size _).size).mono ?_; rintro e w3 ⟨rfl, h3, b3, o3⟩)
      go_roundg (gk - 1)
      case measure => have := HI.out; omega
      case rel =>
        have hi := HI.out
        have hm := HL.out
        have hlt : x8 < (P.length : Int) := of_eq_true c1
        have ew : wrap64 (x8 + 1) = x8 + 1 := by unfold wrap64; omega
        exact ⟨_, _, by rw [ew], by rw [E2.out, List.append_assoc]; exact HA2, ⟨by omega, by omega, by omega⟩, ⟨h3⟩, ⟨(HB.out.alloc HB.out.size _).trans b3⟩⟩
    · have d1 : decide (x8 < (P.length : Int)) = false := decide_eq_false c1
      have hE := HA.out
      have hdr : P.drop x8.toNat = [] := List.drop_eq_nil_of_le (by omega)
      rw [hdr] at hE
      have hE2 : xb = tx P := by rw [← hE]; exact (List.append_nil _).symm
      subst hE2
      clear hE HA hdr c1
      go_wp2_with (go_at_call 36; refine (Try.Builder_String_any_k w.heap.size w.heap.size _ _ HBU.out HB.out.size).mono ?_; rintro e w4 ⟨rfl, _, b4, _⟩)
      go_ret
      exact ⟨by first | rfl | simp, HB.out.trans b4⟩
end Go.Proofs.Ytpghnadlekafpaa.PBuf
