/- Layer 24: a box and the document's box, held against each other. -/
import Derived.Test.YtjgaikmejccdkaaDoorDocP
import Derived.Deep.QuietTactic
import Derived.BigQuiet
namespace Go.Proofs.YtjgaikmejccdkaaDoor.PDoc
open Go.RowKit Go.Proofs.YtjgaikmejccdkaaDoorW.PrintWords Go.Proofs.YtjgaikmejccdkaaDoorW.PrintLast Go.Proofs.YtjgaikmejccdkaaDoorW.PrintMore
set_option linter.unusedVariables false
set_option linter.unusedSimpArgs false
theorem WB_parts {b : Bo} (h : WB b) : kd (dB b) = b.f0 ∧ byD (dB b) = b.f2 ∧ ps (dB b) = b.f3.map dB ∧ ow (dB b) = (if b.f0 = 0 then cl b.f1 else ⟨#[]⟩) ∧ (∀ c ∈ b.f3, WB c) ∧ b.f1.size ≤ 30 ∧ nbL (b.f3.map dB) ≤ nb (dB b) := by
  rcases WB_cases h with ⟨e0, e1, e2, e3, ed⟩ | ⟨e0, e1, e2, e3, ed⟩ | ⟨e0, e1, e2, e3, ed⟩ | ⟨e0, e1, e2, e3, ed⟩ | ⟨e0, e1, e2, e2', e3, ed⟩
  · rw [ed, e0, e2, e3]; exact ⟨rfl, rfl, rfl, rfl, by simp, e1, by simp [nbL]⟩
  · rw [ed, e0, e1, e2, e3]; exact ⟨rfl, rfl, rfl, rfl, by simp, by decide, by simp [nbL]⟩
  · rw [ed, e0, e1, e2, e3]; exact ⟨rfl, rfl, rfl, rfl, by simp, by decide, by simp [nbL]⟩
  · rw [ed, e0, e1, e2, e3]; exact ⟨rfl, rfl, rfl, rfl, by simp, by decide, by simp [nbL]⟩
  · rw [ed, e1]
    refine ⟨rfl, rfl, rfl, ?_, e3, by decide, ?_⟩
    · rw [if_neg (by omega)]; rfl
    · unfold bD; rw [nb_some]; exact Nat.le_add_left _ _
def sm11.T : Bool × List (List Nat × List Nat) := (true, [([], []), ([], []), ([], []), ([1, 2], [1, 2]), ([3], [3]), ([], []), ([5], [5]), ([], []), ([6, 7], [6, 7]), ([8], [8]), ([4, 9], [4, 9]), ([0, 10], [0, 10]), ([11, 10, 0, 1, 2, 3, 4, 5, 6, 7, 8, 9, 10, 11], [0, 11])])
def sm11.B : List Nat := [0, 0, 0, 6, 14, 0, 32, 0, 224, 480, 1022, 2047, 4095]
theorem sm11.tab : rtab .any (opsOf Tryd.f22 11) = sm11.T := by kernel_rfl
theorem sm11.bits : waitsOk sm11.T.2 sm11.B = true := by kernel_rfl
set_option maxHeartbeats 8000000 in
set_option maxRecDepth 100000 in
theorem same_ : ∀ b : Bo, WB b → nb (dB b) ≤ 1000000 → ∀ (w : World) (v : Value) (A : Option Addr) (c : Nat), DV w v (dB b) → kB.C w A b.f3.length b.f3 → b.f3.length ≤ c → Calls Tryd.prog 22 #[v, .agg #[.int .i64 b.f0, .string b.f1, .int .i64 b.f2, .slice A b.f3.length c]] w fun e w' => e = .returned (.int .i64 0) ∧ Below w.heap.size w w' := by
  apply boxesB
  intro b ih hb hn w v A c hd hC hc
  obtain ⟨p1, p2, p3, p4, p5, p6, p7⟩ := WB_parts hb
  have hlen := nbL_len2 (b.f3.map dB)
  rw [List.length_map] at hlen
  have IH := Aside0.mk (fun (i : Nat) (hi : i < b.f3.length) (u : World) => ih b.f3[i] (List.getElem_mem hi) (p5 _ (List.getElem_mem hi)) (by have := nbL_mem (List.mem_map_of_mem (f := dB) (List.getElem_mem hi)); omega) u)
  have HLE := Aside0.mk (show b.f3.length ≤ 1000000 by omega)
  obtain ⟨wb, hwb⟩ : ∃ wb, w.alloc (.cells #[.int .i64 b.f0, .string b.f1, .int .i64 b.f2, .slice A b.f3.length c] 27) = wb := ⟨_, rfl⟩
  have hbw : Below w.heap.size w wb := hwb ▸ below_alloc (Below.refl _ _) _
  have HBT := Aside0.mk (show wb.heap[w.heap.size]? = some (.cells #[.int .i64 b.f0, .string b.f1, .int .i64 b.f2, .slice A b.f3.length c] 27 (0, 0)) from hwb ▸ blk_new w _)
  have HD := Aside0.mk (hd.below hbw)
  have HC := Aside0.mk (Kd.C_below hC hbw)
  have HB := Aside0.mk hbw
  have HPA := Aside0.mk (show Calls Tryd.prog 19 #[v] wb fun e w' => ∃ A1 c1, e = .returned (.slice A1 b.f3.length c1) ∧ kD.C w' A1 b.f3.length (b.f3.map dB) ∧ Below wb.heap.size wb w' from by
    refine (Parts_ HD.out (by rw [p3, List.length_map]; have := HLE.out; omega)).mono ?_
    rintro e w' ⟨A1, c1, he, -, hk, hb⟩
    rw [p3, List.length_map] at he hk
    exact ⟨A1, c1, he, hk, hb⟩)
  have HKD := Aside0.mk (fun (u : World) (h : DV u v (dB b)) => (show Calls Tryd.prog 18 #[v] u fun e w' => e = .returned (.int .i64 b.f0) ∧ w' = u from p1 ▸ Kind_ h))
  have HBY := Aside0.mk (fun (u : World) (h : DV u v (dB b)) => (show Calls Tryd.prog 40 #[v] u fun e w' => e = .returned (.int .i64 b.f2) ∧ w' = u from p2 ▸ By_ h))
  obtain ⟨T, hT⟩ : ∃ T, T = ow (dB b) := ⟨_, rfl⟩
  have HOW := Aside0.mk (fun (u : World) (h : DV u v (dB b)) => (show Calls Tryd.prog 41 #[v] u fun e w' => e = .returned (.string T) ∧ w' = u from hT ▸ Own_ h))
  have k0 : wb.cell? ⟨w.heap.size, 0, none⟩ = some (.int .i64 b.f0) := (blk_cell HBT.out 0).trans rfl
  have k1 : wb.cell? ⟨w.heap.size, 1, none⟩ = some (.string b.f1) := (blk_cell HBT.out 1).trans rfl
  rw [p4] at hT
  have HCL := Aside0.mk (fun (u : World) => frisketref24_Clean.calls b.f1 (cl b.f1) u (clean_f _ (by omega)))
  clear hd hC hb hn hlen ih p1 p2 p3 p4 p5 p6 p7 hbw
  by_cases c0 : b.f0 = 0
  · have h0 : (b.f0 == 0) = true := beq_iff_eq.2 c0
    rw [if_pos c0] at hT
    have HCC := Aside0.mk hc
    clear hc c0
    go_enter Tryd.func22, Tryd.ntmps22
    go_upto_region 5 with (first | (go_at_call 19; refine HPA.out.mono ?_; clear HPA hwb; rintro e w1 ⟨A1, c1, rfl, hC1, hb⟩; have HC1 := Aside0.mk hC1; have n0_ := Aside0.mk (below_step HB.out hb); have n1_ := Aside0.mk (blk_below HBT.out hb); have n2_ := Aside0.mk (HD.out.below hb); have n3_ := Aside0.mk (Kd.C_below HC.out hb); clear HB HBT HD HC hb hC1 k0 k1; have HB := n0_; have HBT := n1_; have HD := n2_; have HC := n3_; clear n0_ n1_ n2_ n3_; have k0 : w1.cell? ⟨w.heap.size, 0, none⟩ = some (.int .i64 b.f0) := (blk_cell HBT.out 0).trans rfl; have k1 : w1.cell? ⟨w.heap.size, 1, none⟩ = some (.string b.f1) := (blk_cell HBT.out 1).trans rfl) | (go_at_call 39; refine (HCL.out _).mono ?_; clear HCL; rintro e w2 ⟨rfl, hb⟩; have n0_ := Aside0.mk (below_step HB.out hb); have n1_ := Aside0.mk (blk_below HBT.out hb); have n2_ := Aside0.mk (HD.out.below hb); have n3_ := Aside0.mk (Kd.C_below HC.out hb); have n4_ := Aside0.mk (Kd.C_below HC1.out hb); clear HB HBT HD HC HC1 hb k0 k1; have HB := n0_; have HBT := n1_; have HD := n2_; have HC := n3_; have HC1 := n4_; clear n0_ n1_ n2_ n3_ n4_))
    try clear k0 k1
    have kk0 : w2.cell? ⟨w.heap.size, 0, none⟩ = some (.int .i64 b.f0) := (blk_cell HBT.out 0).trans rfl
    have kk2 : w2.cell? ⟨w.heap.size, 2, none⟩ = some (.int .i64 b.f2) := (blk_cell HBT.out 2).trans rfl
    have kk3 : w2.cell? ⟨w.heap.size, 3, none⟩ = some (.slice A b.f3.length c) := (blk_cell HBT.out 3).trans rfl
    rw [← hT]
    clear hT
    go_quiet (first | (go_at_call 18; exact Calls.quiet_of_same (HKD.out _ (HD.out.below (pw_below_drewN (Below.refl _ _) _)))) | (go_at_call 40; exact Calls.quiet_of_same (HBY.out _ (HD.out.below (pw_below_drewN (Below.refl _ _) _)))) | (go_at_call 41; exact Calls.quiet_of_same (HOW.out _ (HD.out.below (pw_below_drewN (Below.refl _ _) _)))))
    go_wp2
    go_loopg [7, 8] (b.f3.length + 1) (fun kq v7 v8 w' => ∃ (i : Nat), v7 = .int .i64 0 ∧ v8 = .int .i64 (i : Int) ∧ Aside0 (i ≤ b.f3.length ∧ kq + i = b.f3.length + 1) ∧ Aside0 (Below w2.heap.size w2 w'))
    case atStart => exact ⟨0, rfl, rfl, ⟨by omega, rfl⟩, ⟨pw_below_drewN (Below.refl _ _) _⟩⟩
    case round =>
      obtain ⟨i, rfl, rfl, HI, HBW⟩ := hrel
      by_cases c9 : i < b.f3.length
      · have d9 : decide (i < b.f3.length) = true := decide_eq_true c9
        have d9' : decide ((i : Int) < (b.f3.length : Int)) = true := decide_eq_true (by omega)
        obtain ⟨ad1, u, hA1, hcell, hu⟩ := at_D HC1.out i (by simpa using c9)
        rw [List.getElem_map] at hu
        obtain ⟨pu, rfl⟩ := hu.ptr
        obtain ⟨ad, A3, c3, hA, q0, q1, q2, q3, hc3, hC3⟩ := at_T27 HC.out (i : Int) (by omega) (by omega)
        rw [rd_at c9] at q0 q1 q2 q3 hc3 hC3
        rw [Int.toNat_natCast] at q0 q1 q2 q3
        have q5 := kk3
        subst hA1
        subst hA
        have HCE := Aside0.mk (fun (w' : World) (hb : Below w2.heap.size w2 w') => (show w'.cell? ⟨w.heap.size, 3, none⟩ = some (.slice (some ad) b.f3.length c) ∧ w'.cell? (ad1.add i) = some (.pointer pu) ∧ w'.cell? (ad.add (i * 4)) = some (.int .i64 b.f3[i].f0) ∧ w'.cell? ⟨(ad.add (i * 4)).block, (ad.add (i * 4)).off + 1, none⟩ = some (.string b.f3[i].f1) ∧ w'.cell? ⟨(ad.add (i * 4)).block, (ad.add (i * 4)).off + 2, none⟩ = some (.int .i64 b.f3[i].f2) ∧ w'.cell? ⟨(ad.add (i * 4)).block, (ad.add (i * 4)).off + 3, none⟩ = some (.slice A3 b.f3[i].f3.length c3) from ⟨pw_cell_below hb q5, pw_cell_below hb hcell, pw_cell_below hb q0, pw_cell_below hb q1, pw_cell_below hb q2, pw_cell_below hb q3⟩))
        have HCALL := Aside0.mk (fun (u : World) (hb : Below w2.heap.size w2 u) => IH.out i c9 u _ _ _ (hu.below hb) (Kd.C_below hC3 hb) hc3)
        have hle := HLE.out
        have hcc := HCC.out
        have hcn : (i : Int) < (b.f3.length : Int) := by omega
        clear hcell hu q0 q1 q2 q3 q5 hc3 hC3 kk0 kk2 kk3
        go_wp2
        have n0_ := Aside0.mk (below_drew1 HBW.out)
        clear HBW
        have HBW := n0_
        clear n0_
        refine start_ (n := 13) (S := fun w' => w'.cell? ⟨w.heap.size, 3, none⟩ = some (.slice (some ad) b.f3.length c) ∧ w'.cell? (ad1.add i) = some (.pointer pu) ∧ w'.cell? (ad.add (i * 4)) = some (.int .i64 b.f3[i].f0) ∧ w'.cell? ⟨(ad.add (i * 4)).block, (ad.add (i * 4)).off + 1, none⟩ = some (.string b.f3[i].f1) ∧ w'.cell? ⟨(ad.add (i * 4)).block, (ad.add (i * 4)).off + 2, none⟩ = some (.int .i64 b.f3[i].f2) ∧ w'.cell? ⟨(ad.add (i * 4)).block, (ad.add (i * 4)).off + 3, none⟩ = some (.slice A3 b.f3[i].f3.length c3)) (ds := []) #[false, false, false, false, false, false, false, false, false, false, false, false, false] (by kernel_rfl) rfl rfl (HCE.out _ HBW.out) (fun hHeld => ?_); refine with_tabW sm11.tab sm11.bits (fun HT_ HW_ => ?_)
        generalize wr.drew = w5 at HBW hHeld ⊢
        refine pure_ (i := 0) (N := some 49) (v := ?_) (a' := ?_) #[true, false, false, false, false, false, false, false, false, false, false, false, false] rfl rfl (any_of HT_.out (by kernel_rfl)) (fun _ _ _ h => h) (Or.inl ⟨by rfl, ?_⟩) ?_ ?_
        rotate_left
        · intro w'
          go_simp
          try with_reducible rfl
        rotate_left
        · simp only [Act.put, List.setIfInBounds_toArray, List.set_cons_zero, List.set_cons_succ, i64_w, i32_w]
          rfl
        refine pure_ (i := 1) (N := some 50) (v := ?_) (a' := ?_) #[true, true, false, false, false, false, false, false, false, false, false, false, false] rfl rfl (any_of HT_.out (by kernel_rfl)) (fun _ _ _ h => h) (Or.inl ⟨by rfl, ?_⟩) ?_ ?_
        rotate_left
        · intro w'
          go_simp
          try with_reducible rfl
        rotate_left
        · simp only [Act.put, List.setIfInBounds_toArray, List.set_cons_zero, List.set_cons_succ, i64_w, i32_w]
          rfl
        refine pure_ (i := 2) (N := some 51) (v := ?_) (a' := ?_) #[true, true, true, false, false, false, false, false, false, false, false, false, false] rfl rfl (any_of HT_.out (by kernel_rfl)) (fun _ _ _ h => h) (Or.inl ⟨by rfl, ?_⟩) ?_ ?_
        rotate_left
        · intro w'
          go_simp
          try with_reducible rfl
        rotate_left
        · simp only [Act.put, List.setIfInBounds_toArray, List.set_cons_zero, List.set_cons_succ, i64_w, i32_w]
          rfl
        refine pure_ (i := 3) (N := some 52) (v := ?_) (a' := ?_) #[true, true, true, true, false, false, false, false, false, false, false, false, false] rfl rfl (any_of HT_.out (by kernel_rfl)) (fun _ _ _ h => h) (Or.inl ⟨by rfl, ?_⟩) ?_ ?_
        rotate_left
        · intro w'
          go_simp
          try with_reducible rfl
        rotate_left
        · simp only [Act.put, List.setIfInBounds_toArray, List.set_cons_zero, List.set_cons_succ, i64_w, i32_w]
          rfl
        refine take_ (i := 4) (N := some 53) (v := ?_) (a' := ?_) #[true, true, true, true, true, false, false, false, false, false, false, false, false] rfl rfl (take_ofW HT_.out HW_.out (by kernel_rfl)) (fun _ _ _ h => h) (Or.inl ⟨by rfl, ?_⟩) hHeld ?_ ?_
        rotate_left
        · rintro w' ⟨s0, s1, s2, s3, s4, s5⟩
          go_simp
          try with_reducible rfl
        rotate_left
        · simp only [Act.put, List.setIfInBounds_toArray, List.set_cons_zero, List.set_cons_succ, i64_w, i32_w]
          rfl
        refine pure_ (i := 5) (N := some 54) (v := ?_) (a' := ?_) #[true, true, true, true, true, true, false, false, false, false, false, false, false] rfl rfl (any_of HT_.out (by kernel_rfl)) (fun _ _ _ h => h) (Or.inl ⟨by rfl, ?_⟩) ?_ ?_
        rotate_left
        · intro w'
          go_simp
          try with_reducible rfl
        rotate_left
        · simp only [Act.put, List.setIfInBounds_toArray, List.set_cons_zero, List.set_cons_succ, i64_w, i32_w]
          rfl
        refine take_ (i := 6) (N := some 55) (v := ?_) (a' := ?_) #[true, true, true, true, true, true, true, false, false, false, false, false, false] rfl rfl (take_ofW HT_.out HW_.out (by kernel_rfl)) (fun _ _ _ h => h) (Or.inl ⟨by rfl, ?_⟩) hHeld ?_ ?_
        rotate_left
        · rintro w' ⟨s0, s1, s2, s3, s4, s5⟩
          go_simp
          try with_reducible rfl
        rotate_left
        · simp only [Act.put, List.setIfInBounds_toArray, List.set_cons_zero, List.set_cons_succ, i64_w, i32_w]
          rfl
        refine pure_ (i := 7) (N := some 56) (v := ?_) (a' := ?_) #[true, true, true, true, true, true, true, true, false, false, false, false, false] rfl rfl (any_of HT_.out (by kernel_rfl)) (fun _ _ _ h => h) (Or.inl ⟨by rfl, ?_⟩) ?_ ?_
        rotate_left
        · intro w'
          go_simp
          try with_reducible rfl
        rotate_left
        · simp only [Act.put, List.setIfInBounds_toArray, List.set_cons_zero, List.set_cons_succ, i64_w, i32_w]
          rfl
        refine pure_ (i := 8) (N := some 57) (v := ?_) (a' := ?_) #[true, true, true, true, true, true, true, true, true, false, false, false, false] rfl rfl (any_of HT_.out (by kernel_rfl)) (fun _ _ _ h => h) (Or.inl ⟨by rfl, ?_⟩) ?_ ?_
        rotate_left
        · intro w'
          go_simp
          try with_reducible rfl
        rotate_left
        · simp only [Act.put, List.setIfInBounds_toArray, List.set_cons_zero, List.set_cons_succ, i64_w, i32_w]
          rfl
        refine take_ (i := 9) (N := some 58) (v := ?_) (a' := ?_) #[true, true, true, true, true, true, true, true, true, true, false, false, false] rfl rfl (take_ofW HT_.out HW_.out (by kernel_rfl)) (fun _ _ _ h => h) (Or.inl ⟨by rfl, ?_⟩) hHeld ?_ ?_
        rotate_left
        · rintro w' ⟨s0, s1, s2, s3, s4, s5⟩
          go_simp
          try with_reducible rfl
        rotate_left
        · simp only [Act.put, List.setIfInBounds_toArray, List.set_cons_zero, List.set_cons_succ, i64_w, i32_w]
          rfl
        refine one_ (i := 10) (N := some 59) #[true, true, true, true, true, true, true, true, true, true, true, false, false] rfl rfl (one_of HT_.out (by kernel_rfl)) (by decide) (fun K hK => ?_)
        refine goes_ Tryd.func22 (by kernel_rfl) rfl #[.pointer pu, .agg #[.int .i64 b.f3[i].f0, .string b.f3[i].f1, .int .i64 b.f3[i].f2, .slice A3 b.f3[i].f3.length c3]] (by rfl) rfl rfl (by (try simp only [List.map_toArray, List.map_cons, List.map_nil]); first | done | rfl) ?_
        refine (HCALL.out _ HBW.out).mono ?_
        rintro e w6 ⟨rfl, hb⟩
        refine ⟨_, rfl, ?_⟩
        have n0_ := Aside0.mk (below_step HBW.out hb)
        clear HBW hb
        have HBW := n0_
        clear n0_
        refine hK.out _ _ (HCE.out _ HBW.out) (fun hHeld => ?_)
        clear hK K
        refine norm_ (a' := ?_) ?_ ?_
        rotate_left
        · show Act.put _ (some 59) _ = _
          simp only [Act.put, List.setIfInBounds_toArray, List.set_cons_zero, List.set_cons_succ, i64_w, i32_w]
          rfl
        refine pure_ (i := 11) (N := some 60) (v := ?_) (a' := ?_) #[true, true, true, true, true, true, true, true, true, true, true, true, false] rfl rfl (any_of HT_.out (by kernel_rfl)) (fun _ _ _ h => h) (Or.inl ⟨by rfl, ?_⟩) ?_ ?_
        rotate_left
        · intro w'
          go_simp
          try with_reducible rfl
        rotate_left
        · simp only [Act.put, List.setIfInBounds_toArray, List.set_cons_zero, List.set_cons_succ, i64_w, i32_w]
          rfl
        refine pure_ (i := 12) (N := some 7) (v := ?_) (a' := ?_) #[true, true, true, true, true, true, true, true, true, true, true, true, true] rfl rfl (any_of HT_.out (by kernel_rfl)) (fun _ _ _ h => h) (Or.inl ⟨by rfl, ?_⟩) ?_ ?_
        rotate_left
        · intro w'
          go_simp
          try with_reducible rfl
        rotate_left
        · simp only [Act.put, List.setIfInBounds_toArray, List.set_cons_zero, List.set_cons_succ, i64_w, i32_w]
          rfl
        refine done_ (done_of HT_.out (by kernel_rfl)) ?_
        clear hHeld
        go_wp2
        go_roundg (gk - 1)
        case measure => have := HI.out; omega
        case rel => exact ⟨i + 1, congrArg (Value.int .i64) (w64 0 (by omega) (by omega)), by go_num, ⟨by omega, by have := HI.out; omega⟩, HBW⟩
      · have d9 : decide (i < b.f3.length) = false := decide_eq_false c9
        have d9' : decide ((i : Int) < (b.f3.length : Int)) = false := decide_eq_false (by omega)
        clear kk0 kk2 kk3
        go_wp2
        go_ret
        exact ⟨rfl, below_step HB.out HBW.out⟩
  · have h0 : (b.f0 == 0) = false := beq_eq_false_iff_ne.2 c0
    rw [if_neg c0] at hT
    have HCC := Aside0.mk hc
    clear hc c0
    go_enter Tryd.func22, Tryd.ntmps22
    go_upto_region 5 with (first | (go_at_call 19; refine HPA.out.mono ?_; clear HPA hwb; rintro e w1 ⟨A1, c1, rfl, hC1, hb⟩; have HC1 := Aside0.mk hC1; have n0_ := Aside0.mk (below_step HB.out hb); have n1_ := Aside0.mk (blk_below HBT.out hb); have n2_ := Aside0.mk (HD.out.below hb); have n3_ := Aside0.mk (Kd.C_below HC.out hb); clear HB HBT HD HC hb hC1 k0 k1; have HB := n0_; have HBT := n1_; have HD := n2_; have HC := n3_; clear n0_ n1_ n2_ n3_; have k0 : w1.cell? ⟨w.heap.size, 0, none⟩ = some (.int .i64 b.f0) := (blk_cell HBT.out 0).trans rfl; have k1 : w1.cell? ⟨w.heap.size, 1, none⟩ = some (.string b.f1) := (blk_cell HBT.out 1).trans rfl))
    try clear k0 k1
    have kk0 : w1.cell? ⟨w.heap.size, 0, none⟩ = some (.int .i64 b.f0) := (blk_cell HBT.out 0).trans rfl
    have kk2 : w1.cell? ⟨w.heap.size, 2, none⟩ = some (.int .i64 b.f2) := (blk_cell HBT.out 2).trans rfl
    have kk3 : w1.cell? ⟨w.heap.size, 3, none⟩ = some (.slice A b.f3.length c) := (blk_cell HBT.out 3).trans rfl
    rw [← hT]
    clear hT
    go_quiet (first | (go_at_call 18; exact Calls.quiet_of_same (HKD.out _ (HD.out.below (pw_below_drewN (Below.refl _ _) _)))) | (go_at_call 40; exact Calls.quiet_of_same (HBY.out _ (HD.out.below (pw_below_drewN (Below.refl _ _) _)))) | (go_at_call 41; exact Calls.quiet_of_same (HOW.out _ (HD.out.below (pw_below_drewN (Below.refl _ _) _)))))
    go_wp2
    go_loopg [7, 8] (b.f3.length + 1) (fun kq v7 v8 w' => ∃ (i : Nat), v7 = .int .i64 0 ∧ v8 = .int .i64 (i : Int) ∧ Aside0 (i ≤ b.f3.length ∧ kq + i = b.f3.length + 1) ∧ Aside0 (Below w1.heap.size w1 w'))
    case atStart => exact ⟨0, rfl, rfl, ⟨by omega, rfl⟩, ⟨pw_below_drewN (Below.refl _ _) _⟩⟩
    case round =>
      obtain ⟨i, rfl, rfl, HI, HBW⟩ := hrel
      by_cases c9 : i < b.f3.length
      · have d9 : decide (i < b.f3.length) = true := decide_eq_true c9
        have d9' : decide ((i : Int) < (b.f3.length : Int)) = true := decide_eq_true (by omega)
        obtain ⟨ad1, u, hA1, hcell, hu⟩ := at_D HC1.out i (by simpa using c9)
        rw [List.getElem_map] at hu
        obtain ⟨pu, rfl⟩ := hu.ptr
        obtain ⟨ad, A3, c3, hA, q0, q1, q2, q3, hc3, hC3⟩ := at_T27 HC.out (i : Int) (by omega) (by omega)
        rw [rd_at c9] at q0 q1 q2 q3 hc3 hC3
        rw [Int.toNat_natCast] at q0 q1 q2 q3
        have q5 := kk3
        subst hA1
        subst hA
        have HCE := Aside0.mk (fun (w' : World) (hb : Below w1.heap.size w1 w') => (show w'.cell? ⟨w.heap.size, 3, none⟩ = some (.slice (some ad) b.f3.length c) ∧ w'.cell? (ad1.add i) = some (.pointer pu) ∧ w'.cell? (ad.add (i * 4)) = some (.int .i64 b.f3[i].f0) ∧ w'.cell? ⟨(ad.add (i * 4)).block, (ad.add (i * 4)).off + 1, none⟩ = some (.string b.f3[i].f1) ∧ w'.cell? ⟨(ad.add (i * 4)).block, (ad.add (i * 4)).off + 2, none⟩ = some (.int .i64 b.f3[i].f2) ∧ w'.cell? ⟨(ad.add (i * 4)).block, (ad.add (i * 4)).off + 3, none⟩ = some (.slice A3 b.f3[i].f3.length c3) from ⟨pw_cell_below hb q5, pw_cell_below hb hcell, pw_cell_below hb q0, pw_cell_below hb q1, pw_cell_below hb q2, pw_cell_below hb q3⟩))
        have HCALL := Aside0.mk (fun (u : World) (hb : Below w1.heap.size w1 u) => IH.out i c9 u _ _ _ (hu.below hb) (Kd.C_below hC3 hb) hc3)
        have hle := HLE.out
        have hcc := HCC.out
        have hcn : (i : Int) < (b.f3.length : Int) := by omega
        clear hcell hu q0 q1 q2 q3 q5 hc3 hC3 kk0 kk2 kk3
        go_wp2
        have n0_ := Aside0.mk (below_drew1 HBW.out)
        clear HBW
        have HBW := n0_
        clear n0_
        refine start_ (n := 13) (S := fun w' => w'.cell? ⟨w.heap.size, 3, none⟩ = some (.slice (some ad) b.f3.length c) ∧ w'.cell? (ad1.add i) = some (.pointer pu) ∧ w'.cell? (ad.add (i * 4)) = some (.int .i64 b.f3[i].f0) ∧ w'.cell? ⟨(ad.add (i * 4)).block, (ad.add (i * 4)).off + 1, none⟩ = some (.string b.f3[i].f1) ∧ w'.cell? ⟨(ad.add (i * 4)).block, (ad.add (i * 4)).off + 2, none⟩ = some (.int .i64 b.f3[i].f2) ∧ w'.cell? ⟨(ad.add (i * 4)).block, (ad.add (i * 4)).off + 3, none⟩ = some (.slice A3 b.f3[i].f3.length c3)) (ds := []) #[false, false, false, false, false, false, false, false, false, false, false, false, false] (by kernel_rfl) rfl rfl (HCE.out _ HBW.out) (fun hHeld => ?_); refine with_tabW sm11.tab sm11.bits (fun HT_ HW_ => ?_)
        generalize wr.drew = w5 at HBW hHeld ⊢
        refine pure_ (i := 0) (N := some 49) (v := ?_) (a' := ?_) #[true, false, false, false, false, false, false, false, false, false, false, false, false] rfl rfl (any_of HT_.out (by kernel_rfl)) (fun _ _ _ h => h) (Or.inl ⟨by rfl, ?_⟩) ?_ ?_
        rotate_left
        · intro w'
          go_simp
          try with_reducible rfl
        rotate_left
        · simp only [Act.put, List.setIfInBounds_toArray, List.set_cons_zero, List.set_cons_succ, i64_w, i32_w]
          rfl
        refine pure_ (i := 1) (N := some 50) (v := ?_) (a' := ?_) #[true, true, false, false, false, false, false, false, false, false, false, false, false] rfl rfl (any_of HT_.out (by kernel_rfl)) (fun _ _ _ h => h) (Or.inl ⟨by rfl, ?_⟩) ?_ ?_
        rotate_left
        · intro w'
          go_simp
          try with_reducible rfl
        rotate_left
        · simp only [Act.put, List.setIfInBounds_toArray, List.set_cons_zero, List.set_cons_succ, i64_w, i32_w]
          rfl
        refine pure_ (i := 2) (N := some 51) (v := ?_) (a' := ?_) #[true, true, true, false, false, false, false, false, false, false, false, false, false] rfl rfl (any_of HT_.out (by kernel_rfl)) (fun _ _ _ h => h) (Or.inl ⟨by rfl, ?_⟩) ?_ ?_
        rotate_left
        · intro w'
          go_simp
          try with_reducible rfl
        rotate_left
        · simp only [Act.put, List.setIfInBounds_toArray, List.set_cons_zero, List.set_cons_succ, i64_w, i32_w]
          rfl
        refine pure_ (i := 3) (N := some 52) (v := ?_) (a' := ?_) #[true, true, true, true, false, false, false, false, false, false, false, false, false] rfl rfl (any_of HT_.out (by kernel_rfl)) (fun _ _ _ h => h) (Or.inl ⟨by rfl, ?_⟩) ?_ ?_
        rotate_left
        · intro w'
          go_simp
          try with_reducible rfl
        rotate_left
        · simp only [Act.put, List.setIfInBounds_toArray, List.set_cons_zero, List.set_cons_succ, i64_w, i32_w]
          rfl
        refine take_ (i := 4) (N := some 53) (v := ?_) (a' := ?_) #[true, true, true, true, true, false, false, false, false, false, false, false, false] rfl rfl (take_ofW HT_.out HW_.out (by kernel_rfl)) (fun _ _ _ h => h) (Or.inl ⟨by rfl, ?_⟩) hHeld ?_ ?_
        rotate_left
        · rintro w' ⟨s0, s1, s2, s3, s4, s5⟩
          go_simp
          try with_reducible rfl
        rotate_left
        · simp only [Act.put, List.setIfInBounds_toArray, List.set_cons_zero, List.set_cons_succ, i64_w, i32_w]
          rfl
        refine pure_ (i := 5) (N := some 54) (v := ?_) (a' := ?_) #[true, true, true, true, true, true, false, false, false, false, false, false, false] rfl rfl (any_of HT_.out (by kernel_rfl)) (fun _ _ _ h => h) (Or.inl ⟨by rfl, ?_⟩) ?_ ?_
        rotate_left
        · intro w'
          go_simp
          try with_reducible rfl
        rotate_left
        · simp only [Act.put, List.setIfInBounds_toArray, List.set_cons_zero, List.set_cons_succ, i64_w, i32_w]
          rfl
        refine take_ (i := 6) (N := some 55) (v := ?_) (a' := ?_) #[true, true, true, true, true, true, true, false, false, false, false, false, false] rfl rfl (take_ofW HT_.out HW_.out (by kernel_rfl)) (fun _ _ _ h => h) (Or.inl ⟨by rfl, ?_⟩) hHeld ?_ ?_
        rotate_left
        · rintro w' ⟨s0, s1, s2, s3, s4, s5⟩
          go_simp
          try with_reducible rfl
        rotate_left
        · simp only [Act.put, List.setIfInBounds_toArray, List.set_cons_zero, List.set_cons_succ, i64_w, i32_w]
          rfl
        refine pure_ (i := 7) (N := some 56) (v := ?_) (a' := ?_) #[true, true, true, true, true, true, true, true, false, false, false, false, false] rfl rfl (any_of HT_.out (by kernel_rfl)) (fun _ _ _ h => h) (Or.inl ⟨by rfl, ?_⟩) ?_ ?_
        rotate_left
        · intro w'
          go_simp
          try with_reducible rfl
        rotate_left
        · simp only [Act.put, List.setIfInBounds_toArray, List.set_cons_zero, List.set_cons_succ, i64_w, i32_w]
          rfl
        refine pure_ (i := 8) (N := some 57) (v := ?_) (a' := ?_) #[true, true, true, true, true, true, true, true, true, false, false, false, false] rfl rfl (any_of HT_.out (by kernel_rfl)) (fun _ _ _ h => h) (Or.inl ⟨by rfl, ?_⟩) ?_ ?_
        rotate_left
        · intro w'
          go_simp
          try with_reducible rfl
        rotate_left
        · simp only [Act.put, List.setIfInBounds_toArray, List.set_cons_zero, List.set_cons_succ, i64_w, i32_w]
          rfl
        refine take_ (i := 9) (N := some 58) (v := ?_) (a' := ?_) #[true, true, true, true, true, true, true, true, true, true, false, false, false] rfl rfl (take_ofW HT_.out HW_.out (by kernel_rfl)) (fun _ _ _ h => h) (Or.inl ⟨by rfl, ?_⟩) hHeld ?_ ?_
        rotate_left
        · rintro w' ⟨s0, s1, s2, s3, s4, s5⟩
          go_simp
          try with_reducible rfl
        rotate_left
        · simp only [Act.put, List.setIfInBounds_toArray, List.set_cons_zero, List.set_cons_succ, i64_w, i32_w]
          rfl
        refine one_ (i := 10) (N := some 59) #[true, true, true, true, true, true, true, true, true, true, true, false, false] rfl rfl (one_of HT_.out (by kernel_rfl)) (by decide) (fun K hK => ?_)
        refine goes_ Tryd.func22 (by kernel_rfl) rfl #[.pointer pu, .agg #[.int .i64 b.f3[i].f0, .string b.f3[i].f1, .int .i64 b.f3[i].f2, .slice A3 b.f3[i].f3.length c3]] (by rfl) rfl rfl (by (try simp only [List.map_toArray, List.map_cons, List.map_nil]); first | done | rfl) ?_
        refine (HCALL.out _ HBW.out).mono ?_
        rintro e w6 ⟨rfl, hb⟩
        refine ⟨_, rfl, ?_⟩
        have n0_ := Aside0.mk (below_step HBW.out hb)
        clear HBW hb
        have HBW := n0_
        clear n0_
        refine hK.out _ _ (HCE.out _ HBW.out) (fun hHeld => ?_)
        clear hK K
        refine norm_ (a' := ?_) ?_ ?_
        rotate_left
        · show Act.put _ (some 59) _ = _
          simp only [Act.put, List.setIfInBounds_toArray, List.set_cons_zero, List.set_cons_succ, i64_w, i32_w]
          rfl
        refine pure_ (i := 11) (N := some 60) (v := ?_) (a' := ?_) #[true, true, true, true, true, true, true, true, true, true, true, true, false] rfl rfl (any_of HT_.out (by kernel_rfl)) (fun _ _ _ h => h) (Or.inl ⟨by rfl, ?_⟩) ?_ ?_
        rotate_left
        · intro w'
          go_simp
          try with_reducible rfl
        rotate_left
        · simp only [Act.put, List.setIfInBounds_toArray, List.set_cons_zero, List.set_cons_succ, i64_w, i32_w]
          rfl
        refine pure_ (i := 12) (N := some 7) (v := ?_) (a' := ?_) #[true, true, true, true, true, true, true, true, true, true, true, true, true] rfl rfl (any_of HT_.out (by kernel_rfl)) (fun _ _ _ h => h) (Or.inl ⟨by rfl, ?_⟩) ?_ ?_
        rotate_left
        · intro w'
          go_simp
          try with_reducible rfl
        rotate_left
        · simp only [Act.put, List.setIfInBounds_toArray, List.set_cons_zero, List.set_cons_succ, i64_w, i32_w]
          rfl
        refine done_ (done_of HT_.out (by kernel_rfl)) ?_
        clear hHeld
        go_wp2
        go_roundg (gk - 1)
        case measure => have := HI.out; omega
        case rel => exact ⟨i + 1, congrArg (Value.int .i64) (w64 0 (by omega) (by omega)), by go_num, ⟨by omega, by have := HI.out; omega⟩, HBW⟩
      · have d9 : decide (i < b.f3.length) = false := decide_eq_false c9
        have d9' : decide ((i : Int) < (b.f3.length : Int)) = false := decide_eq_false (by omega)
        clear kk0 kk2 kk3
        go_wp2
        go_ret
        exact ⟨rfl, below_step HB.out HBW.out⟩
end Go.Proofs.YtjgaikmejccdkaaDoor.PDoc
