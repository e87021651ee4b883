/- BufPlays, walked. -/
import Derived.Test.YtpghnadlekafpaaBufR
namespace Go.Proofs.Ytpghnadlekafpaa.PBuf
open Go.RowKit Go.Proofs.YtpghnadlekafpaaW.PrintWords Go.Proofs.YtpghnadlekafpaaW.PrintLast Go.Proofs.YtpghnadlekafpaaW.PrintMore
set_option linter.unusedVariables false
set_option linter.unusedSimpArgs false
theorem Bf_lowr {w : World} {base b g : Nat} {Vp Vf Vl : Value} {n : Int} {P : List Pc} {past fut : List St} (h : Bf w base g Vp Vf Vl n P past fut) (hb : b ≤ base) : Bf w b g Vp Vf Vl n P past fut := ⟨h.c, Nat.le_trans hb h.g0, Kd.Q_lower h.p hb, Kd.Q_lower h.f hb, Kd.R_lower h.l hb, h.n, h.ne⟩
set_option maxHeartbeats 4000000 in
set_option maxRecDepth 100000 in
theorem BufPlays (s : ByteArray) (A : Option Addr) (c : Nat) (l : List Ac) (w : World) (hC : Kd.C kA w A l.length l) (hc : l.length ≤ c) : Calls Try.prog 6 #[.string s, .slice A l.length c] w fun e w' => e = .returned (.bool true) ∧ Below w.heap.size w w' := by
  have HB := Aside0.mk (Below.refl w.heap.size w)
  have HGR := Aside0.mk (fun (w1 : World) (hb : Below w.heap.size w w1) => (frisketlaw02_great.calls (wt l) A c l (grA l) w1 (Kd.C_below hC hb) hc (great_eq l hC)).mono (R' := fun e w' => e = .returned (.bool (grA l)) ∧ Below w1.heap.size w1 w') (fun e w' h => ⟨h.1, h.2.below⟩))
  have HC := Aside0.mk hC
  clear hC hc
  by_cases c1 : (s.size : Int) > 300
  · have d1 : decide ((s.size : Int) > 300) = true := decide_eq_true c1
    have d1b : decide (300 < (s.size : Int)) = true := d1
    clear c1
    go_enter Try.func6, Try.ntmps6
    go_wp2_with (go_at_call 8; refine (awake _).mono ?_; rintro e w3 ⟨rfl, hb⟩; have n0_ := Aside0.mk (below_step HB.out hb); clear HB; have HB := n0_; clear n0_; clear hb)
    go_ret
    exact ⟨rfl, HB.out⟩
  have d1 : decide ((s.size : Int) > 300) = false := decide_eq_false c1
  have d1b : decide (300 < (s.size : Int)) = false := d1
  have HS := Aside0.mk (show s.size ≤ 300 by omega)
  clear c1
  cases hg : grA l with
  | true =>
    rw [hg] at HGR
    clear hg
    go_enter Try.func6, Try.ntmps6
    go_wp2_with (first | (go_at_call 14; refine (HGR.out _ HB.out).mono ?_; rintro e w3 ⟨rfl, hb⟩; have n0_ := Aside0.mk (below_step HB.out hb); clear HB; have HB := n0_; clear n0_; clear hb) | (go_at_call 8; refine (awake _).mono ?_; rintro e w3 ⟨rfl, hb⟩; have n0_ := Aside0.mk (below_step HB.out hb); clear HB; have HB := n0_; clear n0_; clear hb))
    go_ret
    exact ⟨rfl, HB.out⟩
  | false =>
    rw [hg] at HGR
    have HNO := Aside0.mk (grA_no hg)
    clear hg
    go_enter Try.func6, Try.ntmps6
    go_wp2_with (first | (go_at_call 14; refine (HGR.out _ HB.out).mono ?_; rintro e w3 ⟨rfl, hb⟩; have n0_ := Aside0.mk (below_step HB.out hb); clear HB; have HB := n0_; clear n0_; clear hb) | (go_at_call 8; refine (awake _).mono ?_; rintro e w3 ⟨rfl, hb⟩; have n0_ := Aside0.mk (below_step HB.out hb); clear HB; have HB := n0_; clear n0_; clear hb) | (go_at_call 9; refine (New s (by have := HS.out; omega) _).mono ?_; rintro e w4 ⟨g, Vl0, rfl, hB, hb⟩; have HF0 := Aside0.mk (Bf_lowr hB HB.out.size); have n0_ := Aside0.mk (below_step HB.out hb); clear HB; have HB := n0_; clear n0_; clear hb; clear hB) | ((with_reducible refine gate_dst (N := 45) rfl ?_); refine st_lit rfl rfl rfl ?_; intro A70 c70 w6 hR hb; have HR7 := Aside0.mk (Kd.R_lower hR HB.out.size); have n1_ := Aside0.mk (HF0.out.below hb); clear HF0; have HF0 := n1_; clear n1_ hR; have n0_ := Aside0.mk (below_step HB.out hb); clear HB; have HB := n0_; clear n0_; clear hb) | ((with_reducible refine gate_dst (N := 46) rfl ?_); refine st_lit rfl rfl rfl ?_; intro A80 c80 w7 hR hb; have HM0 := Aside0.mk (show Ms w g _ _ _ _ _ _ _ _ [] _ [] w7 from ⟨HF0.out.below hb, Kd.R_below HR7.out hb, Kd.R_lower hR HB.out.size, below_step HB.out hb⟩); clear HF0 HR7 HB hR hb))
    all_goals (
    go_loopg [7, 8, 9, 10, 11] (l.length + 1) (fun kq v7 v8 v9 v10 v11 w' => ∃ (x : Int) (A7 : Option Addr) (c7 : Nat) (A8 : Option Addr) (c8 : Nat) (ss us : List ByteArray) (T : ByteArray) (kP : Nat) (Vp Vf Vl : Value) (nn : Int) (P : List Pc) (past fut : List St) (ts tu : List (List UInt8)), v7 = .slice A7 ss.length c7 ∧ v8 = .slice A8 us.length c8 ∧ v9 = .string T ∧ v10 = .int .i64 (kP : Int) ∧ v11 = .int .i64 x ∧ Aside0 (0 ≤ x ∧ x.toNat ≤ l.length ∧ kq + x.toNat = l.length + 1) ∧ Aside0 (Ms w g Vp Vf Vl nn P past fut (.slice A7 ss.length c7) ss (.slice A8 us.length c8) us w') ∧ Aside0 (Pl (300 + 6000 * x.toNat) kP x.toNat P past fut ts tu) ∧ Aside0 (kP ≤ 1 + 800000 * x.toNat) ∧ Aside0 (T = tb P ∧ ss = ts.reverse.map mkb ∧ us = tu.reverse.map mkb))
    case atStart => exact ⟨0, A70, c70, A80, c80, [], [], s, 1, _, _, _, _, _, _, _, [], [], rfl, rfl, rfl, rfl, rfl, ⟨by omega, Nat.zero_le _, by simp⟩, HM0, ⟨⟨by have := HM0.out.b.n; have := HS.out; omega, by simp, by simp, by simp, trivial, trivial⟩⟩, ⟨by omega⟩, ⟨tb_one s, rfl, rfl⟩⟩
    case round =>
      clear HM0
      obtain ⟨x, A7, c7, A8, c8, ss, us, T, kP, Vp, Vf, Vl, nn, P, past, fut, ts, tu, rfl, rfl, rfl, rfl, rfl, HI, HM, HP, HKP, HSS⟩ := hrel
      have p1 : 0 ≤ x := HI.out.1
      by_cases c1 : x < (l.length : Int)
      · have d2 : decide (x < (l.length : Int)) = true := decide_eq_true c1
        obtain ⟨ad, A4, c4, e1, hx0, hx1, hx2, hx3, hx4, hc4, hC4⟩ := at_T37 HC.out x p1 c1
        cases e1
        replace hx0 := (HM.out.w.cell (World.block_lt_of_cell? w _ hx0)).trans hx0
        replace hx1 := (HM.out.w.cell (World.block_lt_of_cell? w _ hx1)).trans hx1
        replace hx2 := (HM.out.w.cell (World.block_lt_of_cell? w _ hx2)).trans hx2
        replace hx3 := (HM.out.w.cell (World.block_lt_of_cell? w _ hx3)).trans hx3
        replace hx4 := (HM.out.w.cell (World.block_lt_of_cell? w _ hx4)).trans hx4
        have hlt : x.toNat < l.length := by omega
        have hz : (rd_T37 l x).f3.size ≤ 100 ∧ gr (rd_T37 l x).f4 = false := by
          have e : rd_T37 l x = l[x.toNat] := by simp [rd_T37, List.getD, hlt]
          rw [e]
          exact HNO.out.2 _ (List.getElem_mem hlt)
        generalize rd_T37 l x = a at hx0 hx1 hx2 hx3 hx4 hz hc4 hC4
        obtain ⟨f0, f1, f2, f3, f4⟩ := a
        dsimp only at hx0 hx1 hx2 hx3 hx4 hz hc4 hC4
        have hn60 := HNO.out.1
        have HK := Aside0.mk (show x.toNat ≤ 59 by omega)
        have HF3 := Aside0.mk hz.1
        have HF4 := Aside0.mk (gr_no hz.2)
        have HL4 := Aside0.mk (And.intro hC4 hc4)
        have C1 := Aside0.mk c1
        have HLA := Aside0.mk (show past.length = ss.length by rw [HP.out.la, HSS.out.2.1]; simp)
        have HLF := Aside0.mk (show fut.length = us.length by rw [HP.out.lf, HSS.out.2.2]; simp)
        have HLS := Aside0.mk (show ss.length ≤ x.toNat ∧ us.length ≤ x.toNat from ⟨by rw [← HLA.out]; exact HP.out.a, by rw [← HLF.out]; exact HP.out.f⟩)
        have HSZ := Aside0.mk (show (tx P).length ≤ 1000000 ∧ P.length ≤ 100000000 ∧ past.length ≤ 1000000 ∧ fut.length ≤ 1000000 from ⟨by have := HP.out.t; omega, by have := HP.out.p; have := HKP.out; omega, by have := HP.out.a; omega, by have := HP.out.f; omega⟩)
        have HT := Aside0.mk HSS.out.1
        have g0 := eq_true p1
        have g1x := eq_true c1
        have EW := Aside0.mk (show wrap64 (x + 1) = x + 1 by unfold wrap64; omega)
        clear hz hn60 hlt p1 c1 hC4 hc4
        obtain ⟨W1, hW1⟩ : ∃ W1, W1 = wr.alloc (.cells #[.int .i64 f0, .int .i64 f1, .int .i64 f2, .string f3, .slice A4 f4.length c4] 37) := ⟨_, rfl⟩
        have HXB := Aside0.mk (blk_new wr (.cells #[.int .i64 f0, .int .i64 f1, .int .i64 f2, .string f3, .slice A4 f4.length c4] 37))
        have n0_ := Aside0.mk (HM.out.below (below_alloc (Below.refl _ _) (.cells #[.int .i64 f0, .int .i64 f1, .int .i64 f2, .string f3, .slice A4 f4.length c4] 37)))
        clear HM hW1 W1
        have HM := n0_
        clear n0_
        have HZ0 := Aside0.mk (show P.length ≤ 100000000 ∧ (tx P).length ≤ 1000000 ∧ 1 ≤ P.length ∧ decide ((P.length : Int) < 1) = false ∧ decide ((P.length : Int) > (kP : Int)) = false ∧ decide (kP < P.length) = false from by
          have h1 := HP.out.p
          have h6 : 1 ≤ P.length := List.length_pos_iff.2 HM.out.b.ne
          have := HSZ.out
          exact ⟨by omega, by omega, h6, decide_eq_false (by omega), decide_eq_false (by omega), decide_eq_false (by omega)⟩)
        by_cases k0 : f0 = 0
        · subst k0
          cases hr0 : rt ((tx P).length : Int) 0 [(⟨f1, f2, f3⟩ : X)] with
          | true =>
            have HR0 := Aside0.mk hr0
            clear hr0 HZ0
            as_aux_lemma =>
              go_wp2_with (first | ((with_reducible refine gate_dst (N := 75) rfl ?_); refine ed_lit rfl rfl _ rfl f1 f2 f3 (by first | rfl | (go_simp; done) | (go_simp; rfl)) ?_; intro A13 c13 w3 m hm hR hb; have HMM := Aside0.mk hm; have HRT := Aside0.mk (show rt ((tx P).length : Int) 0 m = true from (by rw [hm]; exact HR0.out)); have HMZ := Aside0.mk (show m.length ≤ 30 ∧ ∀ e ∈ m, e.f2.size ≤ 100 from (by rw [hm]; exact ⟨by simp, fun e he => by simp at he; rw [he]; exact HF3.out⟩)); have HRm := Aside0.mk (show Rm w w3 A13 c13 m from .inl (Kd.R_lower hR HM.out.w.size)); have hmv := Mv.of_below (b := w.heap.size) hb; have n0_ := Aside0.mk (HM.out.below hb); have n1_ := Aside0.mk (hmv.blk HXB.out (by decide)); clear HM HXB; have HM := n0_; have HXB := n1_; clear n0_ n1_; clear hmv; clear hR hb hm) | (go_at_call 20; refine (refRight_ P T HT.out HRm.out (by have := HMZ.out.1; omega)).mono ?_; rintro e w4 ⟨rfl, hb⟩; rw [HRT.out]; have hmv := Mv.of_below (b := w.heap.size) hb; have n0_ := Aside0.mk (HM.out.below hb); have n1_ := Aside0.mk (hmv.blk HXB.out (by decide)); have n2_ := Aside0.mk (HRm.out.mv hmv HM.out.w.size); clear HM HXB HRm; have HM := n0_; have HXB := n1_; have HRm := n2_; clear n0_ n1_ n2_; clear hmv hb; have k0 : w4.cell? ⟨wr.heap.size, 0, none⟩ = some (.int .i64 0) := (blk_cell HXB.out 0).trans rfl; have k1 : w4.cell? ⟨wr.heap.size, 1, none⟩ = some (.int .i64 f1) := (blk_cell HXB.out 1).trans rfl; have k2 : w4.cell? ⟨wr.heap.size, 2, none⟩ = some (.int .i64 f2) := (blk_cell HXB.out 2).trans rfl; have k3 : w4.cell? ⟨wr.heap.size, 3, none⟩ = some (.string f3) := (blk_cell HXB.out 3).trans rfl) | (go_at_call 10; refine (HM.out.splice HMM.out HRT.out HMZ.out.2 (by have := HSZ.out; omega) (by have := HSZ.out; omega) (by have := HSZ.out; omega)).mono ?_; clear k0 k1 k2 k3; rintro e w5 ⟨rfl, Vp5, Vl5, n5, hM, hmv⟩; have hP2 := HP.out.edit m HRT.out (by have := sz_100 HMZ.out.2; have := HMZ.out.1; omega) (by have := HMZ.out.1; omega) (by have := HK.out; omega); have hne := hM.b.ne; obtain ⟨P', hP'⟩ : ∃ P', P' = dosP P m := ⟨_, rfl⟩; rw [← hP'] at hM hP2 hne; obtain ⟨T', hT'⟩ : ∃ T', T' = tb P' := ⟨_, rfl⟩; have HT2 := Aside0.mk hT'; have HTA := Aside0.mk (show T' = tb (dosP P m) from (by rw [hT', hP'])); obtain ⟨past', hpast'⟩ : ∃ past', past' = trim (past ++ [⟨m, tX (tb P) 0 0 m⟩]) := ⟨_, rfl⟩; rw [← hpast'] at hM hP2; clear hpast'; have HP2 := Aside0.mk hP2; have hem : wrap64 ((kP : Int) + wrap64 (2 * (m.length : Int))) = ((kP + 2 * m.length : Nat) : Int) := (by have := HMZ.out.1; have := HKP.out; have := HK.out; unfold wrap64; omega); have HZ := Aside0.mk (show P'.length ≤ 100000000 ∧ (tx P').length ≤ 1000000 ∧ 1 ≤ P'.length ∧ decide ((P'.length : Int) < 1) = false ∧ decide ((P'.length : Int) > wrap64 ((kP : Int) + wrap64 (2 * (m.length : Int)))) = false ∧ True from (by have h1 := hP2.p; have h2 := hP2.t; have h3 := HKP.out; have h4 := HK.out; have h5 := HMZ.out.1; have h6 : 1 ≤ P'.length := List.length_pos_iff.2 hne; refine ⟨by omega, by omega, h6, decide_eq_false (by omega), decide_eq_false (by rw [hem]; omega), trivial⟩)); have EM := Aside0.mk hem; have HLA := Aside0.mk (show past'.length = ts.length + 1 from hP2.la); have n0_ := Aside0.mk (hM); have n1_ := Aside0.mk (HRm.out.mv hmv HM.out.w.size); clear HM HRm; have HM := n0_; have HRm := n1_; clear n0_ n1_; clear hM hmv hP2 hP' hT' hem hne HXB) | ((with_reducible refine gate_dst (N := 107) rfl ?_); refine st_lit rfl rfl rfl ?_; intro Aq cq w6 hR hb; have HRq := Aside0.mk hR; have HBq := Aside0.mk hb; clear hR hb) | ((with_reducible refine gate_builtin (b := .append) (xs := #[.tmp 107, .tmp 108]) rfl ?_); at_builtin; refine st_rows (W0 := w5) rfl _ _ rfl rfl rfl HRq.out (R_c (Kd.R_below HM.out.p HBq.out)).1 HBq.out (by have := HLS.out; have := HK.out; omega) ?_; intro Ar nr cr w7 hR hb; have n0_ := Aside0.mk (hR); have n1_ := Aside0.mk (hb); clear HRq HBq; have HRq := n0_; have HBq := n1_; clear n0_ n1_; clear hR hb) | ((with_reducible refine gate_builtin (b := .append) (xs := #[.tmp 109, .tmp 111]) rfl ?_); at_builtin; refine st_one (W0 := w5) rfl _ _ rfl rfl rfl HRq.out HBq.out (by have := HLS.out; have := HK.out; omega) T ?_; intro At ct w8 ss' hss' hR hb; have HS2 := Aside0.mk hss'; have hmv := Mv.of_below (b := w.heap.size) hb; have n0_ := Aside0.mk ((HM.out.past_ hb hR).fnil); have n1_ := Aside0.mk (HRm.out.mv hmv HM.out.w.size); clear HM HRm; have HM := n0_; have HRm := n1_; clear n0_ n1_; clear hmv; clear hR hb hss' HRq HBq) | (go_at_call 21; refine (refApply_ P T T' HT.out HTA.out HRm.out HRT.out (by have := HMZ.out.1; omega) (by have := HSZ.out; omega) (by have := sz_100 HMZ.out.2; have := HMZ.out.1; omega)).mono ?_; rintro e w9 ⟨rfl, hb⟩; have n0_ := Aside0.mk (HM.out.below hb); clear HM; have HM := n0_; clear n0_; clear hb HRm) | (go_at_call 16; with_reducible refine (HM.out.text T' HT2.out (by have := HZ.out; omega) (by have := HZ.out; omega)).mono ?_; rintro e w8 ⟨rfl, hm⟩; have n0_ := Aside0.mk (hm); clear HM; have HM := n0_; clear n0_; clear hm) | (go_at_call 13; with_reducible refine (HM.out.len T' HT2.out).mono ?_; rintro e w8 ⟨rfl, hm⟩; have n0_ := Aside0.mk (hm); clear HM; have HM := n0_; clear n0_; clear hm) | (go_at_call 11; with_reducible refine (HM.out.pastc ss'.length (by rw [HLA.out, HS2.out, HSS.out.2.1]; simp)).mono ?_; rintro e w8 ⟨rfl, hm⟩; have n0_ := Aside0.mk (hm); clear HM; have HM := n0_; clear n0_; clear hm) | (go_at_call 17; with_reducible refine (HM.out.futurec 0 rfl).mono ?_; rintro e w8 ⟨rfl, hm⟩; have n0_ := Aside0.mk (hm); clear HM; have HM := n0_; clear n0_; clear hm) | (go_at_call 23; have dp1 := HZ.out.2.2.2.1; have dp2 := HZ.out.2.2.2.2.1; have dp3 := HZ.out.2.2.2.2.2; with_reducible refine (HM.out.pieces).mono ?_; rintro e w8 ⟨rfl, hm⟩; have n0_ := Aside0.mk (hm); clear HM; have HM := n0_; clear n0_; clear hm))
              all_goals (
              go_roundg (gk - 1)
              case measure => have := HI.out; have := C1.out; omega
              case rel =>
                have hi := HI.out
                have hc := C1.out
                have hkp := HKP.out
                have hpl := HP2.out
                have hmz := HMZ.out.1
                have e2 : (x + 1).toNat = x.toNat + 1 := by omega
                refine ⟨x + 1, _, _, _, _, ss', [], T', kP + 2 * m.length, _, _, _, _, P', past', [], tx P :: ts, [], rfl, rfl, rfl, by rw [EM.out], by rw [EW.out], ⟨by omega, by omega, by omega⟩, HM, ?_, ?_, ?_⟩
                · rw [e2]; exact ⟨hpl.keep (by omega) (by omega)⟩
                · rw [e2]; exact ⟨by omega⟩
                · exact ⟨HT2.out, by rw [HS2.out, HSS.out.2.1, HSS.out.1]; simp, rfl⟩
              )
          | false =>
            have HR0 := Aside0.mk hr0
            have HZ := HZ0
            clear hr0 HZ0
            as_aux_lemma =>
              go_wp2_with (first | ((with_reducible refine gate_dst (N := 75) rfl ?_); refine ed_lit rfl rfl _ rfl f1 f2 f3 (by first | rfl | (go_simp; done) | (go_simp; rfl)) ?_; intro A13 c13 w3 m hm hR hb; have HMM := Aside0.mk hm; have HRT := Aside0.mk (show rt ((tx P).length : Int) 0 m = false from (by rw [hm]; exact HR0.out)); have HMZ := Aside0.mk (show m.length ≤ 30 ∧ ∀ e ∈ m, e.f2.size ≤ 100 from (by rw [hm]; exact ⟨by simp, fun e he => by simp at he; rw [he]; exact HF3.out⟩)); have HRm := Aside0.mk (show Rm w w3 A13 c13 m from .inl (Kd.R_lower hR HM.out.w.size)); have hmv := Mv.of_below (b := w.heap.size) hb; have n0_ := Aside0.mk (HM.out.below hb); have n1_ := Aside0.mk (hmv.blk HXB.out (by decide)); clear HM HXB; have HM := n0_; have HXB := n1_; clear n0_ n1_; clear hmv; clear hR hb hm) | (go_at_call 20; refine (refRight_ P T HT.out HRm.out (by have := HMZ.out.1; omega)).mono ?_; rintro e w4 ⟨rfl, hb⟩; rw [HRT.out]; have hmv := Mv.of_below (b := w.heap.size) hb; have n0_ := Aside0.mk (HM.out.below hb); have n1_ := Aside0.mk (hmv.blk HXB.out (by decide)); have n2_ := Aside0.mk (HRm.out.mv hmv HM.out.w.size); clear HM HXB HRm; have HM := n0_; have HXB := n1_; have HRm := n2_; clear n0_ n1_ n2_; clear hmv hb; have k0 : w4.cell? ⟨wr.heap.size, 0, none⟩ = some (.int .i64 0) := (blk_cell HXB.out 0).trans rfl; have k1 : w4.cell? ⟨wr.heap.size, 1, none⟩ = some (.int .i64 f1) := (blk_cell HXB.out 1).trans rfl; have k2 : w4.cell? ⟨wr.heap.size, 2, none⟩ = some (.int .i64 f2) := (blk_cell HXB.out 2).trans rfl; have k3 : w4.cell? ⟨wr.heap.size, 3, none⟩ = some (.string f3) := (blk_cell HXB.out 3).trans rfl) | (go_at_call 10; refine (HM.out.splice_no HMM.out HRT.out).mono ?_; clear k0 k1 k2 k3; rintro e w5 ⟨rfl, hM⟩; have n0_ := Aside0.mk (hM); clear HM; have HM := n0_; clear n0_; clear hM HXB HRm) | (go_at_call 16; with_reducible refine (HM.out.text T HT.out (by have := HZ.out; omega) (by have := HZ.out; omega)).mono ?_; rintro e w8 ⟨rfl, hm⟩; have n0_ := Aside0.mk (hm); clear HM; have HM := n0_; clear n0_; clear hm) | (go_at_call 13; with_reducible refine (HM.out.len T HT.out).mono ?_; rintro e w8 ⟨rfl, hm⟩; have n0_ := Aside0.mk (hm); clear HM; have HM := n0_; clear n0_; clear hm) | (go_at_call 11; with_reducible refine (HM.out.pastc ss.length HLA.out).mono ?_; rintro e w8 ⟨rfl, hm⟩; have n0_ := Aside0.mk (hm); clear HM; have HM := n0_; clear n0_; clear hm) | (go_at_call 17; with_reducible refine (HM.out.futurec us.length HLF.out).mono ?_; rintro e w8 ⟨rfl, hm⟩; have n0_ := Aside0.mk (hm); clear HM; have HM := n0_; clear n0_; clear hm) | (go_at_call 23; have dp1 := HZ.out.2.2.2.1; have dp2 := HZ.out.2.2.2.2.1; have dp3 := HZ.out.2.2.2.2.2; with_reducible refine (HM.out.pieces).mono ?_; rintro e w8 ⟨rfl, hm⟩; have n0_ := Aside0.mk (hm); clear HM; have HM := n0_; clear n0_; clear hm))
              all_goals (
              go_roundg (gk - 1)
              case measure => have := HI.out; have := C1.out; omega
              case rel =>
                have hi := HI.out
                have hc := C1.out
                have hkp := HKP.out
                have hpl := HP.out
                have e2 : (x + 1).toNat = x.toNat + 1 := by omega
                refine ⟨x + 1, _, _, _, _, ss, us, T, kP, _, _, _, _, P, past, fut, ts, tu, rfl, rfl, rfl, rfl, by rw [EW.out], ⟨by omega, by omega, by omega⟩, HM, ?_, ?_, ?_⟩
                · rw [e2]; exact ⟨hpl.keep (by omega) (by omega)⟩
                · rw [e2]; exact ⟨by omega⟩
                · exact ⟨HT.out, HSS.out.2.1, HSS.out.2.2⟩
              )
        by_cases k1 : f0 = 1
        · subst k1
          have HMZ := HF4
          have HRm := Aside0.mk (show Rm w _ A4 c4 f4 from .inr ⟨HL4.out.1, HL4.out.2, HM.out.w⟩)
          obtain ⟨m, hm⟩ : ∃ m, m = f4 := ⟨_, rfl⟩
          subst hm
          cases hr0 : rt ((tx P).length : Int) 0 m with
          | true =>
            have HRT := Aside0.mk hr0
            clear hr0 HZ0
            as_aux_lemma =>
              go_wp2_with (first | (go_at_call 20; refine (refRight_ P T HT.out HRm.out (by have := HMZ.out.1; omega)).mono ?_; rintro e w4 ⟨rfl, hb⟩; rw [HRT.out]; have hmv := Mv.of_below (b := w.heap.size) hb; have n0_ := Aside0.mk (HM.out.below hb); have n1_ := Aside0.mk (hmv.blk HXB.out (by decide)); have n2_ := Aside0.mk (HRm.out.mv hmv HM.out.w.size); clear HM HXB HRm; have HM := n0_; have HXB := n1_; have HRm := n2_; clear n0_ n1_ n2_; clear hmv hb; have k0 : w4.cell? ⟨wr.heap.size, 0, none⟩ = some (.int .i64 1) := (blk_cell HXB.out 0).trans rfl) | (go_at_call 15; refine (HM.out.apply HRm.out HRT.out (by have := HMZ.out.1; omega) HMZ.out.2 (by have := HSZ.out; omega) (by have := HSZ.out; omega) (by have := HSZ.out; omega)).mono ?_; clear k0; rintro e w5 ⟨rfl, Vp5, Vl5, n5, hM, hmv⟩; have hP2 := HP.out.edit m HRT.out (by have := sz_100 HMZ.out.2; have := HMZ.out.1; omega) (by have := HMZ.out.1; omega) (by have := HK.out; omega); have hne := hM.b.ne; obtain ⟨P', hP'⟩ : ∃ P', P' = dosP P m := ⟨_, rfl⟩; rw [← hP'] at hM hP2 hne; obtain ⟨T', hT'⟩ : ∃ T', T' = tb P' := ⟨_, rfl⟩; have HT2 := Aside0.mk hT'; have HTA := Aside0.mk (show T' = tb (dosP P m) from (by rw [hT', hP'])); obtain ⟨past', hpast'⟩ : ∃ past', past' = trim (past ++ [⟨m, tX (tb P) 0 0 m⟩]) := ⟨_, rfl⟩; rw [← hpast'] at hM hP2; clear hpast'; have HP2 := Aside0.mk hP2; have hem : wrap64 ((kP : Int) + wrap64 (2 * (m.length : Int))) = ((kP + 2 * m.length : Nat) : Int) := (by have := HMZ.out.1; have := HKP.out; have := HK.out; unfold wrap64; omega); have HZ := Aside0.mk (show P'.length ≤ 100000000 ∧ (tx P').length ≤ 1000000 ∧ 1 ≤ P'.length ∧ decide ((P'.length : Int) < 1) = false ∧ decide ((P'.length : Int) > wrap64 ((kP : Int) + wrap64 (2 * (m.length : Int)))) = false ∧ True from (by have h1 := hP2.p; have h2 := hP2.t; have h3 := HKP.out; have h4 := HK.out; have h5 := HMZ.out.1; have h6 : 1 ≤ P'.length := List.length_pos_iff.2 hne; refine ⟨by omega, by omega, h6, decide_eq_false (by omega), decide_eq_false (by rw [hem]; omega), trivial⟩)); have EM := Aside0.mk hem; have HLA := Aside0.mk (show past'.length = ts.length + 1 from hP2.la); have n0_ := Aside0.mk (hM); have n1_ := Aside0.mk (HRm.out.mv hmv HM.out.w.size); clear HM HRm; have HM := n0_; have HRm := n1_; clear n0_ n1_; clear hM hmv hP2 hP' hT' hem hne HXB) | ((with_reducible refine gate_dst (N := 107) rfl ?_); refine st_lit rfl rfl rfl ?_; intro Aq cq w6 hR hb; have HRq := Aside0.mk hR; have HBq := Aside0.mk hb; clear hR hb) | ((with_reducible refine gate_builtin (b := .append) (xs := #[.tmp 107, .tmp 108]) rfl ?_); at_builtin; refine st_rows (W0 := w5) rfl _ _ rfl rfl rfl HRq.out (R_c (Kd.R_below HM.out.p HBq.out)).1 HBq.out (by have := HLS.out; have := HK.out; omega) ?_; intro Ar nr cr w7 hR hb; have n0_ := Aside0.mk (hR); have n1_ := Aside0.mk (hb); clear HRq HBq; have HRq := n0_; have HBq := n1_; clear n0_ n1_; clear hR hb) | ((with_reducible refine gate_builtin (b := .append) (xs := #[.tmp 109, .tmp 111]) rfl ?_); at_builtin; refine st_one (W0 := w5) rfl _ _ rfl rfl rfl HRq.out HBq.out (by have := HLS.out; have := HK.out; omega) T ?_; intro At ct w8 ss' hss' hR hb; have HS2 := Aside0.mk hss'; have hmv := Mv.of_below (b := w.heap.size) hb; have n0_ := Aside0.mk ((HM.out.past_ hb hR).fnil); have n1_ := Aside0.mk (HRm.out.mv hmv HM.out.w.size); clear HM HRm; have HM := n0_; have HRm := n1_; clear n0_ n1_; clear hmv; clear hR hb hss' HRq HBq) | (go_at_call 21; refine (refApply_ P T T' HT.out HTA.out HRm.out HRT.out (by have := HMZ.out.1; omega) (by have := HSZ.out; omega) (by have := sz_100 HMZ.out.2; have := HMZ.out.1; omega)).mono ?_; rintro e w9 ⟨rfl, hb⟩; have n0_ := Aside0.mk (HM.out.below hb); clear HM; have HM := n0_; clear n0_; clear hb HRm) | (go_at_call 16; with_reducible refine (HM.out.text T' HT2.out (by have := HZ.out; omega) (by have := HZ.out; omega)).mono ?_; rintro e w8 ⟨rfl, hm⟩; have n0_ := Aside0.mk (hm); clear HM; have HM := n0_; clear n0_; clear hm) | (go_at_call 13; with_reducible refine (HM.out.len T' HT2.out).mono ?_; rintro e w8 ⟨rfl, hm⟩; have n0_ := Aside0.mk (hm); clear HM; have HM := n0_; clear n0_; clear hm) | (go_at_call 11; with_reducible refine (HM.out.pastc ss'.length (by rw [HLA.out, HS2.out, HSS.out.2.1]; simp)).mono ?_; rintro e w8 ⟨rfl, hm⟩; have n0_ := Aside0.mk (hm); clear HM; have HM := n0_; clear n0_; clear hm) | (go_at_call 17; with_reducible refine (HM.out.futurec 0 rfl).mono ?_; rintro e w8 ⟨rfl, hm⟩; have n0_ := Aside0.mk (hm); clear HM; have HM := n0_; clear n0_; clear hm) | (go_at_call 23; have dp1 := HZ.out.2.2.2.1; have dp2 := HZ.out.2.2.2.2.1; have dp3 := HZ.out.2.2.2.2.2; with_reducible refine (HM.out.pieces).mono ?_; rintro e w8 ⟨rfl, hm⟩; have n0_ := Aside0.mk (hm); clear HM; have HM := n0_; clear n0_; clear hm))
              all_goals (
              go_roundg (gk - 1)
              case measure => have := HI.out; have := C1.out; omega
              case rel =>
                have hi := HI.out
                have hc := C1.out
                have hkp := HKP.out
                have hpl := HP2.out
                have hmz := HMZ.out.1
                have e2 : (x + 1).toNat = x.toNat + 1 := by omega
                refine ⟨x + 1, _, _, _, _, ss', [], T', kP + 2 * m.length, _, _, _, _, P', past', [], tx P :: ts, [], rfl, rfl, rfl, by rw [EM.out], by rw [EW.out], ⟨by omega, by omega, by omega⟩, HM, ?_, ?_, ?_⟩
                · rw [e2]; exact ⟨hpl.keep (by omega) (by omega)⟩
                · rw [e2]; exact ⟨by omega⟩
                · exact ⟨HT2.out, by rw [HS2.out, HSS.out.2.1, HSS.out.1]; simp, rfl⟩
              )
          | false =>
            have HRT := Aside0.mk hr0
            have HZ := HZ0
            clear hr0 HZ0
            as_aux_lemma =>
              go_wp2_with (first | (go_at_call 20; refine (refRight_ P T HT.out HRm.out (by have := HMZ.out.1; omega)).mono ?_; rintro e w4 ⟨rfl, hb⟩; rw [HRT.out]; have hmv := Mv.of_below (b := w.heap.size) hb; have n0_ := Aside0.mk (HM.out.below hb); have n1_ := Aside0.mk (hmv.blk HXB.out (by decide)); have n2_ := Aside0.mk (HRm.out.mv hmv HM.out.w.size); clear HM HXB HRm; have HM := n0_; have HXB := n1_; have HRm := n2_; clear n0_ n1_ n2_; clear hmv hb; have k0 : w4.cell? ⟨wr.heap.size, 0, none⟩ = some (.int .i64 1) := (blk_cell HXB.out 0).trans rfl) | (go_at_call 15; refine (HM.out.apply_no HRm.out HRT.out (by have := HMZ.out.1; omega)).mono ?_; clear k0; rintro e w5 ⟨rfl, hM⟩; have n0_ := Aside0.mk (hM); clear HM; have HM := n0_; clear n0_; clear hM HXB HRm) | (go_at_call 16; with_reducible refine (HM.out.text T HT.out (by have := HZ.out; omega) (by have := HZ.out; omega)).mono ?_; rintro e w8 ⟨rfl, hm⟩; have n0_ := Aside0.mk (hm); clear HM; have HM := n0_; clear n0_; clear hm) | (go_at_call 13; with_reducible refine (HM.out.len T HT.out).mono ?_; rintro e w8 ⟨rfl, hm⟩; have n0_ := Aside0.mk (hm); clear HM; have HM := n0_; clear n0_; clear hm) | (go_at_call 11; with_reducible refine (HM.out.pastc ss.length HLA.out).mono ?_; rintro e w8 ⟨rfl, hm⟩; have n0_ := Aside0.mk (hm); clear HM; have HM := n0_; clear n0_; clear hm) | (go_at_call 17; with_reducible refine (HM.out.futurec us.length HLF.out).mono ?_; rintro e w8 ⟨rfl, hm⟩; have n0_ := Aside0.mk (hm); clear HM; have HM := n0_; clear n0_; clear hm) | (go_at_call 23; have dp1 := HZ.out.2.2.2.1; have dp2 := HZ.out.2.2.2.2.1; have dp3 := HZ.out.2.2.2.2.2; with_reducible refine (HM.out.pieces).mono ?_; rintro e w8 ⟨rfl, hm⟩; have n0_ := Aside0.mk (hm); clear HM; have HM := n0_; clear n0_; clear hm))
              all_goals (
              go_roundg (gk - 1)
              case measure => have := HI.out; have := C1.out; omega
              case rel =>
                have hi := HI.out
                have hc := C1.out
                have hkp := HKP.out
                have hpl := HP.out
                have e2 : (x + 1).toNat = x.toNat + 1 := by omega
                refine ⟨x + 1, _, _, _, _, ss, us, T, kP, _, _, _, _, P, past, fut, ts, tu, rfl, rfl, rfl, rfl, by rw [EW.out], ⟨by omega, by omega, by omega⟩, HM, ?_, ?_, ?_⟩
                · rw [e2]; exact ⟨hpl.keep (by omega) (by omega)⟩
                · rw [e2]; exact ⟨by omega⟩
                · exact ⟨HT.out, HSS.out.2.1, HSS.out.2.2⟩
              )
        have e0 : (f0 == 0) = false := beq_eq_false_iff_ne.2 k0
        have e1 : (f0 == 1) = false := beq_eq_false_iff_ne.2 k1
        clear k0 k1
        by_cases k2 : f0 = 2
        · subst k2
          have HZ := HZ0
          clear HZ0
          as_aux_lemma =>
            rcases last_or past with h0 | ⟨ys, xq, h0⟩
            · have hl0 : ss.length = 0 := by rw [← HLA.out, h0]; rfl
              have g1 : decide ((ss.length : Int) > 0) = false := decide_eq_false (by omega)
              have g3 : ss = [] := List.eq_nil_of_length_eq_zero hl0
              have g2 : decide (0 < (ss.length : Int)) = false := g1
              have HUN := Aside0.mk (fun (W : World) (h : Ms w g Vp Vf Vl nn P past fut (.slice A7 ss.length c7) ss (.slice A8 us.length c8) us W) => Ms.undo_no (h0 ▸ h))
              have HL0 := Aside0.mk hl0
              clear hl0
              go_wp2_with (first | (go_at_call 12; refine (HUN.out _ HM.out).mono ?_; clear HUN; rintro e w5 ⟨rfl, hM⟩; rw [← h0] at hM; have n0_ := Aside0.mk (hM); clear HM; have HM := n0_; clear n0_; clear hM) | (go_at_call 16; with_reducible refine (HM.out.text T HT.out (by have := HZ.out; omega) (by have := HZ.out; omega)).mono ?_; rintro e w8 ⟨rfl, hm⟩; have n0_ := Aside0.mk (hm); clear HM; have HM := n0_; clear n0_; clear hm) | (go_at_call 13; with_reducible refine (HM.out.len T HT.out).mono ?_; rintro e w8 ⟨rfl, hm⟩; have n0_ := Aside0.mk (hm); clear HM; have HM := n0_; clear n0_; clear hm) | (go_at_call 11; with_reducible refine (HM.out.pastc ss.length HLA.out).mono ?_; rintro e w8 ⟨rfl, hm⟩; have n0_ := Aside0.mk (hm); clear HM; have HM := n0_; clear n0_; clear hm) | (go_at_call 17; with_reducible refine (HM.out.futurec us.length HLF.out).mono ?_; rintro e w8 ⟨rfl, hm⟩; have n0_ := Aside0.mk (hm); clear HM; have HM := n0_; clear n0_; clear hm) | (go_at_call 23; have dp1 := HZ.out.2.2.2.1; have dp2 := HZ.out.2.2.2.2.1; have dp3 := HZ.out.2.2.2.2.2; with_reducible refine (HM.out.pieces).mono ?_; rintro e w8 ⟨rfl, hm⟩; have n0_ := Aside0.mk (hm); clear HM; have HM := n0_; clear n0_; clear hm))
              all_goals (
              go_roundg (gk - 1)
              case measure => have := HI.out; have := C1.out; omega
              case rel =>
                have hi := HI.out
                have hc := C1.out
                have hkp := HKP.out
                have hpl := HP.out
                have e2 : (x + 1).toNat = x.toNat + 1 := by omega
                refine ⟨x + 1, _, _, _, _, ss, us, T, kP, _, _, _, _, P, past, fut, ts, tu, by rw [HL0.out], rfl, rfl, rfl, by rw [EW.out], ⟨by omega, by omega, by omega⟩, HM, ?_, ?_, ?_⟩
                · rw [e2]; exact ⟨hpl.keep (by omega) (by omega)⟩
                · rw [e2]; exact ⟨by omega⟩
                · exact ⟨HT.out, HSS.out.2.1, HSS.out.2.2⟩
              )
            · obtain ⟨t, tr, q1, q2, q3, q4, q5, hP2⟩ := HP.out.undo h0 (by have := HK.out; omega)
              obtain ⟨P', hP'⟩ : ∃ P', P' = dosP P xq.f1 := ⟨_, rfl⟩
              rw [← hP'] at hP2 q2
              obtain ⟨T', hT'⟩ : ∃ T', T' = tb P' := ⟨_, rfl⟩
              have HT2 := Aside0.mk hT'
              have HTA := Aside0.mk (show T' = tb (dosP P xq.f1) from by rw [hT', hP'])
              have HRT := Aside0.mk q3
              have HMZ := Aside0.mk (And.intro q4 (And.intro q5 HSZ.out))
              obtain ⟨rd', hrd'⟩ : ∃ rd', rd' = tr.reverse.map mkb := ⟨_, rfl⟩
              have hss : ss = rd' ++ [T'] := by rw [HSS.out.2.1, q1, hrd', hT']; simp [q2]
              have HRD := Aside0.mk hss
              have HRD2 := Aside0.mk hrd'
              obtain ⟨oth', hoth'⟩ : ∃ o', o' = trim (fut ++ [xq]) := ⟨_, rfl⟩
              have HUN := Aside0.mk (fun (W : World) (h : Ms w g Vp Vf Vl nn P past fut (.slice A7 ss.length c7) ss (.slice A8 us.length c8) us W) => Ms.undo (m := 300 + 6000 * x.toNat) (h0 ▸ h) (by have := HK.out; omega) q3 q4 q5 (by have := HSZ.out; omega) (by have := HSZ.out; omega) (by have h9 := HLA.out; have := HLS.out; have := HK.out; rw [h0, List.length_append, List.length_singleton] at h9; omega) (by have := HLF.out; have := HLS.out; have := HK.out; omega))
              rw [← hoth'] at HUN hP2
              rw [← hP'] at HUN
              have hml : xq.f1.length ≤ 360300 := by have := HK.out; omega
              have hem : wrap64 ((kP : Int) + wrap64 (2 * (xq.f1.length : Int))) = ((kP + 2 * xq.f1.length : Nat) : Int) := by have := HKP.out; have := HK.out; unfold wrap64; omega
              have HLT := Aside0.mk (show oth'.length = us.length + 1 by have h := hP2.lf; rw [h, List.length_cons, HSS.out.2.2]; simp)
              have HLO := Aside0.mk (show ys.length = rd'.length by rw [hP2.la, hrd']; simp)
              obtain ⟨adr, hadr, -⟩ := R_some (show Kd.R Kd.string 9 _ w.heap.size (fun _ => True) _ (rd' ++ [T']) from hss ▸ HM.out.p)
              have hln : ss.length = rd'.length + 1 := by rw [hss]; simp
              have hlc : ss.length ≤ c7 := (R_c HM.out.p).2.2
              subst hadr
              have ew : wrap64 ((ss.length : Int) - 1) = (rd'.length : Int) := by have := HLS.out; have := HK.out; unfold wrap64; omega
              have ewn : (wrap64 ((ss.length : Int) - 1)).toNat = rd'.length := by rw [ew]; exact Int.toNat_natCast _
              have EWN := Aside0.mk ewn
              have EM := Aside0.mk hem
              have HML := Aside0.mk hml
              have HP2 := Aside0.mk hP2
              have g1 : decide ((ss.length : Int) > 0) = true := decide_eq_true (by omega)
              have g3 : ¬ ss = [] := fun h => by rw [h] at hln; simp at hln
              have g4 : 0 < ss.length := by omega
              have g2 : decide (0 < (ss.length : Int)) = true := g1
              have d0 : decide (wrap64 ((ss.length : Int) - 1) < 0) = false := decide_eq_false (by rw [ew]; omega)
              have s0 : decide (0 ≤ wrap64 ((ss.length : Int) - 1)) = true := decide_eq_true (by rw [ew]; omega)
              have s1 : (0 ≤ wrap64 ((ss.length : Int) - 1)) = True := eq_true (by rw [ew]; omega)
              have s2 : decide (wrap64 ((ss.length : Int) - 1) < (ss.length : Int)) = true := decide_eq_true (by rw [ew]; omega)
              have s3 : (wrap64 ((ss.length : Int) - 1) < (ss.length : Int)) = True := eq_true (by rw [ew]; omega)
              have s4 : decide (wrap64 ((ss.length : Int) - 1) ≤ (c7 : Int)) = true := decide_eq_true (by rw [ew]; omega)
              have s5 : (wrap64 ((ss.length : Int) - 1) ≤ (c7 : Int)) = True := eq_true (by rw [ew]; omega)
              have hne : P' ≠ [] := by
                rw [hP']
                exact (dos_len P _ xq.f1 0 q3).2 HM.out.b.ne
              clear HZ
              have HZ := Aside0.mk (show P'.length ≤ 100000000 ∧ (tx P').length ≤ 1000000 ∧ 1 ≤ P'.length ∧ decide ((P'.length : Int) < 1) = false ∧ decide ((P'.length : Int) > wrap64 ((kP : Int) + wrap64 (2 * (xq.f1.length : Int)))) = false ∧ True from by
                have h1 := HP2.out.p
                have h2 := HP2.out.t
                have h3 := HKP.out
                have h4 := HK.out
                have h6 : 1 ≤ P'.length := List.length_pos_iff.2 hne
                refine ⟨by omega, by omega, h6, decide_eq_false (by omega), decide_eq_false (by rw [hem]; omega), trivial⟩)
              clear q1 q2 q3 q4 q5 hP' hT' hss hrd' hoth' hem hml ew ewn hln hlc hne hP2
              go_wp2_with (first | (go_at_call 12; refine (HUN.out _ HM.out).mono ?_; clear HUN; rintro e w5 ⟨Ae, ce, rfl, hRm, Vp5, Vf5, Vl5, n5, hM, hmv⟩; have HRm := Aside0.mk hRm; have n0_ := Aside0.mk (hM); clear HM; have HM := n0_; clear n0_; clear hM hRm hmv) | ((with_reducible refine gate_dst (N := 144) rfl ?_); refine st_lit rfl rfl rfl ?_; intro Aq cq w6 hR hb; have HRq := Aside0.mk hR; have HBq := Aside0.mk hb; clear hR hb) | ((with_reducible refine gate_builtin (b := .append) (xs := #[.tmp 144, .tmp 145]) rfl ?_); at_builtin; refine st_rows (W0 := w5) rfl _ _ rfl rfl rfl HRq.out (R_c (Kd.R_below HM.out.f HBq.out)).1 HBq.out (by have := HLS.out; have := HK.out; omega) ?_; intro Ar nr cr w7 hR hb; have n0_ := Aside0.mk (hR); have n1_ := Aside0.mk (hb); clear HRq HBq; have HRq := n0_; have HBq := n1_; clear n0_ n1_; clear hR hb) | ((with_reducible refine gate_builtin (b := .append) (xs := #[.tmp 146, .tmp 148]) rfl ?_); at_builtin; refine st_one (W0 := w5) rfl _ _ rfl rfl rfl HRq.out HBq.out (by have := HLS.out; have := HK.out; omega) T ?_; intro At ct w8 ad' had' hR hb; have HA2 := Aside0.mk had'; have hmv := Mv.of_below (b := w.heap.size) hb; have n0_ := Aside0.mk (HM.out.fut_ hb hR); have n1_ := Aside0.mk (HRm.out.mv hmv HM.out.w.size); clear HM HRm; have HM := n0_; have HRm := n1_; clear n0_ n1_; clear hmv; have cx : w8.cell? (adr.add (wrap64 ((ss.length : Int) - 1)).toNat) = some (.string T') := (by rw [EWN.out]; obtain ⟨_, e, hx⟩ := R_some (show Kd.R Kd.string 9 w8 w.heap.size (fun _ => True) _ (rd' ++ [T']) from HRD.out ▸ HM.out.p); injection e with e; rw [e]; exact hx); clear hR hb had' HRq HBq) | (go_at_call 20; clear cx; refine (refRight_ P T HT.out HRm.out (by have := HMZ.out; have := HK.out; omega)).mono ?_; rintro e w9 ⟨rfl, hb⟩; rw [HRT.out]; have hmv := Mv.of_below (b := w.heap.size) hb; have n0_ := Aside0.mk (HM.out.below hb); have n1_ := Aside0.mk (HRm.out.mv hmv HM.out.w.size); clear HM HRm; have HM := n0_; have HRm := n1_; clear n0_ n1_; clear hmv hb) | (go_at_call 21; refine (refApply_ P T T' HT.out HTA.out HRm.out HRT.out (by have := HMZ.out; have := HK.out; omega) (by have := HSZ.out; omega) (by have := HMZ.out; have := HK.out; omega)).mono ?_; rintro e wa ⟨rfl, hb⟩; have n0_ := Aside0.mk (HM.out.below hb); clear HM; have HM := n0_; clear n0_; clear hb HRm) | (go_at_call 16; with_reducible refine (HM.out.text T' HT2.out (by have := HZ.out; omega) (by have := HZ.out; omega)).mono ?_; rintro e w8 ⟨rfl, hm⟩; have n0_ := Aside0.mk (hm); clear HM; have HM := n0_; clear n0_; clear hm) | (go_at_call 13; with_reducible refine (HM.out.len T' HT2.out).mono ?_; rintro e w8 ⟨rfl, hm⟩; have n0_ := Aside0.mk (hm); clear HM; have HM := n0_; clear n0_; clear hm) | (go_at_call 11; with_reducible refine (HM.out.pastc (wrap64 ((ss.length : Int) - 1)).toNat (by rw [EWN.out, HLO.out])).mono ?_; rintro e w8 ⟨rfl, hm⟩; have n0_ := Aside0.mk (hm); clear HM; have HM := n0_; clear n0_; clear hm) | (go_at_call 17; with_reducible refine (HM.out.futurec ad'.length (by rw [HLT.out, HA2.out, List.length_append, List.length_singleton])).mono ?_; rintro e w8 ⟨rfl, hm⟩; have n0_ := Aside0.mk (hm); clear HM; have HM := n0_; clear n0_; clear hm) | (go_at_call 23; have dp1 := HZ.out.2.2.2.1; have dp2 := HZ.out.2.2.2.2.1; have dp3 := HZ.out.2.2.2.2.2; with_reducible refine (HM.out.pieces).mono ?_; rintro e w8 ⟨rfl, hm⟩; have n0_ := Aside0.mk (hm); clear HM; have HM := n0_; clear n0_; clear hm))
              all_goals (
              go_roundg (gk - 1)
              case measure => have := HI.out; have := C1.out; omega
              case rel =>
                have hi := HI.out
                have hc := C1.out
                have hkp := HKP.out
                have hpl := HP2.out
                have hml := HML.out
                have hM := HM.out
                have HM := Aside0.mk (show Ms w g _ _ _ _ P' _ _ _ _ _ _ _ from ⟨hM.b, R_cut (HRD.out ▸ hM.p), hM.f, hM.w⟩)
                have e2 : (x + 1).toNat = x.toNat + 1 := by omega
                refine ⟨x + 1, _, _, _, _, rd', ad', T', kP + 2 * xq.f1.length, _, _, _, _, P', ys, oth', tr, tx P :: tu, by rw [EWN.out], rfl, rfl, by rw [EM.out], by rw [EW.out], ⟨by omega, by omega, by omega⟩, HM, ?_, ?_, ?_⟩
                · rw [e2]; exact ⟨hpl.keep (by omega) (by omega)⟩
                · rw [e2]; exact ⟨by omega⟩
                · exact ⟨HT2.out, HRD2.out, by rw [HA2.out, HSS.out.2.2, HSS.out.1]; simp⟩
              )
        by_cases k3 : f0 = 3
        · subst k3
          have HZ := HZ0
          clear HZ0
          as_aux_lemma =>
            rcases last_or fut with h0 | ⟨ys, xq, h0⟩
            · have hl0 : us.length = 0 := by rw [← HLF.out, h0]; rfl
              have g1 : decide ((us.length : Int) > 0) = false := decide_eq_false (by omega)
              have g3 : us = [] := List.eq_nil_of_length_eq_zero hl0
              have g2 : decide (0 < (us.length : Int)) = false := g1
              have HUN := Aside0.mk (fun (W : World) (h : Ms w g Vp Vf Vl nn P past fut (.slice A7 ss.length c7) ss (.slice A8 us.length c8) us W) => Ms.redo_no (h0 ▸ h))
              have HL0 := Aside0.mk hl0
              clear hl0
              go_wp2_with (first | (go_at_call 22; refine (HUN.out _ HM.out).mono ?_; clear HUN; rintro e w5 ⟨rfl, hM⟩; rw [← h0] at hM; have n0_ := Aside0.mk (hM); clear HM; have HM := n0_; clear n0_; clear hM) | (go_at_call 16; with_reducible refine (HM.out.text T HT.out (by have := HZ.out; omega) (by have := HZ.out; omega)).mono ?_; rintro e w8 ⟨rfl, hm⟩; have n0_ := Aside0.mk (hm); clear HM; have HM := n0_; clear n0_; clear hm) | (go_at_call 13; with_reducible refine (HM.out.len T HT.out).mono ?_; rintro e w8 ⟨rfl, hm⟩; have n0_ := Aside0.mk (hm); clear HM; have HM := n0_; clear n0_; clear hm) | (go_at_call 11; with_reducible refine (HM.out.pastc ss.length HLA.out).mono ?_; rintro e w8 ⟨rfl, hm⟩; have n0_ := Aside0.mk (hm); clear HM; have HM := n0_; clear n0_; clear hm) | (go_at_call 17; with_reducible refine (HM.out.futurec us.length HLF.out).mono ?_; rintro e w8 ⟨rfl, hm⟩; have n0_ := Aside0.mk (hm); clear HM; have HM := n0_; clear n0_; clear hm) | (go_at_call 23; have dp1 := HZ.out.2.2.2.1; have dp2 := HZ.out.2.2.2.2.1; have dp3 := HZ.out.2.2.2.2.2; with_reducible refine (HM.out.pieces).mono ?_; rintro e w8 ⟨rfl, hm⟩; have n0_ := Aside0.mk (hm); clear HM; have HM := n0_; clear n0_; clear hm))
              all_goals (
              go_roundg (gk - 1)
              case measure => have := HI.out; have := C1.out; omega
              case rel =>
                have hi := HI.out
                have hc := C1.out
                have hkp := HKP.out
                have hpl := HP.out
                have e2 : (x + 1).toNat = x.toNat + 1 := by omega
                refine ⟨x + 1, _, _, _, _, ss, us, T, kP, _, _, _, _, P, past, fut, ts, tu, rfl, by rw [HL0.out], rfl, rfl, by rw [EW.out], ⟨by omega, by omega, by omega⟩, HM, ?_, ?_, ?_⟩
                · rw [e2]; exact ⟨hpl.keep (by omega) (by omega)⟩
                · rw [e2]; exact ⟨by omega⟩
                · exact ⟨HT.out, HSS.out.2.1, HSS.out.2.2⟩
              )
            · obtain ⟨t, tr, q1, q2, q3, q4, q5, hP2⟩ := HP.out.redo h0 (by have := HK.out; omega)
              obtain ⟨P', hP'⟩ : ∃ P', P' = dosP P xq.f0 := ⟨_, rfl⟩
              rw [← hP'] at hP2 q2
              obtain ⟨T', hT'⟩ : ∃ T', T' = tb P' := ⟨_, rfl⟩
              have HT2 := Aside0.mk hT'
              have HTA := Aside0.mk (show T' = tb (dosP P xq.f0) from by rw [hT', hP'])
              have HRT := Aside0.mk q3
              have HMZ := Aside0.mk (And.intro q4 (And.intro q5 HSZ.out))
              obtain ⟨rd', hrd'⟩ : ∃ rd', rd' = tr.reverse.map mkb := ⟨_, rfl⟩
              have hss : us = rd' ++ [T'] := by rw [HSS.out.2.2, q1, hrd', hT']; simp [q2]
              have HRD := Aside0.mk hss
              have HRD2 := Aside0.mk hrd'
              obtain ⟨oth', hoth'⟩ : ∃ o', o' = trim (past ++ [xq]) := ⟨_, rfl⟩
              have HUN := Aside0.mk (fun (W : World) (h : Ms w g Vp Vf Vl nn P past fut (.slice A7 ss.length c7) ss (.slice A8 us.length c8) us W) => Ms.redo (m := 300 + 6000 * x.toNat) (h0 ▸ h) (by have := HK.out; omega) q3 q4 q5 (by have := HSZ.out; omega) (by have := HSZ.out; omega) (by have h9 := HLF.out; have := HLS.out; have := HK.out; rw [h0, List.length_append, List.length_singleton] at h9; omega) (by have := HLA.out; have := HLS.out; have := HK.out; omega))
              rw [← hoth'] at HUN hP2
              rw [← hP'] at HUN
              have hml : xq.f0.length ≤ 360300 := by have := HK.out; omega
              have hem : wrap64 ((kP : Int) + wrap64 (2 * (xq.f0.length : Int))) = ((kP + 2 * xq.f0.length : Nat) : Int) := by have := HKP.out; have := HK.out; unfold wrap64; omega
              have HLT := Aside0.mk (show oth'.length = ss.length + 1 by have h := hP2.la; rw [h, List.length_cons, HSS.out.2.1]; simp)
              have HLO := Aside0.mk (show ys.length = rd'.length by rw [hP2.lf, hrd']; simp)
              obtain ⟨adr, hadr, -⟩ := R_some (show Kd.R Kd.string 9 _ w.heap.size (fun _ => True) _ (rd' ++ [T']) from hss ▸ HM.out.f)
              have hln : us.length = rd'.length + 1 := by rw [hss]; simp
              have hlc : us.length ≤ c8 := (R_c HM.out.f).2.2
              subst hadr
              have ew : wrap64 ((us.length : Int) - 1) = (rd'.length : Int) := by have := HLS.out; have := HK.out; unfold wrap64; omega
              have ewn : (wrap64 ((us.length : Int) - 1)).toNat = rd'.length := by rw [ew]; exact Int.toNat_natCast _
              have EWN := Aside0.mk ewn
              have EM := Aside0.mk hem
              have HML := Aside0.mk hml
              have HP2 := Aside0.mk hP2
              have g1 : decide ((us.length : Int) > 0) = true := decide_eq_true (by omega)
              have g3 : ¬ us = [] := fun h => by rw [h] at hln; simp at hln
              have g4 : 0 < us.length := by omega
              have g2 : decide (0 < (us.length : Int)) = true := g1
              have d0 : decide (wrap64 ((us.length : Int) - 1) < 0) = false := decide_eq_false (by rw [ew]; omega)
              have s0 : decide (0 ≤ wrap64 ((us.length : Int) - 1)) = true := decide_eq_true (by rw [ew]; omega)
              have s1 : (0 ≤ wrap64 ((us.length : Int) - 1)) = True := eq_true (by rw [ew]; omega)
              have s2 : decide (wrap64 ((us.length : Int) - 1) < (us.length : Int)) = true := decide_eq_true (by rw [ew]; omega)
              have s3 : (wrap64 ((us.length : Int) - 1) < (us.length : Int)) = True := eq_true (by rw [ew]; omega)
              have s4 : decide (wrap64 ((us.length : Int) - 1) ≤ (c8 : Int)) = true := decide_eq_true (by rw [ew]; omega)
              have s5 : (wrap64 ((us.length : Int) - 1) ≤ (c8 : Int)) = True := eq_true (by rw [ew]; omega)
              have hne : P' ≠ [] := by
                rw [hP']
                exact (dos_len P _ xq.f0 0 q3).2 HM.out.b.ne
              clear HZ
              have HZ := Aside0.mk (show P'.length ≤ 100000000 ∧ (tx P').length ≤ 1000000 ∧ 1 ≤ P'.length ∧ decide ((P'.length : Int) < 1) = false ∧ decide ((P'.length : Int) > wrap64 ((kP : Int) + wrap64 (2 * (xq.f0.length : Int)))) = false ∧ True from by
                have h1 := HP2.out.p
                have h2 := HP2.out.t
                have h3 := HKP.out
                have h4 := HK.out
                have h6 : 1 ≤ P'.length := List.length_pos_iff.2 hne
                refine ⟨by omega, by omega, h6, decide_eq_false (by omega), decide_eq_false (by rw [hem]; omega), trivial⟩)
              clear q1 q2 q3 q4 q5 hP' hT' hss hrd' hoth' hem hml ew ewn hln hlc hne hP2
              go_wp2_with (first | (go_at_call 22; refine (HUN.out _ HM.out).mono ?_; clear HUN; rintro e w5 ⟨Ae, ce, rfl, hRm, Vp5, Vf5, Vl5, n5, hM, hmv⟩; have HRm := Aside0.mk hRm; have n0_ := Aside0.mk (hM); clear HM; have HM := n0_; clear n0_; clear hM hRm hmv) | ((with_reducible refine gate_dst (N := 201) rfl ?_); refine st_lit rfl rfl rfl ?_; intro Aq cq w6 hR hb; have HRq := Aside0.mk hR; have HBq := Aside0.mk hb; clear hR hb) | ((with_reducible refine gate_builtin (b := .append) (xs := #[.tmp 201, .tmp 202]) rfl ?_); at_builtin; refine st_rows (W0 := w5) rfl _ _ rfl rfl rfl HRq.out (R_c (Kd.R_below HM.out.p HBq.out)).1 HBq.out (by have := HLS.out; have := HK.out; omega) ?_; intro Ar nr cr w7 hR hb; have n0_ := Aside0.mk (hR); have n1_ := Aside0.mk (hb); clear HRq HBq; have HRq := n0_; have HBq := n1_; clear n0_ n1_; clear hR hb) | ((with_reducible refine gate_builtin (b := .append) (xs := #[.tmp 203, .tmp 205]) rfl ?_); at_builtin; refine st_one (W0 := w5) rfl _ _ rfl rfl rfl HRq.out HBq.out (by have := HLS.out; have := HK.out; omega) T ?_; intro At ct w8 ad' had' hR hb; have HA2 := Aside0.mk had'; have hmv := Mv.of_below (b := w.heap.size) hb; have n0_ := Aside0.mk (HM.out.past_ hb hR); have n1_ := Aside0.mk (HRm.out.mv hmv HM.out.w.size); clear HM HRm; have HM := n0_; have HRm := n1_; clear n0_ n1_; clear hmv; have cx : w8.cell? (adr.add (wrap64 ((us.length : Int) - 1)).toNat) = some (.string T') := (by rw [EWN.out]; obtain ⟨_, e, hx⟩ := R_some (show Kd.R Kd.string 9 w8 w.heap.size (fun _ => True) _ (rd' ++ [T']) from HRD.out ▸ HM.out.f); injection e with e; rw [e]; exact hx); clear hR hb had' HRq HBq) | (go_at_call 20; clear cx; refine (refRight_ P T HT.out HRm.out (by have := HMZ.out; have := HK.out; omega)).mono ?_; rintro e w9 ⟨rfl, hb⟩; rw [HRT.out]; have hmv := Mv.of_below (b := w.heap.size) hb; have n0_ := Aside0.mk (HM.out.below hb); have n1_ := Aside0.mk (HRm.out.mv hmv HM.out.w.size); clear HM HRm; have HM := n0_; have HRm := n1_; clear n0_ n1_; clear hmv hb) | (go_at_call 21; refine (refApply_ P T T' HT.out HTA.out HRm.out HRT.out (by have := HMZ.out; have := HK.out; omega) (by have := HSZ.out; omega) (by have := HMZ.out; have := HK.out; omega)).mono ?_; rintro e wa ⟨rfl, hb⟩; have n0_ := Aside0.mk (HM.out.below hb); clear HM; have HM := n0_; clear n0_; clear hb HRm) | (go_at_call 16; with_reducible refine (HM.out.text T' HT2.out (by have := HZ.out; omega) (by have := HZ.out; omega)).mono ?_; rintro e w8 ⟨rfl, hm⟩; have n0_ := Aside0.mk (hm); clear HM; have HM := n0_; clear n0_; clear hm) | (go_at_call 13; with_reducible refine (HM.out.len T' HT2.out).mono ?_; rintro e w8 ⟨rfl, hm⟩; have n0_ := Aside0.mk (hm); clear HM; have HM := n0_; clear n0_; clear hm) | (go_at_call 11; with_reducible refine (HM.out.pastc ad'.length (by rw [HLT.out, HA2.out, List.length_append, List.length_singleton])).mono ?_; rintro e w8 ⟨rfl, hm⟩; have n0_ := Aside0.mk (hm); clear HM; have HM := n0_; clear n0_; clear hm) | (go_at_call 17; with_reducible refine (HM.out.futurec (wrap64 ((us.length : Int) - 1)).toNat (by rw [EWN.out, HLO.out])).mono ?_; rintro e w8 ⟨rfl, hm⟩; have n0_ := Aside0.mk (hm); clear HM; have HM := n0_; clear n0_; clear hm) | (go_at_call 23; have dp1 := HZ.out.2.2.2.1; have dp2 := HZ.out.2.2.2.2.1; have dp3 := HZ.out.2.2.2.2.2; with_reducible refine (HM.out.pieces).mono ?_; rintro e w8 ⟨rfl, hm⟩; have n0_ := Aside0.mk (hm); clear HM; have HM := n0_; clear n0_; clear hm))
              all_goals (
              go_roundg (gk - 1)
              case measure => have := HI.out; have := C1.out; omega
              case rel =>
                have hi := HI.out
                have hc := C1.out
                have hkp := HKP.out
                have hpl := HP2.out
                have hml := HML.out
                have hM := HM.out
                have HM := Aside0.mk (show Ms w g _ _ _ _ P' _ _ _ _ _ _ _ from ⟨hM.b, hM.p, R_cut (HRD.out ▸ hM.f), hM.w⟩)
                have e2 : (x + 1).toNat = x.toNat + 1 := by omega
                refine ⟨x + 1, _, _, _, _, ad', rd', T', kP + 2 * xq.f0.length, _, _, _, _, P', oth', ys, tx P :: ts, tr, rfl, by rw [EWN.out], rfl, by rw [EM.out], by rw [EW.out], ⟨by omega, by omega, by omega⟩, HM, ?_, ?_, ?_⟩
                · rw [e2]; exact ⟨hpl.keep (by omega) (by omega)⟩
                · rw [e2]; exact ⟨by omega⟩
                · exact ⟨HT2.out, by rw [HA2.out, HSS.out.2.1, HSS.out.1]; simp, HRD2.out⟩
              )
        have e2 : (f0 == 2) = false := beq_eq_false_iff_ne.2 k2
        have e3 : (f0 == 3) = false := beq_eq_false_iff_ne.2 k3
        clear k2 k3
        have HZ := HZ0
        clear HZ0
        go_wp2_with (first | (go_at_call 16; with_reducible refine (HM.out.text T HT.out (by have := HZ.out; omega) (by have := HZ.out; omega)).mono ?_; rintro e w8 ⟨rfl, hm⟩; have n0_ := Aside0.mk (hm); clear HM; have HM := n0_; clear n0_; clear hm) | (go_at_call 13; with_reducible refine (HM.out.len T HT.out).mono ?_; rintro e w8 ⟨rfl, hm⟩; have n0_ := Aside0.mk (hm); clear HM; have HM := n0_; clear n0_; clear hm) | (go_at_call 11; with_reducible refine (HM.out.pastc ss.length HLA.out).mono ?_; rintro e w8 ⟨rfl, hm⟩; have n0_ := Aside0.mk (hm); clear HM; have HM := n0_; clear n0_; clear hm) | (go_at_call 17; with_reducible refine (HM.out.futurec us.length HLF.out).mono ?_; rintro e w8 ⟨rfl, hm⟩; have n0_ := Aside0.mk (hm); clear HM; have HM := n0_; clear n0_; clear hm) | (go_at_call 23; have dp1 := HZ.out.2.2.2.1; have dp2 := HZ.out.2.2.2.2.1; have dp3 := HZ.out.2.2.2.2.2; with_reducible refine (HM.out.pieces).mono ?_; rintro e w8 ⟨rfl, hm⟩; have n0_ := Aside0.mk (hm); clear HM; have HM := n0_; clear n0_; clear hm))
        all_goals (
        go_roundg (gk - 1)
        case measure => have := HI.out; have := C1.out; omega
        case rel =>
          have hi := HI.out
          have hc := C1.out
          have hkp := HKP.out
          have hpl := HP.out
          have e2 : (x + 1).toNat = x.toNat + 1 := by omega
          refine ⟨x + 1, _, _, _, _, ss, us, T, kP, _, _, _, _, P, past, fut, ts, tu, rfl, rfl, rfl, rfl, by rw [EW.out], ⟨by omega, by omega, by omega⟩, HM, ?_, ?_, ?_⟩
          · rw [e2]; exact ⟨hpl.keep (by omega) (by omega)⟩
          · rw [e2]; exact ⟨by omega⟩
          · exact ⟨HT.out, HSS.out.2.1, HSS.out.2.2⟩
        )
      · have d2 : decide (x < (l.length : Int)) = false := decide_eq_false c1
        clear c1
        go_wp2
        go_ret
        exact ⟨rfl, HM.out.w⟩
    )
end Go.Proofs.Ytpghnadlekafpaa.PBuf
