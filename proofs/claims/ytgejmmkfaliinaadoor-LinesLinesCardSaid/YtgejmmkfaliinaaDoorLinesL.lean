/- LinesLines, walked. -/
import Derived.Test.YtgejmmkfaliinaaDoorLinesK
namespace Go.Proofs.YtgejmmkfaliinaaDoor.Lines
open Go.RowKit Go.Proofs.YtgejmmkfaliinaaDoorW.PrintWords Go.Proofs.YtgejmmkfaliinaaDoorW.PrintLast Go.Proofs.YtgejmmkfaliinaaDoorW.PrintMore
set_option linter.unusedVariables false
set_option linter.unusedSimpArgs false
set_option maxHeartbeats 4000000 in
set_option maxRecDepth 100000 in
theorem LinesLines (s : ByteArray) (n col : Int) (w : World) : Calls Tryd.prog 3 #[.string s, .int .i64 n, .int .i64 col] w fun e w' => e = .returned (.bool true) ∧ Below w.heap.size w w' := by
  by_cases c00 : (s.size : Int) > 2000
  · have d0 : decide ((2000 : Int) < (s.size : Int)) = true := decide_eq_true c00
    go_enter Tryd.func3, Tryd.ntmps3
    go_wp2_with (go_at_call 5; refine (awake _).mono ?_; rintro e w2 ⟨rfl, hb⟩)
    go_ret
    exact ⟨rfl, hb⟩
  have e0 : decide ((2000 : Int) < (s.size : Int)) = false := decide_eq_false c00
  have hs : s.size ≤ 2000 := by omega
  have HNew := Aside0.mk (fun w => New s (by omega) w)
  clear c00
  go_enter Tryd.func3, Tryd.ntmps3
  go_wp2_with (go_at_call 6; refine (HNew.out _).mono ?_; clear HNew; rintro e w2 ⟨g, rfl, hg, hI, hb⟩; have HI := Aside0.mk hI; have HB := Aside0.mk hb; clear hI hb hg)
  go_loopg [8, 9] (s.size + 3) (fun kq v8 v9 w' => ∃ (j k : Int), v8 = .int .i64 j ∧ v9 = .int .i64 k ∧ Aside0 (P1 s n j k ∧ kq + j.toNat = s.size + 3) ∧ Aside0 (Ix w' g s (beg s)) ∧ Aside0 (Below w.heap.size w w'))
  case atStart => exact ⟨0, 0, rfl, rfl, ⟨P1.start s n, by simp⟩, HI, HB⟩
  case round =>
    obtain ⟨j, k, rfl, rfl, HX, HI2, HB2⟩ := hrel
    clear HB HI
    have HI := HI2
    have HB := HB2
    clear HI2 HB2
    have hp := HX.out.1
    have j0 := hp.j0
    have j1 := hp.j1
    have k0 := hp.k0
    have hx := bt_at s j
    by_cases c1 : j ≤ (s.size : Int)
    · have e1 : decide (j ≤ (s.size : Int)) = true := decide_eq_true c1
      have kb : k ≤ 2001 := by have := hp.cnt c1; have := brk_len s j.toNat; omega
      by_cases c2 : k < n
      · have e2 : decide (k < n) = true := decide_eq_true c2
        by_cases c3 : j = (s.size : Int)
        · have HP := Aside0.mk (by rw [c3] at hp ⊢; exact hp.end c2 : P1 s n (j + 1) (k + 1))
          have e3 : (j == (s.size : Int)) = true := by rw [c3]; simp
          clear hp
          go_wp2
          go_roundg (gk - 1)
          case measure => have := HX.out.2; omega
          case rel => exact ⟨_, _, rfl, rfl, ⟨by have q := HP.out; rw [c3] at q; exact q, by have := HX.out.2; omega⟩, HI, HB⟩
        · have c4 : j < (s.size : Int) := by omega
          have e3 : (j == (s.size : Int)) = false := by simpa using c3
          by_cases c5 : bt s j = 10
          · have HP := Aside0.mk (hp.nl c4 c2 c5)
            have e5 : (bt s j == 10) = true := by rw [c5]; rfl
            clear hp
            go_wp2
            go_roundg (gk - 1)
            case measure => have := HX.out.2; omega
            case rel => exact ⟨_, _, rfl, rfl, ⟨HP.out, by have := HX.out.2; omega⟩, HI, HB⟩
          · have HP := Aside0.mk (hp.no c4 c2 c5)
            have e5 : (bt s j == 10) = false := by simpa using c5
            clear hp
            go_wp2
            go_roundg (gk - 1)
            case measure => have := HX.out.2; omega
            case rel => exact ⟨_, _, rfl, rfl, ⟨HP.out, by have := HX.out.2; omega⟩, HI, HB⟩
      · have e2 : decide (k < n) = false := decide_eq_false c2
        by_cases c6 : n < 0
        · have e6 : decide (n < 0) = true := decide_eq_true c6
          have hout := hp.out (Or.inl c6)
          have hout2 : n < 0 ∨ ((beg s).length : Int) ≤ n := by
            rcases hout with q | q | q
            · exact Or.inl q
            · exact Or.inr q
            · omega
          have HLo := Aside0.mk (fun w (hI : Ix w g s (beg s)) => Line_out g s _ n w hI hout2)
          have HOo := Aside0.mk (fun w (hI : Ix w g s (beg s)) => Offset_err (.pointer (some ⟨g, 0, none⟩)) n col w (Line_out g s _ n w hI hout2))
          have HIo := Aside0.mk (fun w (hI : Ix w g s (beg s)) => Indent_err (.pointer (some ⟨g, 0, none⟩)) n w (Line_out g s _ n w hI hout2))
          clear hout hout2 hp HX hx
          go_wp2_with (first | (go_at_call 7; refine (HLo.out _ HI.out).mono ?_; rintro e w3 ⟨rfl, hb3⟩; have hHI3 := Aside0.mk (HI.out.below hb3); have hB3 := Aside0.mk (below_step HB.out hb3); clear HB hb3 HI; have HI := hHI3; have HB := hB3; clear hB3 hHI3; obtain ⟨W3, hW3⟩ : ∃ W3, W3 = w3.alloc (.cells #[.int .i64 0, .int .i64 0] 26) := ⟨_, rfl⟩; have hb3 : Below w3.heap.size w3 W3 := (by rw [hW3]; exact (Below.refl _ w3).alloc (Nat.le_refl _) _); have hnew := heap_alloc_new w3 (.cells #[.int .i64 0, .int .i64 0] 26); rw [← hW3] at hnew; have k0 := Go.Lib.cell_of_heap hnew 0; have k1 := Go.Lib.cell_of_heap hnew 1; have hlt : w3.heap.size < W3.heap.size := (by rw [hW3]; simp); have hHI3 := Aside0.mk (HI.out.below hb3); have hB3 := Aside0.mk (below_step HB.out hb3); clear HB hb3 HI; have HI := hHI3; have HB := hB3; clear hB3 hHI3; clear hnew) | (go_at_call 8; rw [← hW3]; refine (HOo.out _ HI.out).mono ?_; rintro e w5 ⟨rfl, hb3⟩; replace k0 := (hb3.cell (p := ⟨w3.heap.size, 0, none⟩) hlt).trans k0; replace k1 := (hb3.cell (p := ⟨w3.heap.size, 1, none⟩) hlt).trans k1; clear hW3; have hHI3 := Aside0.mk (HI.out.below hb3); have hB3 := Aside0.mk (below_step HB.out hb3); clear HB hb3 HI; have HI := hHI3; have HB := hB3; clear hB3 hHI3) | (go_at_call 9; refine (HIo.out _ HI.out).mono ?_; rintro e w6 ⟨rfl, hb3⟩; clear k0 k1; have hHI3 := Aside0.mk (HI.out.below hb3); have hB3 := Aside0.mk (below_step HB.out hb3); clear HB hb3 HI; have HI := hHI3; have HB := hB3; clear hB3 hHI3) | (go_at_call 5; refine (awake _).mono ?_; rintro e w3 ⟨rfl, hb3⟩; have hB3 := Aside0.mk (below_step HB.out hb3); clear HB hb3; have HB := hB3; clear hB3))
          go_ret
          exact ⟨rfl, HB.out⟩
        · have e6 : decide (n < 0) = false := decide_eq_false c6
          have e7 : decide ((s.size : Int) < j) = false := decide_eq_false (by omega)
          obtain ⟨hkn, hjz, hnr, hnl⟩ := hp.at_ (by omega) c1 c2
          have hgood := good_begk s (by omega)
          rw [beg_eq s (by omega)] at HI
          obtain ⟨q, hq⟩ : ∃ q, q = fin s (begk s s.size) n.toNat := ⟨_, rfl⟩
          have hqb : j ≤ q ∧ q ≤ (s.size : Int) := by
            rw [hq]
            unfold fin
            split
            · rename_i h
              have h1 := getD_lt (begk_sorted s s.size) n.toNat (n.toNat + 1) (by omega) h
              have h2 := begk_top s s.size (n.toNat + 1) h
              rw [← hjz] at h1
              omega
            · omega
          have HLn := Aside0.mk (fun w (hI : Ix w g s (begk s s.size)) => Line g s _ n.toNat w hI hgood (by omega) hnl)
          simp only [← hjz, ← hq, show ((n.toNat : Nat) : Int) = n from by omega] at HLn
          have HIn := Aside0.mk (fun w (hI : Ix w g s (begk s s.size)) => Indent g s _ n j q w hI (by omega) j0 hqb.1 hqb.2 (HLn.out w hI))
          have HQ := Aside0.mk hq
          have HNR := Aside0.mk hnr
          clear hq hnr hnl hjz hkn hgood HX hp
          obtain ⟨qb0, qb1⟩ := hqb
          by_cases c8 : 0 ≤ col ∧ col ≤ q - j
          · have HOn := Aside0.mk (fun w (hI : Ix w g s (begk s s.size)) => Offset_yes (.pointer (some ⟨g, 0, none⟩)) n col j q w (by omega) (by omega) c8.1 c8.2 (HLn.out w hI))
            obtain ⟨c8a, c8b⟩ := c8
            go_wp2_with (first | (go_at_call 7; refine (HLn.out _ HI.out).mono ?_; rintro e w3 ⟨rfl, hb3⟩; have hHI3 := Aside0.mk (HI.out.below hb3); have hB3 := Aside0.mk (below_step HB.out hb3); clear HB hb3 HI; have HI := hHI3; have HB := hB3; clear hB3 hHI3; obtain ⟨W3, hW3⟩ : ∃ W3, W3 = w3.alloc (.cells #[.int .i64 j, .int .i64 q] 26) := ⟨_, rfl⟩; have hb3 : Below w3.heap.size w3 W3 := (by rw [hW3]; exact (Below.refl _ w3).alloc (Nat.le_refl _) _); have hnew := heap_alloc_new w3 (.cells #[.int .i64 j, .int .i64 q] 26); rw [← hW3] at hnew; have k0 := Go.Lib.cell_of_heap hnew 0; have k1 := Go.Lib.cell_of_heap hnew 1; have hlt : w3.heap.size < W3.heap.size := (by rw [hW3]; simp); have hHI3 := Aside0.mk (HI.out.below hb3); have hB3 := Aside0.mk (below_step HB.out hb3); clear HB hb3 HI; have HI := hHI3; have HB := hB3; clear hB3 hHI3; clear hnew) | (go_at_call 8; rw [← hW3]; refine (HOn.out _ HI.out).mono ?_; rintro e w5 ⟨rfl, hb3⟩; replace k0 := (hb3.cell (p := ⟨w3.heap.size, 0, none⟩) hlt).trans k0; replace k1 := (hb3.cell (p := ⟨w3.heap.size, 1, none⟩) hlt).trans k1; clear hW3; have hHI3 := Aside0.mk (HI.out.below hb3); have hB3 := Aside0.mk (below_step HB.out hb3); clear HB hb3 HI; have HI := hHI3; have HB := hB3; clear hB3 hHI3))
            go_loopg [14] (s.size + 2 - j.toNat) (fun kq v14 w' => ∃ t : Int, v14 = .int .i64 t ∧ Aside0 (j ≤ t ∧ t ≤ (s.size : Int) ∧ brk s t.toNat = brk s j.toNat ∧ kq + t.toNat = s.size + 2) ∧ w' = w5)
            case atStart => exact ⟨j, rfl, ⟨by omega, c1, rfl, by omega⟩, rfl⟩
            case round =>
              obtain ⟨t, rfl, HT, rfl⟩ := hrel
              have t0 := HT.out.1
              have t1 := HT.out.2.1
              have hxt := bt_at s t
              by_cases c9 : t < (s.size : Int)
              · have e9 : decide (t < (s.size : Int)) = true := decide_eq_true c9
                by_cases c10 : bt s t = 10
                · have e10 : (bt s t != 10) = false := by rw [c10]; rfl
                  have htq : t = q := by have e := fin_at s t.toNat (by omega) (by rw [show ((t.toNat : Nat) : Int) = t from by omega]; exact c10); rw [HT.out.2.2.1, ← HNR.out, ← HQ.out] at e; omega
                  subst htq
                  clear HT HQ HNR
                  obtain ⟨L, hL⟩ : ∃ L, L = (s.extract j.toNat t.toNat).data.toList := ⟨_, rfl⟩
                  have HLL := Aside0.mk hL
                  simp only [← hL] at HIn
                  clear hL
                  go_wp2
                  go_loopg [15] ((t - j).toNat + 2) (fun kq v15 w' => ∃ i : Int, v15 = .int .i64 i ∧ Aside0 (0 ≤ i ∧ i ≤ t - j ∧ lead L = i.toNat + lead (L.drop i.toNat) ∧ kq + i.toNat = (t - j).toNat + 2) ∧ w' = wr)
                  case atStart => exact ⟨0, rfl, ⟨by omega, by omega, by simp, by simp⟩, rfl⟩
                  case round =>
                    obtain ⟨i, rfl, HJ, rfl⟩ := hrel
                    have i0 := HJ.out.1
                    have i1 := HJ.out.2.1
                    obtain ⟨x, hx2⟩ : ∃ x, x = j + i := ⟨_, rfl⟩
                    have hxx := bt_at s x
                    rw [hx2] at hxx
                    have HX2 := Aside0.mk hx2
                    clear hx2
                    by_cases c11 : j + i < t
                    · have e11 : decide (j + i < t) = true := decide_eq_true c11
                      obtain ⟨cc, rr, hd, hr, hcc⟩ := cut_get s j.toNat t.toNat i.toNat (by omega) (by omega)
                      rw [← HLL.out] at hd hr
                      rw [show ((j.toNat + i.toNat : Nat) : Int) = j + i from by omega] at hcc
                      have hle := HJ.out.2.2.1
                      rw [hd] at hle
                      have hsz : (j + i).toNat < s.size := by omega
                      by_cases c12 : bt s (j + i) = 32 ∨ bt s (j + i) = 9
                      · have hbl : cc = 32 ∨ cc = 9 := by
                          rcases c12 with q | q
                          · exact Or.inl (UInt8.toNat_inj.1 (by rw [q] at hcc; show cc.toNat = 32; omega))
                          · exact Or.inr (UInt8.toNat_inj.1 (by rw [q] at hcc; show cc.toNat = 9; omega))
                        rw [lead_cons _ _ hbl, hr] at hle
                        have HLE := Aside0.mk hle
                        clear hle hd hr hcc hbl
                        rcases c12 with c12 | c12
                        · have e12 : (bt s (j + i) == 32) = true := by rw [c12]; rfl
                          go_wp2
                          go_roundg (gk - 1)
                          case measure => have := HJ.out.2.2.2; omega
                          case rel => exact ⟨i + 1, rfl, ⟨by omega, by omega, by have := HLE.out; rw [show (i + 1).toNat = i.toNat + 1 from by omega]; omega, by have := HJ.out.2.2.2; omega⟩, rfl⟩
                        · have e12 : (bt s (j + i) == 32) = false := by rw [c12]; rfl
                          have e13 : (bt s (j + i) == 9) = true := by rw [c12]; rfl
                          go_wp2
                          go_roundg (gk - 1)
                          case measure => have := HJ.out.2.2.2; omega
                          case rel => exact ⟨i + 1, rfl, ⟨by omega, by omega, by have := HLE.out; rw [show (i + 1).toNat = i.toNat + 1 from by omega]; omega, by have := HJ.out.2.2.2; omega⟩, rfl⟩
                      · have hbl : ¬ (cc = 32 ∨ cc = 9) := by
                          rintro (h | h)
                          · exact c12 (Or.inl (by rw [← hcc, h]; rfl))
                          · exact c12 (Or.inr (by rw [← hcc, h]; rfl))
                        rw [lead_stop _ _ hbl] at hle
                        have hil : i = (lead L : Int) := by omega
                        have e12 : (bt s (j + i) == 32) = false := by simpa using fun h => c12 (Or.inl h)
                        have e13 : (bt s (j + i) == 9) = false := by simpa using fun h => c12 (Or.inr h)
                        clear hd hr hcc hbl
                        have HIl := HIn
                        simp only [← hil] at HIl
                        clear HIn HJ hle hil HLL HX2
                        have g0 : decide (col < 0) = false := decide_eq_false (by omega)
                        have g1 : decide (t - j < col) = false := decide_eq_false (by omega)
                        go_wp2_with (first | (go_at_call 9; refine (HIl.out _ HI.out).mono ?_; rintro e w6 ⟨rfl, hb3⟩; clear k0 k1; have hHI3 := Aside0.mk (HI.out.below hb3); have hB3 := Aside0.mk (below_step HB.out hb3); clear HB hb3 HI; have HI := hHI3; have HB := hB3; clear hB3 hHI3) | (go_at_call 5; refine (awake _).mono ?_; rintro e w3 ⟨rfl, hb3⟩; have hB3 := Aside0.mk (below_step HB.out hb3); clear HB hb3; have HB := hB3; clear hB3))
                        go_ret
                        exact ⟨rfl, HB.out⟩
                    · have e11 : decide (j + i < t) = false := decide_eq_false c11
                      have hle := HJ.out.2.2.1
                      have hLl : L.length = t.toNat - j.toNat := by rw [HLL.out]; have e : (s.extract j.toNat t.toNat).size = t.toNat - j.toNat := (by rw [ByteArray.size_extract]; omega); rw [← e]; simp only [Array.length_toList]; rfl
                      rw [List.drop_eq_nil_of_le (by omega)] at hle
                      have hil : i = (lead L : Int) := by rw [hle]; show i = ((i.toNat + 0 : Nat) : Int); omega
                      have HIl := HIn
                      simp only [← hil] at HIl
                      clear HIn HJ hle hil HLL HX2
                      have g0 : decide (col < 0) = false := decide_eq_false (by omega)
                      have g1 : decide (t - j < col) = false := decide_eq_false (by omega)
                      go_wp2_with (first | (go_at_call 9; refine (HIl.out _ HI.out).mono ?_; rintro e w6 ⟨rfl, hb3⟩; clear k0 k1; have hHI3 := Aside0.mk (HI.out.below hb3); have hB3 := Aside0.mk (below_step HB.out hb3); clear HB hb3 HI; have HI := hHI3; have HB := hB3; clear hB3 hHI3) | (go_at_call 5; refine (awake _).mono ?_; rintro e w3 ⟨rfl, hb3⟩; have hB3 := Aside0.mk (below_step HB.out hb3); clear HB hb3; have HB := hB3; clear hB3))
                      go_ret
                      exact ⟨rfl, HB.out⟩
                · have e10 : (bt s t != 10) = true := by simpa using c10
                  have HT2 : Aside0 (brk s (t + 1).toNat = brk s j.toNat) := ⟨by rw [show (t + 1).toNat = t.toNat + 1 from by omega, brk_miss s _ (by rw [show ((t.toNat : Nat) : Int) = t from by omega]; exact c10)]; exact HT.out.2.2.1⟩
                  go_wp2
                  go_roundg (gk - 1)
                  case measure => have := HT.out.2.2.2; omega
                  case rel => exact ⟨t + 1, rfl, ⟨by omega, by omega, HT2.out, by have := HT.out.2.2.2; omega⟩, rfl⟩
              · have e9 : decide (t < (s.size : Int)) = false := decide_eq_false c9
                have htq : t = q := by have e := fin_end s; have h3 := HT.out.2.2.1; have et : t.toNat = s.size := (by omega); rw [et] at h3; rw [h3, ← HNR.out, ← HQ.out] at e; omega
                subst htq
                clear HT HQ HNR
                obtain ⟨L, hL⟩ : ∃ L, L = (s.extract j.toNat t.toNat).data.toList := ⟨_, rfl⟩
                have HLL := Aside0.mk hL
                simp only [← hL] at HIn
                clear hL
                go_wp2
                go_loopg [15] ((t - j).toNat + 2) (fun kq v15 w' => ∃ i : Int, v15 = .int .i64 i ∧ Aside0 (0 ≤ i ∧ i ≤ t - j ∧ lead L = i.toNat + lead (L.drop i.toNat) ∧ kq + i.toNat = (t - j).toNat + 2) ∧ w' = wr)
                case atStart => exact ⟨0, rfl, ⟨by omega, by omega, by simp, by simp⟩, rfl⟩
                case round =>
                  obtain ⟨i, rfl, HJ, rfl⟩ := hrel
                  have i0 := HJ.out.1
                  have i1 := HJ.out.2.1
                  obtain ⟨x, hx2⟩ : ∃ x, x = j + i := ⟨_, rfl⟩
                  have hxx := bt_at s x
                  rw [hx2] at hxx
                  have HX2 := Aside0.mk hx2
                  clear hx2
                  by_cases c11 : j + i < t
                  · have e11 : decide (j + i < t) = true := decide_eq_true c11
                    obtain ⟨cc, rr, hd, hr, hcc⟩ := cut_get s j.toNat t.toNat i.toNat (by omega) (by omega)
                    rw [← HLL.out] at hd hr
                    rw [show ((j.toNat + i.toNat : Nat) : Int) = j + i from by omega] at hcc
                    have hle := HJ.out.2.2.1
                    rw [hd] at hle
                    have hsz : (j + i).toNat < s.size := by omega
                    by_cases c12 : bt s (j + i) = 32 ∨ bt s (j + i) = 9
                    · have hbl : cc = 32 ∨ cc = 9 := by
                        rcases c12 with q | q
                        · exact Or.inl (UInt8.toNat_inj.1 (by rw [q] at hcc; show cc.toNat = 32; omega))
                        · exact Or.inr (UInt8.toNat_inj.1 (by rw [q] at hcc; show cc.toNat = 9; omega))
                      rw [lead_cons _ _ hbl, hr] at hle
                      have HLE := Aside0.mk hle
                      clear hle hd hr hcc hbl
                      rcases c12 with c12 | c12
                      · have e12 : (bt s (j + i) == 32) = true := by rw [c12]; rfl
                        go_wp2
                        go_roundg (gk - 1)
                        case measure => have := HJ.out.2.2.2; omega
                        case rel => exact ⟨i + 1, rfl, ⟨by omega, by omega, by have := HLE.out; rw [show (i + 1).toNat = i.toNat + 1 from by omega]; omega, by have := HJ.out.2.2.2; omega⟩, rfl⟩
                      · have e12 : (bt s (j + i) == 32) = false := by rw [c12]; rfl
                        have e13 : (bt s (j + i) == 9) = true := by rw [c12]; rfl
                        go_wp2
                        go_roundg (gk - 1)
                        case measure => have := HJ.out.2.2.2; omega
                        case rel => exact ⟨i + 1, rfl, ⟨by omega, by omega, by have := HLE.out; rw [show (i + 1).toNat = i.toNat + 1 from by omega]; omega, by have := HJ.out.2.2.2; omega⟩, rfl⟩
                    · have hbl : ¬ (cc = 32 ∨ cc = 9) := by
                        rintro (h | h)
                        · exact c12 (Or.inl (by rw [← hcc, h]; rfl))
                        · exact c12 (Or.inr (by rw [← hcc, h]; rfl))
                      rw [lead_stop _ _ hbl] at hle
                      have hil : i = (lead L : Int) := by omega
                      have e12 : (bt s (j + i) == 32) = false := by simpa using fun h => c12 (Or.inl h)
                      have e13 : (bt s (j + i) == 9) = false := by simpa using fun h => c12 (Or.inr h)
                      clear hd hr hcc hbl
                      have HIl := HIn
                      simp only [← hil] at HIl
                      clear HIn HJ hle hil HLL HX2
                      have g0 : decide (col < 0) = false := decide_eq_false (by omega)
                      have g1 : decide (t - j < col) = false := decide_eq_false (by omega)
                      go_wp2_with (first | (go_at_call 9; refine (HIl.out _ HI.out).mono ?_; rintro e w6 ⟨rfl, hb3⟩; clear k0 k1; have hHI3 := Aside0.mk (HI.out.below hb3); have hB3 := Aside0.mk (below_step HB.out hb3); clear HB hb3 HI; have HI := hHI3; have HB := hB3; clear hB3 hHI3) | (go_at_call 5; refine (awake _).mono ?_; rintro e w3 ⟨rfl, hb3⟩; have hB3 := Aside0.mk (below_step HB.out hb3); clear HB hb3; have HB := hB3; clear hB3))
                      go_ret
                      exact ⟨rfl, HB.out⟩
                  · have e11 : decide (j + i < t) = false := decide_eq_false c11
                    have hle := HJ.out.2.2.1
                    have hLl : L.length = t.toNat - j.toNat := by rw [HLL.out]; have e : (s.extract j.toNat t.toNat).size = t.toNat - j.toNat := (by rw [ByteArray.size_extract]; omega); rw [← e]; simp only [Array.length_toList]; rfl
                    rw [List.drop_eq_nil_of_le (by omega)] at hle
                    have hil : i = (lead L : Int) := by rw [hle]; show i = ((i.toNat + 0 : Nat) : Int); omega
                    have HIl := HIn
                    simp only [← hil] at HIl
                    clear HIn HJ hle hil HLL HX2
                    have g0 : decide (col < 0) = false := decide_eq_false (by omega)
                    have g1 : decide (t - j < col) = false := decide_eq_false (by omega)
                    go_wp2_with (first | (go_at_call 9; refine (HIl.out _ HI.out).mono ?_; rintro e w6 ⟨rfl, hb3⟩; clear k0 k1; have hHI3 := Aside0.mk (HI.out.below hb3); have hB3 := Aside0.mk (below_step HB.out hb3); clear HB hb3 HI; have HI := hHI3; have HB := hB3; clear hB3 hHI3) | (go_at_call 5; refine (awake _).mono ?_; rintro e w3 ⟨rfl, hb3⟩; have hB3 := Aside0.mk (below_step HB.out hb3); clear HB hb3; have HB := hB3; clear hB3))
                    go_ret
                    exact ⟨rfl, HB.out⟩
          · have HOn := Aside0.mk (fun w (hI : Ix w g s (begk s s.size)) => Offset_out (.pointer (some ⟨g, 0, none⟩)) n col j q w (by omega) (by omega) (by omega) (HLn.out w hI))
            go_wp2_with (first | (go_at_call 7; refine (HLn.out _ HI.out).mono ?_; rintro e w3 ⟨rfl, hb3⟩; have hHI3 := Aside0.mk (HI.out.below hb3); have hB3 := Aside0.mk (below_step HB.out hb3); clear HB hb3 HI; have HI := hHI3; have HB := hB3; clear hB3 hHI3; obtain ⟨W3, hW3⟩ : ∃ W3, W3 = w3.alloc (.cells #[.int .i64 j, .int .i64 q] 26) := ⟨_, rfl⟩; have hb3 : Below w3.heap.size w3 W3 := (by rw [hW3]; exact (Below.refl _ w3).alloc (Nat.le_refl _) _); have hnew := heap_alloc_new w3 (.cells #[.int .i64 j, .int .i64 q] 26); rw [← hW3] at hnew; have k0 := Go.Lib.cell_of_heap hnew 0; have k1 := Go.Lib.cell_of_heap hnew 1; have hlt : w3.heap.size < W3.heap.size := (by rw [hW3]; simp); have hHI3 := Aside0.mk (HI.out.below hb3); have hB3 := Aside0.mk (below_step HB.out hb3); clear HB hb3 HI; have HI := hHI3; have HB := hB3; clear hB3 hHI3; clear hnew) | (go_at_call 8; rw [← hW3]; refine (HOn.out _ HI.out).mono ?_; rintro e w5 ⟨rfl, hb3⟩; replace k0 := (hb3.cell (p := ⟨w3.heap.size, 0, none⟩) hlt).trans k0; replace k1 := (hb3.cell (p := ⟨w3.heap.size, 1, none⟩) hlt).trans k1; clear hW3; have hHI3 := Aside0.mk (HI.out.below hb3); have hB3 := Aside0.mk (below_step HB.out hb3); clear HB hb3 HI; have HI := hHI3; have HB := hB3; clear hB3 hHI3))
            go_loopg [14] (s.size + 2 - j.toNat) (fun kq v14 w' => ∃ t : Int, v14 = .int .i64 t ∧ Aside0 (j ≤ t ∧ t ≤ (s.size : Int) ∧ brk s t.toNat = brk s j.toNat ∧ kq + t.toNat = s.size + 2) ∧ w' = w5)
            case atStart => exact ⟨j, rfl, ⟨by omega, c1, rfl, by omega⟩, rfl⟩
            case round =>
              obtain ⟨t, rfl, HT, rfl⟩ := hrel
              have t0 := HT.out.1
              have t1 := HT.out.2.1
              have hxt := bt_at s t
              by_cases c9 : t < (s.size : Int)
              · have e9 : decide (t < (s.size : Int)) = true := decide_eq_true c9
                by_cases c10 : bt s t = 10
                · have e10 : (bt s t != 10) = false := by rw [c10]; rfl
                  have htq : t = q := by have e := fin_at s t.toNat (by omega) (by rw [show ((t.toNat : Nat) : Int) = t from by omega]; exact c10); rw [HT.out.2.2.1, ← HNR.out, ← HQ.out] at e; omega
                  subst htq
                  clear HT HQ HNR
                  obtain ⟨L, hL⟩ : ∃ L, L = (s.extract j.toNat t.toNat).data.toList := ⟨_, rfl⟩
                  have HLL := Aside0.mk hL
                  simp only [← hL] at HIn
                  clear hL
                  go_wp2
                  go_loopg [15] ((t - j).toNat + 2) (fun kq v15 w' => ∃ i : Int, v15 = .int .i64 i ∧ Aside0 (0 ≤ i ∧ i ≤ t - j ∧ lead L = i.toNat + lead (L.drop i.toNat) ∧ kq + i.toNat = (t - j).toNat + 2) ∧ w' = wr)
                  case atStart => exact ⟨0, rfl, ⟨by omega, by omega, by simp, by simp⟩, rfl⟩
                  case round =>
                    obtain ⟨i, rfl, HJ, rfl⟩ := hrel
                    have i0 := HJ.out.1
                    have i1 := HJ.out.2.1
                    obtain ⟨x, hx2⟩ : ∃ x, x = j + i := ⟨_, rfl⟩
                    have hxx := bt_at s x
                    rw [hx2] at hxx
                    have HX2 := Aside0.mk hx2
                    clear hx2
                    by_cases c11 : j + i < t
                    · have e11 : decide (j + i < t) = true := decide_eq_true c11
                      obtain ⟨cc, rr, hd, hr, hcc⟩ := cut_get s j.toNat t.toNat i.toNat (by omega) (by omega)
                      rw [← HLL.out] at hd hr
                      rw [show ((j.toNat + i.toNat : Nat) : Int) = j + i from by omega] at hcc
                      have hle := HJ.out.2.2.1
                      rw [hd] at hle
                      have hsz : (j + i).toNat < s.size := by omega
                      by_cases c12 : bt s (j + i) = 32 ∨ bt s (j + i) = 9
                      · have hbl : cc = 32 ∨ cc = 9 := by
                          rcases c12 with q | q
                          · exact Or.inl (UInt8.toNat_inj.1 (by rw [q] at hcc; show cc.toNat = 32; omega))
                          · exact Or.inr (UInt8.toNat_inj.1 (by rw [q] at hcc; show cc.toNat = 9; omega))
                        rw [lead_cons _ _ hbl, hr] at hle
                        have HLE := Aside0.mk hle
                        clear hle hd hr hcc hbl
                        rcases c12 with c12 | c12
                        · have e12 : (bt s (j + i) == 32) = true := by rw [c12]; rfl
                          go_wp2
                          go_roundg (gk - 1)
                          case measure => have := HJ.out.2.2.2; omega
                          case rel => exact ⟨i + 1, rfl, ⟨by omega, by omega, by have := HLE.out; rw [show (i + 1).toNat = i.toNat + 1 from by omega]; omega, by have := HJ.out.2.2.2; omega⟩, rfl⟩
                        · have e12 : (bt s (j + i) == 32) = false := by rw [c12]; rfl
                          have e13 : (bt s (j + i) == 9) = true := by rw [c12]; rfl
                          go_wp2
                          go_roundg (gk - 1)
                          case measure => have := HJ.out.2.2.2; omega
                          case rel => exact ⟨i + 1, rfl, ⟨by omega, by omega, by have := HLE.out; rw [show (i + 1).toNat = i.toNat + 1 from by omega]; omega, by have := HJ.out.2.2.2; omega⟩, rfl⟩
                      · have hbl : ¬ (cc = 32 ∨ cc = 9) := by
                          rintro (h | h)
                          · exact c12 (Or.inl (by rw [← hcc, h]; rfl))
                          · exact c12 (Or.inr (by rw [← hcc, h]; rfl))
                        rw [lead_stop _ _ hbl] at hle
                        have hil : i = (lead L : Int) := by omega
                        have e12 : (bt s (j + i) == 32) = false := by simpa using fun h => c12 (Or.inl h)
                        have e13 : (bt s (j + i) == 9) = false := by simpa using fun h => c12 (Or.inr h)
                        clear hd hr hcc hbl
                        have HIl := HIn
                        simp only [← hil] at HIl
                        clear HIn HJ hle hil HLL HX2
                        by_cases g : col < 0
                        · have g0 : decide (col < 0) = true := decide_eq_true g
                          go_wp2_with (first | (go_at_call 9; refine (HIl.out _ HI.out).mono ?_; rintro e w6 ⟨rfl, hb3⟩; clear k0 k1; have hHI3 := Aside0.mk (HI.out.below hb3); have hB3 := Aside0.mk (below_step HB.out hb3); clear HB hb3 HI; have HI := hHI3; have HB := hB3; clear hB3 hHI3) | (go_at_call 5; refine (awake _).mono ?_; rintro e w3 ⟨rfl, hb3⟩; have hB3 := Aside0.mk (below_step HB.out hb3); clear HB hb3; have HB := hB3; clear hB3))
                          go_ret
                          exact ⟨rfl, HB.out⟩
                        · have g0 : decide (col < 0) = false := decide_eq_false g
                          have g1 : decide (t - j < col) = true := decide_eq_true (by omega)
                          go_wp2_with (first | (go_at_call 9; refine (HIl.out _ HI.out).mono ?_; rintro e w6 ⟨rfl, hb3⟩; clear k0 k1; have hHI3 := Aside0.mk (HI.out.below hb3); have hB3 := Aside0.mk (below_step HB.out hb3); clear HB hb3 HI; have HI := hHI3; have HB := hB3; clear hB3 hHI3) | (go_at_call 5; refine (awake _).mono ?_; rintro e w3 ⟨rfl, hb3⟩; have hB3 := Aside0.mk (below_step HB.out hb3); clear HB hb3; have HB := hB3; clear hB3))
                          go_ret
                          exact ⟨rfl, HB.out⟩
                    · have e11 : decide (j + i < t) = false := decide_eq_false c11
                      have hle := HJ.out.2.2.1
                      have hLl : L.length = t.toNat - j.toNat := by rw [HLL.out]; have e : (s.extract j.toNat t.toNat).size = t.toNat - j.toNat := (by rw [ByteArray.size_extract]; omega); rw [← e]; simp only [Array.length_toList]; rfl
                      rw [List.drop_eq_nil_of_le (by omega)] at hle
                      have hil : i = (lead L : Int) := by rw [hle]; show i = ((i.toNat + 0 : Nat) : Int); omega
                      have HIl := HIn
                      simp only [← hil] at HIl
                      clear HIn HJ hle hil HLL HX2
                      by_cases g : col < 0
                      · have g0 : decide (col < 0) = true := decide_eq_true g
                        go_wp2_with (first | (go_at_call 9; refine (HIl.out _ HI.out).mono ?_; rintro e w6 ⟨rfl, hb3⟩; clear k0 k1; have hHI3 := Aside0.mk (HI.out.below hb3); have hB3 := Aside0.mk (below_step HB.out hb3); clear HB hb3 HI; have HI := hHI3; have HB := hB3; clear hB3 hHI3) | (go_at_call 5; refine (awake _).mono ?_; rintro e w3 ⟨rfl, hb3⟩; have hB3 := Aside0.mk (below_step HB.out hb3); clear HB hb3; have HB := hB3; clear hB3))
                        go_ret
                        exact ⟨rfl, HB.out⟩
                      · have g0 : decide (col < 0) = false := decide_eq_false g
                        have g1 : decide (t - j < col) = true := decide_eq_true (by omega)
                        go_wp2_with (first | (go_at_call 9; refine (HIl.out _ HI.out).mono ?_; rintro e w6 ⟨rfl, hb3⟩; clear k0 k1; have hHI3 := Aside0.mk (HI.out.below hb3); have hB3 := Aside0.mk (below_step HB.out hb3); clear HB hb3 HI; have HI := hHI3; have HB := hB3; clear hB3 hHI3) | (go_at_call 5; refine (awake _).mono ?_; rintro e w3 ⟨rfl, hb3⟩; have hB3 := Aside0.mk (below_step HB.out hb3); clear HB hb3; have HB := hB3; clear hB3))
                        go_ret
                        exact ⟨rfl, HB.out⟩
                · have e10 : (bt s t != 10) = true := by simpa using c10
                  have HT2 : Aside0 (brk s (t + 1).toNat = brk s j.toNat) := ⟨by rw [show (t + 1).toNat = t.toNat + 1 from by omega, brk_miss s _ (by rw [show ((t.toNat : Nat) : Int) = t from by omega]; exact c10)]; exact HT.out.2.2.1⟩
                  go_wp2
                  go_roundg (gk - 1)
                  case measure => have := HT.out.2.2.2; omega
                  case rel => exact ⟨t + 1, rfl, ⟨by omega, by omega, HT2.out, by have := HT.out.2.2.2; omega⟩, rfl⟩
              · have e9 : decide (t < (s.size : Int)) = false := decide_eq_false c9
                have htq : t = q := by have e := fin_end s; have h3 := HT.out.2.2.1; have et : t.toNat = s.size := (by omega); rw [et] at h3; rw [h3, ← HNR.out, ← HQ.out] at e; omega
                subst htq
                clear HT HQ HNR
                obtain ⟨L, hL⟩ : ∃ L, L = (s.extract j.toNat t.toNat).data.toList := ⟨_, rfl⟩
                have HLL := Aside0.mk hL
                simp only [← hL] at HIn
                clear hL
                go_wp2
                go_loopg [15] ((t - j).toNat + 2) (fun kq v15 w' => ∃ i : Int, v15 = .int .i64 i ∧ Aside0 (0 ≤ i ∧ i ≤ t - j ∧ lead L = i.toNat + lead (L.drop i.toNat) ∧ kq + i.toNat = (t - j).toNat + 2) ∧ w' = wr)
                case atStart => exact ⟨0, rfl, ⟨by omega, by omega, by simp, by simp⟩, rfl⟩
                case round =>
                  obtain ⟨i, rfl, HJ, rfl⟩ := hrel
                  have i0 := HJ.out.1
                  have i1 := HJ.out.2.1
                  obtain ⟨x, hx2⟩ : ∃ x, x = j + i := ⟨_, rfl⟩
                  have hxx := bt_at s x
                  rw [hx2] at hxx
                  have HX2 := Aside0.mk hx2
                  clear hx2
                  by_cases c11 : j + i < t
                  · have e11 : decide (j + i < t) = true := decide_eq_true c11
                    obtain ⟨cc, rr, hd, hr, hcc⟩ := cut_get s j.toNat t.toNat i.toNat (by omega) (by omega)
                    rw [← HLL.out] at hd hr
                    rw [show ((j.toNat + i.toNat : Nat) : Int) = j + i from by omega] at hcc
                    have hle := HJ.out.2.2.1
                    rw [hd] at hle
                    have hsz : (j + i).toNat < s.size := by omega
                    by_cases c12 : bt s (j + i) = 32 ∨ bt s (j + i) = 9
                    · have hbl : cc = 32 ∨ cc = 9 := by
                        rcases c12 with q | q
                        · exact Or.inl (UInt8.toNat_inj.1 (by rw [q] at hcc; show cc.toNat = 32; omega))
                        · exact Or.inr (UInt8.toNat_inj.1 (by rw [q] at hcc; show cc.toNat = 9; omega))
                      rw [lead_cons _ _ hbl, hr] at hle
                      have HLE := Aside0.mk hle
                      clear hle hd hr hcc hbl
                      rcases c12 with c12 | c12
                      · have e12 : (bt s (j + i) == 32) = true := by rw [c12]; rfl
                        go_wp2
                        go_roundg (gk - 1)
                        case measure => have := HJ.out.2.2.2; omega
                        case rel => exact ⟨i + 1, rfl, ⟨by omega, by omega, by have := HLE.out; rw [show (i + 1).toNat = i.toNat + 1 from by omega]; omega, by have := HJ.out.2.2.2; omega⟩, rfl⟩
                      · have e12 : (bt s (j + i) == 32) = false := by rw [c12]; rfl
                        have e13 : (bt s (j + i) == 9) = true := by rw [c12]; rfl
                        go_wp2
                        go_roundg (gk - 1)
                        case measure => have := HJ.out.2.2.2; omega
                        case rel => exact ⟨i + 1, rfl, ⟨by omega, by omega, by have := HLE.out; rw [show (i + 1).toNat = i.toNat + 1 from by omega]; omega, by have := HJ.out.2.2.2; omega⟩, rfl⟩
                    · have hbl : ¬ (cc = 32 ∨ cc = 9) := by
                        rintro (h | h)
                        · exact c12 (Or.inl (by rw [← hcc, h]; rfl))
                        · exact c12 (Or.inr (by rw [← hcc, h]; rfl))
                      rw [lead_stop _ _ hbl] at hle
                      have hil : i = (lead L : Int) := by omega
                      have e12 : (bt s (j + i) == 32) = false := by simpa using fun h => c12 (Or.inl h)
                      have e13 : (bt s (j + i) == 9) = false := by simpa using fun h => c12 (Or.inr h)
                      clear hd hr hcc hbl
                      have HIl := HIn
                      simp only [← hil] at HIl
                      clear HIn HJ hle hil HLL HX2
                      by_cases g : col < 0
                      · have g0 : decide (col < 0) = true := decide_eq_true g
                        go_wp2_with (first | (go_at_call 9; refine (HIl.out _ HI.out).mono ?_; rintro e w6 ⟨rfl, hb3⟩; clear k0 k1; have hHI3 := Aside0.mk (HI.out.below hb3); have hB3 := Aside0.mk (below_step HB.out hb3); clear HB hb3 HI; have HI := hHI3; have HB := hB3; clear hB3 hHI3) | (go_at_call 5; refine (awake _).mono ?_; rintro e w3 ⟨rfl, hb3⟩; have hB3 := Aside0.mk (below_step HB.out hb3); clear HB hb3; have HB := hB3; clear hB3))
                        go_ret
                        exact ⟨rfl, HB.out⟩
                      · have g0 : decide (col < 0) = false := decide_eq_false g
                        have g1 : decide (t - j < col) = true := decide_eq_true (by omega)
                        go_wp2_with (first | (go_at_call 9; refine (HIl.out _ HI.out).mono ?_; rintro e w6 ⟨rfl, hb3⟩; clear k0 k1; have hHI3 := Aside0.mk (HI.out.below hb3); have hB3 := Aside0.mk (below_step HB.out hb3); clear HB hb3 HI; have HI := hHI3; have HB := hB3; clear hB3 hHI3) | (go_at_call 5; refine (awake _).mono ?_; rintro e w3 ⟨rfl, hb3⟩; have hB3 := Aside0.mk (below_step HB.out hb3); clear HB hb3; have HB := hB3; clear hB3))
                        go_ret
                        exact ⟨rfl, HB.out⟩
                  · have e11 : decide (j + i < t) = false := decide_eq_false c11
                    have hle := HJ.out.2.2.1
                    have hLl : L.length = t.toNat - j.toNat := by rw [HLL.out]; have e : (s.extract j.toNat t.toNat).size = t.toNat - j.toNat := (by rw [ByteArray.size_extract]; omega); rw [← e]; simp only [Array.length_toList]; rfl
                    rw [List.drop_eq_nil_of_le (by omega)] at hle
                    have hil : i = (lead L : Int) := by rw [hle]; show i = ((i.toNat + 0 : Nat) : Int); omega
                    have HIl := HIn
                    simp only [← hil] at HIl
                    clear HIn HJ hle hil HLL HX2
                    by_cases g : col < 0
                    · have g0 : decide (col < 0) = true := decide_eq_true g
                      go_wp2_with (first | (go_at_call 9; refine (HIl.out _ HI.out).mono ?_; rintro e w6 ⟨rfl, hb3⟩; clear k0 k1; have hHI3 := Aside0.mk (HI.out.below hb3); have hB3 := Aside0.mk (below_step HB.out hb3); clear HB hb3 HI; have HI := hHI3; have HB := hB3; clear hB3 hHI3) | (go_at_call 5; refine (awake _).mono ?_; rintro e w3 ⟨rfl, hb3⟩; have hB3 := Aside0.mk (below_step HB.out hb3); clear HB hb3; have HB := hB3; clear hB3))
                      go_ret
                      exact ⟨rfl, HB.out⟩
                    · have g0 : decide (col < 0) = false := decide_eq_false g
                      have g1 : decide (t - j < col) = true := decide_eq_true (by omega)
                      go_wp2_with (first | (go_at_call 9; refine (HIl.out _ HI.out).mono ?_; rintro e w6 ⟨rfl, hb3⟩; clear k0 k1; have hHI3 := Aside0.mk (HI.out.below hb3); have hB3 := Aside0.mk (below_step HB.out hb3); clear HB hb3 HI; have HI := hHI3; have HB := hB3; clear hB3 hHI3) | (go_at_call 5; refine (awake _).mono ?_; rintro e w3 ⟨rfl, hb3⟩; have hB3 := Aside0.mk (below_step HB.out hb3); clear HB hb3; have HB := hB3; clear hB3))
                      go_ret
                      exact ⟨rfl, HB.out⟩
    · have e1 : decide (j ≤ (s.size : Int)) = false := decide_eq_false c1
      have e7 : decide ((s.size : Int) < j) = true := decide_eq_true (by omega)
      by_cases c6 : n < 0
      · exfalso
        have := hp.neg c6
        omega
      have e6 : decide (n < 0) = false := decide_eq_false c6
      have hout := hp.out (Or.inr (by omega))
      have hout2 : n < 0 ∨ ((beg s).length : Int) ≤ n := by
        rcases hout with q | q | q
        · exact Or.inl q
        · exact Or.inr q
        · omega
      have HLo := Aside0.mk (fun w (hI : Ix w g s (beg s)) => Line_out g s _ n w hI hout2)
      have HOo := Aside0.mk (fun w (hI : Ix w g s (beg s)) => Offset_err (.pointer (some ⟨g, 0, none⟩)) n col w (Line_out g s _ n w hI hout2))
      have HIo := Aside0.mk (fun w (hI : Ix w g s (beg s)) => Indent_err (.pointer (some ⟨g, 0, none⟩)) n w (Line_out g s _ n w hI hout2))
      clear hout hout2 hp HX hx
      go_wp2_with (first | (go_at_call 7; refine (HLo.out _ HI.out).mono ?_; rintro e w3 ⟨rfl, hb3⟩; have hHI3 := Aside0.mk (HI.out.below hb3); have hB3 := Aside0.mk (below_step HB.out hb3); clear HB hb3 HI; have HI := hHI3; have HB := hB3; clear hB3 hHI3; obtain ⟨W3, hW3⟩ : ∃ W3, W3 = w3.alloc (.cells #[.int .i64 0, .int .i64 0] 26) := ⟨_, rfl⟩; have hb3 : Below w3.heap.size w3 W3 := (by rw [hW3]; exact (Below.refl _ w3).alloc (Nat.le_refl _) _); have hnew := heap_alloc_new w3 (.cells #[.int .i64 0, .int .i64 0] 26); rw [← hW3] at hnew; have k0 := Go.Lib.cell_of_heap hnew 0; have k1 := Go.Lib.cell_of_heap hnew 1; have hlt : w3.heap.size < W3.heap.size := (by rw [hW3]; simp); have hHI3 := Aside0.mk (HI.out.below hb3); have hB3 := Aside0.mk (below_step HB.out hb3); clear HB hb3 HI; have HI := hHI3; have HB := hB3; clear hB3 hHI3; clear hnew) | (go_at_call 8; rw [← hW3]; refine (HOo.out _ HI.out).mono ?_; rintro e w5 ⟨rfl, hb3⟩; replace k0 := (hb3.cell (p := ⟨w3.heap.size, 0, none⟩) hlt).trans k0; replace k1 := (hb3.cell (p := ⟨w3.heap.size, 1, none⟩) hlt).trans k1; clear hW3; have hHI3 := Aside0.mk (HI.out.below hb3); have hB3 := Aside0.mk (below_step HB.out hb3); clear HB hb3 HI; have HI := hHI3; have HB := hB3; clear hB3 hHI3) | (go_at_call 9; refine (HIo.out _ HI.out).mono ?_; rintro e w6 ⟨rfl, hb3⟩; clear k0 k1; have hHI3 := Aside0.mk (HI.out.below hb3); have hB3 := Aside0.mk (below_step HB.out hb3); clear HB hb3 HI; have HI := hHI3; have HB := hB3; clear hB3 hHI3) | (go_at_call 5; refine (awake _).mono ?_; rintro e w3 ⟨rfl, hb3⟩; have hB3 := Aside0.mk (below_step HB.out hb3); clear HB hb3; have HB := hB3; clear hB3))
      go_ret
      exact ⟨rfl, HB.out⟩
end Go.Proofs.YtgejmmkfaliinaaDoor.Lines
