/- Layer 25: LayoutNone, walked. -/
import Derived.Test.YtjgaikmejccdkaaDoorLay8
namespace Go.Proofs.YtjgaikmejccdkaaDoor.PDoc
open Go.RowKit Go.Proofs.YtjgaikmejccdkaaDoorW.PrintWords Go.Proofs.YtjgaikmejccdkaaDoorW.PrintLast Go.Proofs.YtjgaikmejccdkaaDoorW.PrintMore
set_option linter.unusedVariables false
set_option linter.unusedSimpArgs false
set_option maxHeartbeats 8000000 in
set_option maxRecDepth 100000 in
theorem LayoutNone (x : Int) (hx0 : 0 ≤ x) (hx1 : x ≤ 65535) (w : World) (hM : Mx w) : Calls Tryd.prog 6 #[.int .u16 x] w fun e w' => e = .returned (.bool true) ∧ Below w.heap.size w w' := by
  have HA := Aside0.mk (awake25 w hM)
  have HX := Aside0.mk (And.intro hx0 hx1)
  clear hM hx0 hx1
  go_enter Tryd.func6, Tryd.ntmps6
  go_wp2_with (go_at_call 25; refine HA.out.mono ?_; clear HA; rintro e w0 ⟨rfl, hb⟩; have HB := Aside0.mk hb; clear hb)
  go_loopg [3, 4] 20001 (fun kq v3 v4 w' => ∃ (i : Nat), v4 = .int .i64 (i : Int) ∧ Aside0 (i ≤ 20000 ∧ kq + i = 20001) ∧ Aside0 (kTi.R 24 w' w.heap.size (fun _ => True) v3 (List.replicate i ())) ∧ Aside0 (Below w.heap.size w w'))
  case atStart => exact ⟨0, rfl, ⟨by omega, rfl⟩, ⟨Kd.R_nil _ _ _ _ _⟩, HB⟩
  case round =>
    clear HB
    obtain ⟨i, rfl, HI, HR, HB⟩ := hrel
    by_cases c9 : i < 20000
    · have d9 : decide ((i : Int) < 20000) = true := decide_eq_true (by omega)
      have HC := Aside0.mk c9
      go_wp2_with (first | (go_at_call 26; refine (Tight_new _).mono ?_; rintro e w1 ⟨rfl, hw1⟩; have HG := Aside0.mk (show w1.heap[wr.heap.size]? = some (.cells tiC.toArray 65 (0, 0)) from hw1 ▸ blk_new wr _); have hb1 : Below wr.heap.size wr w1 := hw1 ▸ below_alloc (Below.refl _ _) _; have HNE := Aside0.mk (fun (k : Nat) (hk : u3.ownBlock = some k) => (show k ≠ wr.heap.size from Nat.ne_of_lt (Kd.R_lt HR.out k hk))); have HGE := Aside0.mk HB.out.size; have n0_ := Aside0.mk (Kd.R_below HR.out hb1); have n1_ := Aside0.mk (below_step HB.out hb1); clear HR HB hb1 hw1; have HR := n0_; have HB := n1_; clear n0_ n1_; generalize wr.heap.size = gt at HG HNE HGE ⊢) | (at_builtin; refine Kd.R_append kTi (w0 := w) w.heap.size rfl _ _ 40 24 (.pointer none) 8 rfl Tryd.underlying40 info24 rfl (Nat.lt_succ_self 0) (by omega) u3 (List.replicate i ()) () [.pointer (some ⟨gt, 0, none⟩)] (fun _ => True) (fun k => k = gt) rfl rfl (kTi_mk HG.out HGE.out) (fun k hk => ⟨trivial, fun e => HNE.out k e.symm hk⟩) (fun _ _ => trivial) HR.out HB.out HB.out.size (by have := HC.out; rw [List.length_replicate]; omega) ?_; intro v1 w2 hR hB _ _; have n0_ := Aside0.mk hR; have n1_ := Aside0.mk hB; clear hR hB HR HB HG HNE HGE; have HR := n0_; have HB := n1_; clear n0_ n1_))
      go_roundg (gk - 1)
      case measure => have := HI.out; omega
      case rel => exact ⟨i + 1, by go_num, ⟨by have := HC.out; omega, by have := HI.out; omega⟩, ⟨by rw [List.replicate_succ']; exact HR.out⟩, HB⟩
    · have d9 : decide ((i : Int) < 20000) = false := decide_eq_false (by omega)
      have hi : i = 20000 := by have := HI.out; omega
      rw [hi] at HR
      obtain ⟨A, c, hv, hcl, hC⟩ := Kd.R_reads HR.out
      rw [List.length_replicate] at hv hcl hC
      subst hv
      obtain ⟨l, hl, HTI⟩ := Ti.ex 20000
      have HC := Aside0.mk (show kD.C wr A 20000 l from hl ▸ kTi_C hC)
      have HTI := Aside0.mk HTI
      obtain ⟨l2, hl2, HT2⟩ := Ti.ex 19998
      have HT2 := Aside0.mk HT2
      have hdrop : l.drop 2 = l2 := by rw [hl, hl2, List.drop_replicate]
      obtain ⟨A', hA, hC2⟩ : ∃ A', (∀ W : World, (Instr.slice 40 (.slice A 20000 c) (some (.int .i64 2)) none none).run Tryd.prog W = .ok (.slice A' 19998 (c - 2)) W) ∧ kD.C wr A' 19998 l2 := by
        obtain ⟨i0, hi0, hzz⟩ := Option.map_eq_some_iff.1 info24
        simp only [Prod.mk.injEq] at hzz
        have h1 := cut_from (P := Tryd.prog) 40 24 .i64 Tryd.underlying40 hi0 1 hzz.2.1 A 20000 c 2 (by omega) (by omega)
        have h2 := Kd.C_drop (k := kD) (w := wr) (A := A) (xs := l) (m := 2) (c := c) (by rw [HTI.out.len]; exact HC.out) (by rw [HTI.out.len]; omega) (by rw [HTI.out.len]; exact hcl)
        rw [hdrop, HT2.out.len] at h2
        exact ⟨_, fun W => h1 W, h2⟩
      have HC2 := Aside0.mk hC2
      clear hC HR hl hl2 hdrop hC2
      obtain ⟨y, hy⟩ : ∃ y, x.tmod 65535 = y := ⟨_, rfl⟩
      have hy0 : 0 ≤ y ∧ y ≤ 65534 := by rw [← hy, Int.tmod_eq_emod_of_nonneg HX.out.1]; omega
      have e2 : wrap64 y = y := w64 _ (by omega) (by omega)
      have e3 : wrap64 (1 + y) = 1 + y := w64 _ (by omega) (by omega)
      go_upto_region 9 with (fail)
      have HW := Aside0.mk (show 1 ≤ 1 + y ∧ 1 + y ≤ 65535 by omega)
      clear e2 e3 hy d9 hy0
      generalize 1 + y = W at HW ⊢
      obtain ⟨d1, hd1⟩ : ∃ d1, d1 = bD 4 0 l := ⟨_, rfl⟩
      have hs1 : sz d1 = 20001 := by rw [hd1]; show 1 + szs l = _; rw [HTI.out.s]; rfl
      obtain ⟨d3, hd3⟩ : ∃ d3, d3 = bD 6 0 [bD 4 0 l2] := ⟨_, rfl⟩
      have hs3 : sz d3 = 20000 := by rw [hd3]; show 1 + (1 + szs l2 + 0) = _; rw [HT2.out.s]; rfl
      have hp3 : Pb d3 := hd3 ▸ gN_pb (by rw [HT2.out.nb]; omega) (by rw [HT2.out.tb]; omega) HT2.out.ib HT2.out.wf
      have HLN := Aside0.mk (fun (u : World) => (show Calls Tryd.prog 27 #[.pointer none, .int .i64 W] u fun e w' => e = .returned (.tuple #[.string ⟨#[]⟩, .int .i64 0]) ∧ Below u.heap.size u w' from prt_none W ▸ Lay_yes (d := none) kD_none none_pb W HW.out.1 HW.out.2 (by show (1 : Int) ≤ _; omega)))
      have HCAT := Aside0.mk (fun (u : World) (hb : Below wr.heap.size wr u) => (show Calls Tryd.prog 11 #[.slice A 20000 c] u fun e w' => ∃ v, e = .returned v ∧ DV w' v d1 ∧ Below u.heap.size u w' from by
        have := Cat_ A c l u (HTI.out.len.symm ▸ Kd.C_below HC.out hb) (by rw [HTI.out.len]; exact hcl) (by rw [HTI.out.len]; omega) HTI.out.nn (by rw [HTI.out.w]; omega) (by rw [HTI.out.s]; omega)
        rw [HTI.out.len] at this
        rw [hd1]
        exact this))
      have HLX := Aside0.mk (fun (u : World) (v : Value) (h : DV u v d1) => (show Calls Tryd.prog 27 #[v, .int .i64 W] u fun e w' => e = .returned (.tuple #[.string ⟨#[]⟩, .int .i64 3]) ∧ Below u.heap.size u w' from by
        have e3 : ert W d1 = 3 := by unfold ert; rw [if_neg (by have := HW.out; omega), if_neg (by have := HW.out; omega), if_pos (by rw [hs1]; omega)]
        have := Lay_no h W (by rw [e3]; omega)
        rw [e3] at this
        exact this))
      have HLE := Aside0.mk (fun (u : World) (v : Value) (h : DV u v d1) => Least_no h (by rw [hs1]; omega))
      have HCAT2 := Aside0.mk (fun (u : World) (hb : Below wr.heap.size wr u) => (show Calls Tryd.prog 11 #[.slice A' 19998 (c - 2)] u fun e w' => ∃ v, e = .returned v ∧ DV w' v (bD 4 0 l2) ∧ Below u.heap.size u w' from by
        have := Cat_ A' (c - 2) l2 u (HT2.out.len.symm ▸ Kd.C_below HC2.out hb) (by rw [HT2.out.len]; omega) (by rw [HT2.out.len]; omega) HT2.out.nn (by rw [HT2.out.w]; omega) (by rw [HT2.out.s]; omega)
        rw [HT2.out.len] at this
        exact this))
      have HGR := Aside0.mk (fun (u : World) (v : Value) (h : DV u v (bD 4 0 l2)) => (show Calls Tryd.prog 14 #[v] u fun e w' => ∃ v, e = .returned v ∧ DV w' v d3 ∧ Below u.heap.size u w' from by
        rw [hd3]
        exact Group_ h (nn_b HT2.out.nn) (by show wds l2 ≤ _; rw [HT2.out.w]; omega) (by show 1 + szs l2 ≤ _; rw [HT2.out.s]; omega)))
      have HLY := Aside0.mk (fun (u : World) (v : Value) (h : DV u v d3) => Lay_yes h hp3 W HW.out.1 HW.out.2 (by rw [hs3]; omega))
      have HBR := Aside0.mk (Below.refl wr.heap.size wr)
      obtain ⟨s3, hs3'⟩ : ∃ s3, s3 = prt W d3 := ⟨_, rfl⟩
      rw [← hs3'] at HLY
      clear hd1 hs1 hd3 hs3 hp3 hs3' hcl HC HTI HC2 HT2 HW
      go_wp2_with (first | (go_at_call 27; with_reducible refine (HLN.out _).mono ?_; clear HLN; rintro e w1 ⟨rfl, hb⟩; have n0_ := Aside0.mk (below_step HBR.out hb); clear HBR hb; have HBR := n0_; clear n0_) | (go_at_call 11; with_reducible refine (HCAT.out _ HBR.out).mono ?_; rintro e w2 ⟨v2, rfl, hd, hb⟩; obtain ⟨p2, rfl⟩ := hd.ptr; have HD := Aside0.mk hd; have n0_ := Aside0.mk (below_step HBR.out hb); clear HBR hb hd; have HBR := n0_; clear n0_) | (go_at_call 27; with_reducible refine (HLX.out _ _ HD.out).mono ?_; clear HLX; rintro e w1 ⟨rfl, hb⟩; have n0_ := Aside0.mk (below_step HBR.out hb); clear HBR hb HD; have HBR := n0_; clear n0_) | (go_at_call 11; with_reducible refine (HCAT2.out _ HBR.out).mono ?_; clear HCAT2; rintro e w2 ⟨v2, rfl, hd, hb⟩; obtain ⟨p2, rfl⟩ := hd.ptr; have HD2 := Aside0.mk hd; have n0_ := Aside0.mk (below_step HBR.out hb); clear HBR hb hd; have HBR := n0_; clear n0_) | (go_at_call 14; refine (HGR.out _ _ HD2.out).mono ?_; clear HGR HD2; rintro e w2 ⟨v2, rfl, hd, hb⟩; obtain ⟨p2, rfl⟩ := hd.ptr; have HD3 := Aside0.mk hd; have n0_ := Aside0.mk (below_step HBR.out hb); clear HBR hb hd; have HBR := n0_; clear n0_) | (go_at_call 27; with_reducible refine (HLY.out _ _ HD3.out).mono ?_; clear HLY; rintro e w1 ⟨rfl, hb⟩; have n0_ := Aside0.mk (below_step HBR.out hb); clear HBR hb HD3; have HBR := n0_; clear n0_) | (go_at_call 28; with_reducible refine (HLE.out _ _ HD.out).mono ?_; clear HLE; rintro e w1 ⟨rfl, hb⟩; have n0_ := Aside0.mk (below_step HBR.out hb); clear HBR hb HD; have HBR := n0_; clear n0_))
      go_ret
      exact ⟨rfl, below_step HB.out HBR.out⟩
theorem u16_wf {x : Int} (h : (Lit.int .u16 x).wf = true) : 0 ≤ x ∧ x ≤ 65535 := by
  simp [Lit.wf, IntKind.min, IntKind.max, IntKind.signed, IntKind.bits] at h
  omega
theorem LayoutNoneW (x : Int) (w : World) (hM : Mx w) (h : (Lit.int .u16 x).wf = true) : Calls Tryd.prog 6 #[.int .u16 x] w fun e w' => e = .returned (.bool true) ∧ Below w.heap.size w w' := LayoutNone x (u16_wf h).1 (u16_wf h).2 w hM
end Go.Proofs.YtjgaikmejccdkaaDoor.PDoc
