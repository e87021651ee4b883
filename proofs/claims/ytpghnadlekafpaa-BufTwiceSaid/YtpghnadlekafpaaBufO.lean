/- BufTwice, walked. -/
import Derived.Test.YtpghnadlekafpaaBufN
namespace Go.Proofs.Ytpghnadlekafpaa.PBuf
open Go.RowKit Go.Proofs.YtpghnadlekafpaaW.PrintWords Go.Proofs.YtpghnadlekafpaaW.PrintLast Go.Proofs.YtpghnadlekafpaaW.PrintMore
set_option linter.unusedVariables false
set_option linter.unusedSimpArgs false
/-- Two buffers that are the same, apart. -/
structure Tw (w0 : World) (ga gb : Nat) (Vpa Vfa Vla Vpb Vfb Vlb : Value) (na nb : Int) (P : List Pc) (past fut : List St) (Q : List Pc) (pq fq : List St) (w : World) : Prop where
  a : Bf w w0.heap.size ga Vpa Vfa Vla na P past fut
  b : Bf w w0.heap.size gb Vpb Vfb Vlb nb Q pq fq
  d : ∀ i, foot ga Vpa Vfa i → ¬ foot gb Vpb Vfb i
  w : Below w0.heap.size w0 w
theorem Tw.below {w0 w w' : World} {ga gb : Nat} {Vpa Vfa Vla Vpb Vfb Vlb : Value} {na nb : Int} {P Q : List Pc} {past fut pq fq : List St} (h : Tw w0 ga gb Vpa Vfa Vla Vpb Vfb Vlb na nb P past fut Q pq fq w) (hb : Below w.heap.size w w') : Tw w0 ga gb Vpa Vfa Vla Vpb Vfb Vlb na nb P past fut Q pq fq w' :=
  ⟨h.a.below hb, h.b.below hb, h.d, below_step h.w hb⟩
theorem Tw.onA {w0 w w' : World} {ga gb : Nat} {Vpa Vfa Vla Vpb Vfb Vlb : Value} {na nb : Int} {P P' Q : List Pc} {past fut pq fq past' fut' : List St} (h : Tw w0 ga gb Vpa Vfa Vla Vpb Vfb Vlb na nb P past fut Q pq fq w) (he : Ev w w0.heap.size ga Vpa Vfa P' past' fut' w') : ∃ Vp Vf Vl n', Tw w0 ga gb Vp Vf Vl Vpb Vfb Vlb n' nb P' past' fut' Q pq fq w' := by
  obtain ⟨Vp, Vf, Vl, n', h1, h2, h3, h4⟩ := Ev.other h.a h.b h.d he
  exact ⟨Vp, Vf, Vl, n', h1, h2, h3, h.w.trans (h4.below (fun i hi => (h.a.foot_lt i hi).2) h.w.size)⟩
theorem Tw.onB {w0 w w' : World} {ga gb : Nat} {Vpa Vfa Vla Vpb Vfb Vlb : Value} {na nb : Int} {P P' Q : List Pc} {past fut pq fq past' fut' : List St} (h : Tw w0 ga gb Vpa Vfa Vla Vpb Vfb Vlb na nb P past fut Q pq fq w) (he : Ev w w0.heap.size gb Vpb Vfb P' past' fut' w') : ∃ Vp Vf Vl n', Tw w0 ga gb Vpa Vfa Vla Vp Vf Vl na n' P past fut P' past' fut' w' := by
  obtain ⟨Vp, Vf, Vl, n', h1, h2, h3, h4⟩ := Ev.other h.b h.a (fun i hb ha => h.d i ha hb) he
  exact ⟨Vp, Vf, Vl, n', h2, h1, fun i ha hb => h3 i hb ha, h.w.trans (h4.below (fun i hi => (h.b.foot_lt i hi).2) h.w.size)⟩
theorem Tw.stay {w0 w w' : World} {ga gb b q : Nat} {Vpa Vfa Vla Vpb Vfb Vlb : Value} {na nb : Int} {P P' Q : List Pc} {past fut pq fq past' fut' : List St} {cs : Array Value} (h : Tw w0 ga gb Vpa Vfa Vla Vpb Vfb Vlb na nb P past fut Q pq fq w) (he : Ev w w0.heap.size ga Vpa Vfa P' past' fut' w') (hx : w.heap[b]? = some (.cells cs q (0, 0))) (hq : q ≠ 61 ∧ q ≠ 63) : w'.heap[b]? = some (.cells cs q (0, 0)) := by
  obtain ⟨_, _, _, _, _, h2, _⟩ := he
  exact (typ_stay h2 (fun i hi => h.a.foot_typed i hi) (blk_lt hx) hx hq).trans hx
set_option maxHeartbeats 2000000 in
set_option maxRecDepth 100000 in
theorem BufTwice (s : ByteArray) (A : Option Addr) (c : Nat) (l : List Ac) (w : World) (hC : Kd.C kA w A l.length l) (hc : l.length ≤ c) : Calls Try.prog 4 #[.string s, .slice A l.length c] w fun e w' => e = .returned (.bool true) ∧ Below w.heap.size w w' := by
  have HB := Aside0.mk (Below.refl w.heap.size w)
  have HGR := Aside0.mk (fun (w1 : World) (hb : Below w.heap.size w w1) => (frisketlaw02_great.calls (wt l) A c l (grA l) w1 (Kd.C_below hC hb) hc (great_eq l hC)).mono (R' := fun e w' => e = .returned (.bool (grA l)) ∧ Below w1.heap.size w1 w') (fun e w' h => ⟨h.1, h.2.below⟩))
  have HC := Aside0.mk hC
  clear hC hc
  by_cases c1 : (s.size : Int) > 300
  · have d1 : decide ((s.size : Int) > 300) = true := decide_eq_true c1
    have d1b : decide (300 < (s.size : Int)) = true := d1
    clear c1
    go_enter Try.func4, Try.ntmps4
    go_wp2_with (go_at_call 8; refine (awake _).mono ?_; rintro e w3 ⟨rfl, hb⟩; have n0_ := Aside0.mk (below_step HB.out hb); clear HB hb; have HB := n0_; clear n0_)
    go_ret
    exact ⟨rfl, HB.out⟩
  have d1 : decide ((s.size : Int) > 300) = false := decide_eq_false c1
  have d1b : decide (300 < (s.size : Int)) = false := d1
  have HS := Aside0.mk (show s.size ≤ 300 by omega)
  clear c1
  cases hg : grA l with
  | true =>
    rw [hg] at HGR
    clear hg
    go_enter Try.func4, Try.ntmps4
    go_wp2_with (first | (go_at_call 14; refine (HGR.out _ HB.out).mono ?_; rintro e w3 ⟨rfl, hb⟩; have n0_ := Aside0.mk (below_step HB.out hb); clear HB hb; have HB := n0_; clear n0_) | (go_at_call 8; refine (awake _).mono ?_; rintro e w3 ⟨rfl, hb⟩; have n0_ := Aside0.mk (below_step HB.out hb); clear HB hb; have HB := n0_; clear n0_))
    go_ret
    exact ⟨rfl, HB.out⟩
  | false =>
    rw [hg] at HGR
    have HNO := Aside0.mk (grA_no hg)
    have HFIRST := Aside0.mk True.intro
    clear hg
    go_enter Try.func4, Try.ntmps4
    go_wp2_with (first | (go_at_call 14; refine (HGR.out _ HB.out).mono ?_; rintro e w3 ⟨rfl, hb⟩; have n0_ := Aside0.mk (below_step HB.out hb); clear HB hb; have HB := n0_; clear n0_) | (go_at_call 8; refine (awake _).mono ?_; rintro e w3 ⟨rfl, hb⟩; have n0_ := Aside0.mk (below_step HB.out hb); clear HB hb; have HB := n0_; clear n0_) | (go_at_call 9; clear HFIRST; refine (New s (by have := HS.out; omega) _).mono ?_; rintro e w4 ⟨ga, Vla, rfl, hB, hb⟩; have HFA := Aside0.mk (Bf.lower hB HB.out.size); have n0_ := Aside0.mk (below_step HB.out hb); clear HB hb hB; have HB := n0_; clear n0_) | (go_at_call 9; refine (New s (by have := HS.out; omega) _).mono ?_; rintro e w5 ⟨gb, Vlb, rfl, hB, hb⟩; have HTW := Aside0.mk (show Tw w ga gb (.slice none 0 0) (.slice none 0 0) Vla (.slice none 0 0) (.slice none 0 0) Vlb (s.size : Int) (s.size : Int) [⟨s⟩] [] [] [⟨s⟩] [] [] w5 from ⟨HFA.out.below hb, Bf.lower hB HB.out.size, fun i ha h2 => by have h3 := (HFA.out.foot_lt i ha).1; have h4 := (hB.foot_lt i h2).2; omega, below_step HB.out hb⟩); clear HB hb hB HFA))
    all_goals (
    go_loopg [9] (l.length + 1) (fun kq v9 w' => ∃ (x9 : Int) (Vpa Vfa Vla Vpb Vfb Vlb : Value) (na nb : Int) (P : List Pc) (past fut : List St) (ts : List (List UInt8)), v9 = .int .i64 x9 ∧ Aside0 (0 ≤ x9 ∧ x9.toNat ≤ l.length ∧ kq + x9.toNat = l.length + 1) ∧ Aside0 (Tw w ga gb Vpa Vfa Vla Vpb Vfb Vlb na nb P past fut P past fut w') ∧ Aside0 (Iv (300 + 100 * x9.toNat) (1 + 20000 * x9.toNat) x9.toNat P past fut ts))
    case atStart => exact ⟨0, _, _, _, _, _, _, _, _, _, _, _, [], rfl, ⟨by omega, Nat.zero_le _, by simp⟩, HTW, ⟨by have := HTW.out.a.n; have := HS.out; omega, by simp, by simp, by simp, trivial⟩⟩
    case round =>
      clear HTW
      obtain ⟨x9, Vpa, Vfa, Vla, Vpb, Vfb, Vlb, na, nb, P, past, fut, ts, rfl, HI, HT, HV⟩ := hrel
      have p1 : 0 ≤ x9 := HI.out.1
      by_cases c1 : x9 < (l.length : Int)
      · have d2 : decide (x9 < (l.length : Int)) = true := decide_eq_true c1
        obtain ⟨ad, A4, c4, e1, hx0, hx1, hx2, hx3, hx4, -, -⟩ := at_T37 HC.out x9 p1 c1
        cases e1
        replace hx0 := (HT.out.w.cell (World.block_lt_of_cell? w _ hx0)).trans hx0
        replace hx1 := (HT.out.w.cell (World.block_lt_of_cell? w _ hx1)).trans hx1
        replace hx2 := (HT.out.w.cell (World.block_lt_of_cell? w _ hx2)).trans hx2
        replace hx3 := (HT.out.w.cell (World.block_lt_of_cell? w _ hx3)).trans hx3
        replace hx4 := (HT.out.w.cell (World.block_lt_of_cell? w _ hx4)).trans hx4
        have hlt : x9.toNat < l.length := by omega
        have hz : (rd_T37 l x9).f3.size ≤ 100 := by
          have e : rd_T37 l x9 = l[x9.toNat] := by simp [rd_T37, List.getD, hlt]
          rw [e]
          exact (HNO.out.2 _ (List.getElem_mem hlt)).1
        generalize rd_T37 l x9 = a at hx0 hx1 hx2 hx3 hx4 hz
        obtain ⟨f0, f1, f2, f3, f4⟩ := a
        dsimp only at hx0 hx1 hx2 hx3 hx4 hz
        have hn60 := HNO.out.1
        have hvt := HV.out.t
        have hvp := HV.out.p
        have hva := HV.out.a
        have hvf := HV.out.f
        have HK := Aside0.mk (show x9.toNat ≤ 59 by omega)
        have HZ := Aside0.mk hz
        have C1 := Aside0.mk c1
        have HSZ := Aside0.mk (show (tx P).length ≤ 10000 ∧ P.length ≤ 2000000 ∧ past.length ≤ 60 ∧ fut.length ≤ 60 from ⟨by omega, by omega, by omega, by omega⟩)
        clear hz hn60 hvt hvp hva hvf hlt
        have g0 := eq_true p1
        have g1 := eq_true c1
        have e2 : (x9 + 1).toNat = x9.toNat + 1 := by omega
        have E2 := Aside0.mk e2
        have ew : wrap64 (x9 + 1) = x9 + 1 := by have := HNO.out.1; unfold wrap64; omega
        have EW := Aside0.mk ew
        clear e2 ew p1 c1
        obtain ⟨W1, hW1⟩ : ∃ W1, W1 = wr.alloc (.cells #[.int .i64 f0, .int .i64 f1, .int .i64 f2, .string f3, .slice A4 f4.length c4] 37) := ⟨_, rfl⟩
        have HTT := Aside0.mk (HT.out.below (below_alloc (Below.refl _ _) (.cells #[.int .i64 f0, .int .i64 f1, .int .i64 f2, .string f3, .slice A4 f4.length c4] 37)))
        have XB := Aside0.mk (blk_new wr (.cells #[.int .i64 f0, .int .i64 f1, .int .i64 f2, .string f3, .slice A4 f4.length c4] 37))
        clear HT hW1 W1
        by_cases k2 : f0 = 2
        · subst k2
          obtain ⟨ts', hV2⟩ := HV.out.undo (by have := HK.out; omega)
          have HV2 := Aside0.mk hV2
          have HUA := Aside0.mk (fun (W : World) (Vpa Vfa Vla Vpb Vfb Vlb : Value) (na nb : Int) (h : Tw w ga gb Vpa Vfa Vla Vpb Vfb Vlb na nb P past fut P past fut W) => Undo_ev h.a h.w.size HV.out.b (by have := HK.out; omega) (by have := HSZ.out; omega) (by have := HSZ.out; omega) (by have := HSZ.out; omega) (by have := HSZ.out; omega))
          have HUB := Aside0.mk (fun (W : World) (Vpa Vfa Vla Vpb Vfb Vlb : Value) (na nb : Int) (Q : List Pc) (pq fq : List St) (h : Tw w ga gb Vpa Vfa Vla Vpb Vfb Vlb na nb Q pq fq P past fut W) => Undo_ev h.b h.w.size HV.out.b (by have := HK.out; omega) (by have := HSZ.out; omega) (by have := HSZ.out; omega) (by have := HSZ.out; omega) (by have := HSZ.out; omega))
          obtain ⟨P', hP'⟩ : ∃ P', P' = uP P past := ⟨_, rfl⟩
          obtain ⟨pa', hpa'⟩ : ∃ pa', pa' = uPa past := ⟨_, rfl⟩
          obtain ⟨fu', hfu'⟩ : ∃ fu', fu' = uFu past fut := ⟨_, rfl⟩
          rw [← hP', ← hpa', ← hfu'] at HUA HUB HV2
          clear hP' hpa' hfu' hV2
          have HSZ2 := Aside0.mk (show (tx P').length ≤ 10000 ∧ P'.length ≤ 2000000 from ⟨by have := HV2.out.t; have := HK.out; omega, by have := HV2.out.p; have := HK.out; omega⟩)
          go_wp2_with (first | (go_at_call 12; with_reducible refine (HUA.out _ _ _ _ _ _ _ _ _ HTT.out).mono ?_; clear HUA; rintro e w6 ⟨Vr, bo, rfl, hE⟩; obtain ⟨Vp6, Vf6, Vl6, n6, hT6⟩ := HTT.out.onA hE; have HT6 := Aside0.mk hT6; clear HTT hE hT6 XB) | (go_at_call 12; with_reducible refine (HUB.out _ _ _ _ _ _ _ _ _ _ _ _ HT6.out).mono ?_; clear HUB; rintro e w7 ⟨Vr7, bo7, rfl, hE⟩; obtain ⟨Vp7, Vf7, Vl7, n7, hT7⟩ := HT6.out.onB hE; have HT7 := Aside0.mk hT7; clear HT6 hE hT7) | (go_at_call 16; with_reducible refine (Text HT7.out.a (by have := HSZ2.out; omega) (by have := HSZ2.out; omega)).mono ?_; rintro e w8 ⟨rfl, hb⟩; have n0_ := Aside0.mk (HT7.out.below hb); clear HT7 hb; have HT7 := n0_; clear n0_) | (go_at_call 16; with_reducible refine (Text HT7.out.b (by have := HSZ2.out; omega) (by have := HSZ2.out; omega)).mono ?_; rintro e w8 ⟨rfl, hb⟩; have n0_ := Aside0.mk (HT7.out.below hb); clear HT7 hb; have HT7 := n0_; clear n0_) | (go_at_call 11; with_reducible refine (Past HT7.out.a).mono ?_; rintro e w8 ⟨rfl, hb⟩; have n0_ := Aside0.mk (HT7.out.below hb); clear HT7 hb; have HT7 := n0_; clear n0_) | (go_at_call 11; with_reducible refine (Past HT7.out.b).mono ?_; rintro e w8 ⟨rfl, hb⟩; have n0_ := Aside0.mk (HT7.out.below hb); clear HT7 hb; have HT7 := n0_; clear n0_) | (go_at_call 17; with_reducible refine (Future HT7.out.a).mono ?_; rintro e w8 ⟨rfl, hb⟩; have n0_ := Aside0.mk (HT7.out.below hb); clear HT7 hb; have HT7 := n0_; clear n0_) | (go_at_call 17; with_reducible refine (Future HT7.out.b).mono ?_; rintro e w8 ⟨rfl, hb⟩; have n0_ := Aside0.mk (HT7.out.below hb); clear HT7 hb; have HT7 := n0_; clear n0_))
          all_goals (
          go_roundg (gk - 1)
          case measure => have := HI.out; have := C1.out; omega
          case rel =>
            have hi := HI.out
            have hc := C1.out
            have hk := HK.out
            have hv := HV2.out
            exact ⟨_, _, _, _, _, _, _, _, _, P', pa', fu', ts', by rw [EW.out], ⟨by omega, by omega, by omega⟩, HT7, by rw [E2.out]; exact ⟨⟨by have := hv.t; omega, by have := hv.p; omega, by have := hv.a; omega, by have := hv.f; omega, back_mono (by omega) hv.b⟩⟩⟩
          )
        · have e0 : (f0 == 2) = false := beq_eq_false_iff_ne.2 k2
          clear k2
          obtain ⟨ts', hV2⟩ := HV.out.splice ⟨f1, f2, f3⟩ HZ.out (by have := HK.out; omega) (by omega)
          have HV2 := Aside0.mk hV2
          have HUA := Aside0.mk (fun (W : World) (Vpa Vfa Vla Vpb Vfb Vlb : Value) (na nb : Int) (h : Tw w ga gb Vpa Vfa Vla Vpb Vfb Vlb na nb P past fut P past fut W) => Splice_ev h.a h.w.size f1 f2 f3 (by have := HSZ.out; omega) (by have := HZ.out; omega) (by have := HSZ.out; omega) (by have := HSZ.out; omega))
          have HUB := Aside0.mk (fun (W : World) (Vpa Vfa Vla Vpb Vfb Vlb : Value) (na nb : Int) (Q : List Pc) (pq fq : List St) (b : Nat) (h : Tw w ga gb Vpa Vfa Vla Vpb Vfb Vlb na nb Q pq fq P past fut W) (hC : Kd.C kX W (some ⟨b, 0, none⟩) 1 [⟨f1, f2, f3⟩]) => Apply_ev h.b h.w.size b f1 f2 f3 hC (by have := HSZ.out; omega) (by have := HZ.out; omega) (by have := HSZ.out; omega) (by have := HSZ.out; omega))
          obtain ⟨P', hP'⟩ : ∃ P', P' = sP P ⟨f1, f2, f3⟩ := ⟨_, rfl⟩
          obtain ⟨pa', hpa'⟩ : ∃ pa', pa' = sPa P past ⟨f1, f2, f3⟩ := ⟨_, rfl⟩
          obtain ⟨fu', hfu'⟩ : ∃ fu', fu' = sFu P fut ⟨f1, f2, f3⟩ := ⟨_, rfl⟩
          obtain ⟨zz, hzz⟩ : ∃ zz, zz = sZ P ⟨f1, f2, f3⟩ := ⟨_, rfl⟩
          rw [← hP', ← hpa', ← hfu'] at HUA HUB HV2
          rw [← hzz] at HUA HUB
          clear hP' hpa' hfu' hV2 hzz
          have HSZ2 := Aside0.mk (show (tx P').length ≤ 10000 ∧ P'.length ≤ 2000000 from ⟨by have := HV2.out.t; have := HK.out; omega, by have := HV2.out.p; have := HK.out; omega⟩)
          go_wp2_with (first | (go_at_call 10; with_reducible refine (HUA.out _ _ _ _ _ _ _ _ _ HTT.out).mono ?_; clear HUA; rintro e w6 ⟨z, rfl, rfl, hE⟩; obtain ⟨Vp6, Vf6, Vl6, n6, hT6⟩ := HTT.out.onA hE; have HX6 := HTT.out.stay hE XB.out (by decide); have HT6 := Aside0.mk hT6; clear HTT hE hT6 XB; have k1 : w6.cell? ⟨wr.heap.size, 1, none⟩ = some (.int .i64 f1) := (blk_cell HX6 1).trans rfl; have k2 : w6.cell? ⟨wr.heap.size, 2, none⟩ = some (.int .i64 f2) := (blk_cell HX6 2).trans rfl; have k3 : w6.cell? ⟨wr.heap.size, 3, none⟩ = some (.string f3) := (blk_cell HX6 3).trans rfl; clear HX6) | (go_at_call 15; have hTw := HT6.out.below (below_alloc (Below.refl w6.heap.size w6) (.cells #[.int .i64 f1, .int .i64 f2, .string f3] 40)); refine (HUB.out (w6.alloc (.cells #[.int .i64 f1, .int .i64 f2, .string f3] 40)) _ _ _ _ _ _ _ _ _ _ _ w6.heap.size hTw (lit_C (e := ⟨f1, f2, f3⟩) (blk_new _ _))).mono ?_; clear HUB k1 k2 k3; rintro e w7 ⟨z7, rfl, rfl, hE⟩; obtain ⟨Vp7, Vf7, Vl7, n7, hT7⟩ := hTw.onB hE; have HT7 := Aside0.mk hT7; clear HT6 hE hT7 hTw) | (go_at_call 16; with_reducible refine (Text HT7.out.a (by have := HSZ2.out; omega) (by have := HSZ2.out; omega)).mono ?_; rintro e w8 ⟨rfl, hb⟩; have n0_ := Aside0.mk (HT7.out.below hb); clear HT7 hb; have HT7 := n0_; clear n0_) | (go_at_call 16; with_reducible refine (Text HT7.out.b (by have := HSZ2.out; omega) (by have := HSZ2.out; omega)).mono ?_; rintro e w8 ⟨rfl, hb⟩; have n0_ := Aside0.mk (HT7.out.below hb); clear HT7 hb; have HT7 := n0_; clear n0_) | (go_at_call 11; with_reducible refine (Past HT7.out.a).mono ?_; rintro e w8 ⟨rfl, hb⟩; have n0_ := Aside0.mk (HT7.out.below hb); clear HT7 hb; have HT7 := n0_; clear n0_) | (go_at_call 11; with_reducible refine (Past HT7.out.b).mono ?_; rintro e w8 ⟨rfl, hb⟩; have n0_ := Aside0.mk (HT7.out.below hb); clear HT7 hb; have HT7 := n0_; clear n0_) | (go_at_call 17; with_reducible refine (Future HT7.out.a).mono ?_; rintro e w8 ⟨rfl, hb⟩; have n0_ := Aside0.mk (HT7.out.below hb); clear HT7 hb; have HT7 := n0_; clear n0_) | (go_at_call 17; with_reducible refine (Future HT7.out.b).mono ?_; rintro e w8 ⟨rfl, hb⟩; have n0_ := Aside0.mk (HT7.out.below hb); clear HT7 hb; have HT7 := n0_; clear n0_))
          all_goals (
          go_roundg (gk - 1)
          case measure => have := HI.out; have := C1.out; omega
          case rel =>
            have hi := HI.out
            have hc := C1.out
            have hk := HK.out
            have hv := HV2.out
            exact ⟨_, _, _, _, _, _, _, _, _, P', pa', fu', ts', by rw [EW.out], ⟨by omega, by omega, by omega⟩, HT7, by rw [E2.out]; exact ⟨⟨by have := hv.t; omega, by have := hv.p; omega, by have := hv.a; omega, by have := hv.f; omega, back_mono (by omega) hv.b⟩⟩⟩
          )
      · have d2 : decide (x9 < (l.length : Int)) = false := decide_eq_false c1
        clear c1
        go_wp2
        go_ret
        exact ⟨rfl, HT.out.w⟩
    )
end Go.Proofs.Ytpghnadlekafpaa.PBuf
