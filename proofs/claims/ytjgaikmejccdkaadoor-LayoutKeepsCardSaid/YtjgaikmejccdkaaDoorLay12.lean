/- Layer 25: LayoutKeeps, walked. -/
import Derived.Test.YtjgaikmejccdkaaDoorLay11
import Derived.Test.YtjgaikmejccdkaaDoorLay7
namespace Go.Proofs.YtjgaikmejccdkaaDoor.PDoc
open Go.RowKit Go.Proofs.YtjgaikmejccdkaaDoorW.PrintWords Go.Proofs.YtjgaikmejccdkaaDoorW.PrintLast Go.Proofs.YtjgaikmejccdkaaDoorW.PrintMore
set_option linter.unusedVariables false
set_option linter.unusedSimpArgs false
theorem run_bd (W : Int) {I K X : Nat} : ∀ (n : Nat) (ts : List Tk) (q : LS), nT ts ≤ n → Lb I K X ts q → Lb I K X [] (run W ts q) := by
  intro n
  induction n with
  | zero =>
    intro ts q hn h
    have := nT_len ts
    obtain rfl : ts = [] := List.eq_nil_of_length_eq_zero (by omega)
    exact h
  | succ n ih =>
    intro ts q hn h
    rcases List.eq_nil_or_concat ts with rfl | ⟨ts', t, rfl⟩
    · exact h
    · rw [List.concat_eq_append] at hn h ⊢
      have hb := st1_bd (W := W) h
      rw [run_step]
      exact ih _ _ (by omega) hb.1
theorem prt_size {d : D} (h : Pb d) (W : Int) : (prt W d).size ≤ 100000000000 := by
  have h1 := (run_bd W (nT [(d, 0, false)]) [(d, 0, false)] LS0 (Nat.le_refl _) h.lb).x
  have h2 := h.x
  have e : run W [(d, 0, false)] LS0 = L1 W d 0 false LS0 := rfl
  rw [e] at h1
  show (L1 W d 0 false LS0).x.toArray.size ≤ _
  rw [List.size_toArray]
  omega
theorem Pb.group {d : D} (h : Pb d) (hi : ib d ≤ 60000) (hn : nb d ≤ 60000) (ht : tb d ≤ 60000) : Pb (bD 6 0 [d]) := by
  refine ⟨?_, ?_, ?_, ?_⟩
  · unfold bD
    rw [wf_some]
    exact ⟨by show 0 ≤ 1000000; omega, Int.le_refl 0, ⟨h.wf, trivial⟩⟩
  · unfold bD; rw [ib_some]; show 0 + (ib d + 0) ≤ _; omega
  · unfold bD; rw [nb_some]; show 1 + (nb d + 0) ≤ _; omega
  · unfold bD; rw [tb_some]; show 0 + 1 + (tb d + 0) ≤ _; omega
/-- Without blanks and new lines it is the boxes' texts. -/
theorem bare_words {d : D} (h : Wq d) (W : Int) : baT (prt W d) = baT (woT d) := by
  unfold baT prt woT
  have := bare_lay W d 0 false LS0 h
  show (⟨(bareL (L1 W d 0 false LS0).x).toArray⟩ : ByteArray) = ⟨(bareL (fl [] d)).toArray⟩
  rw [this]
  rfl
theorem Ok.box4n {i : Nat} {bs : List Bo} (h : Ok i bs) (hi : i ≤ 60) : nb (bD 4 0 (bs.map dB)) ≤ 61 := by
  have hk : Bk (bD 4 0 (bs.map dB)) := Bk.box (Or.inl rfl) (by omega) (by omega) (BkL.of (fun d hd => by
    obtain ⟨b, hb, rfl⟩ := List.mem_map.1 hd
    exact dB_ok b (h.wb b hb)))
  have hs : sz (bD 4 0 (bs.map dB)) ≤ 61 := by
    have := h.bd.s
    show 1 + szs _ ≤ 61
    omega
  have h1 := hk.n
  omega
theorem u16_wf2 {x : Int} (h : (Lit.int .u16 x).wf = true) : 0 ≤ x ∧ x ≤ 65535 := by
  simp [Lit.wf, IntKind.min, IntKind.max, IntKind.signed, IntKind.bits] at h
  omega
set_option maxHeartbeats 8000000 in
set_option maxRecDepth 100000 in
theorem LayoutKeeps (A : Option Addr) (c : Nat) (l : List Ac) (x : Int) (w : World) (hM : Mx w) (hl : kA.C w A l.length l) (hlc : l.length ≤ c) (hx : (Lit.int .u16 x).wf = true) :
    Calls Tryd.prog 8 #[.slice A l.length c, .int .u16 x] w fun e w' => e = .returned (.bool true) ∧ Below w.heap.size w w' := by
  have HA := Aside0.mk (awake25 w hM)
  have HK := Aside0.mk (fun (u : World) (hb : Below w.heap.size w u) => Make_ A c l u (hM.below hb hM.pos) (Kd.C_below hl hb) hlc)
  have HX := Aside0.mk (u16_wf2 hx)
  obtain ⟨y, hy⟩ : ∃ y, x.tmod 65535 = y := ⟨_, rfl⟩
  have hy0 : 0 ≤ y ∧ y ≤ 65534 := by rw [← hy, Int.tmod_eq_emod_of_nonneg HX.out.1]; omega
  have e2 : wrap64 y = y := w64 _ (by omega) (by omega)
  obtain ⟨W, hW⟩ : ∃ W, wrap64 (1 + y) = W := ⟨_, rfl⟩
  have HW := Aside0.mk (show 1 ≤ W ∧ W ≤ 65535 by rw [← hW, w64 _ (by omega) (by omega)]; omega)
  clear hM hl hlc hx HX hy0
  go_enter Tryd.func8, Tryd.ntmps8
  go_upto_region 4 with (first | (go_at_call 25; refine HA.out.mono ?_; clear HA; rintro e w1 ⟨rfl, hb⟩; have HB := Aside0.mk hb; clear hb) | (go_at_call 10; (with_reducible refine (HK.out _ HB.out).mono ?_); clear HK; rintro e w1 ⟨va, bsa, Aa, ca, rfl, hda, -, -, hok, hb⟩; have hpa := hda.ptr; obtain ⟨pa, rfl⟩ := hpa; have hon := hok.box4n (Nat.le_refl _); replace hok := hok.box4q (Nat.le_refl _); generalize bD 4 0 (List.map dB bsa) = da at hda hok hon; have HD := Aside0.mk hda; have HO := Aside0.mk hok; have HON := Aside0.mk hon; have n0_ := Aside0.mk (below_step HB.out hb); clear HB hb hda hok hon; have HB := n0_; clear n0_))
  have hbx := below_alloc (Below.refl w1.heap.size w1) (.cells #[.int .i64 4, .string ⟨#[]⟩, .int .i64 0, .slice Aa bsa.length ca] 27)
  have n0_ := Aside0.mk (HD.out.below hbx)
  have n2_ := Aside0.mk (below_step HB.out hbx)
  clear HD HB hbx
  have HD := n0_
  have HB := n2_
  clear n0_ n2_
  generalize w1.alloc (.cells #[.int .i64 4, .string ⟨#[]⟩, .int .i64 0, .slice Aa bsa.length ca] 27) = w9 at *
  obtain ⟨S, hS⟩ : ∃ S, S = prt W da := ⟨_, rfl⟩
  obtain ⟨V, hV⟩ : ∃ V, V = woT da := ⟨_, rfl⟩
  obtain ⟨Z, hZ⟩ : ∃ Z, Z = baT V := ⟨_, rfl⟩
  have hn : nb da ≤ 60000 := by have h1 := HON.out; omega
  have HLS := Aside0.mk (fun (u : World) (hd : DV u (.pointer pa) da) => (show Calls Tryd.prog 27 #[.pointer pa, .int .i64 W] u fun e w' => e = .returned (.tuple #[.string S, .int .i64 0]) ∧ Below u.heap.size u w' from hS ▸ Lay_yes hd HO.out.pb W HW.out.1 HW.out.2 (by have := HO.out.s; omega)))
  have HBS := Aside0.mk (fun (u : World) => (show Calls Tryd.prog 29 #[.string S] u fun e w' => e = .returned (.string Z) ∧ Below u.heap.size u w' from by
    have := bare_ S u (by rw [hS]; exact prt_size HO.out.pb W)
    rw [hS, bare_words HO.out.q W, ← hV, ← hZ] at this
    rw [hS]
    exact this))
  have HBV := Aside0.mk (fun (u : World) => (show Calls Tryd.prog 29 #[.string V] u fun e w' => e = .returned (.string Z) ∧ Below u.heap.size u w' from by
    have := bare_ V u (by rw [hV]; show (fl [] da).toArray.size ≤ _; rw [List.size_toArray]; have := HO.out.m.wo; omega)
    rw [← hZ] at this
    exact this))
  have HWO := Aside0.mk (fun (u : World) (hd : DV u (.pointer pa) da) => (show Calls Tryd.prog 17 #[.pointer pa] u fun e w' => e = .returned (.string V) ∧ Below u.heap.size u w' from hV ▸ Words_ hd HO.out.m.sm (by have := HO.out.m.wo; omega)))
  have HGR := Aside0.mk (fun (u : World) (hd : DV u (.pointer pa) da) => Group_ hd HO.out.m.nn (by have := HO.out.m.w; omega) (by have := HO.out.m.s; omega))
  have HWI := Aside0.mk (fun (u : World) (hd : DV u (.pointer pa) da) => Width_ hd)
  have HFL := Aside0.mk (fun (u : World) (hd : DV u (.pointer pa) da) => Flat_ hd HO.out.m.sm (by have := HO.out.m.f; omega))
  obtain ⟨T, hT⟩ : ∃ T, T = prt W (bD 6 0 [da]) := ⟨_, rfl⟩
  have HLT := Aside0.mk (fun (u : World) (v : Value) (hd : DV u v (bD 6 0 [da])) => (show Calls Tryd.prog 27 #[v, .int .i64 W] u fun e w' => e = .returned (.tuple #[.string T, .int .i64 0]) ∧ Below u.heap.size u w' from hT ▸ Lay_yes hd (HO.out.pb.group (by have := HO.out.k; omega) hn (by have := HO.out.k; omega)) W HW.out.1 HW.out.2 (by have := HO.out.s; show 1 + (sz da + 0) ≤ _; omega)))
  have HTF := Aside0.mk (fun (h1 : PDoc.hd da = false) (h2 : wd da ≤ W) => (show T = flT da from hT.trans (prt_flat HO.out.q h1 h2)))
  clear hS hV hZ hT hn
  go_upto_region 8 with (first | (go_at_call 27; refine (HLS.out _ HD.out).mono ?_; clear HLS; rintro e w3 ⟨rfl, hb⟩; have n1_ := Aside0.mk (HD.out.below hb); have n0_ := Aside0.mk (below_step HB.out hb); clear HD HB hb; have HB := n0_; have HD := n1_; clear n0_ n1_) | (go_at_call 29; (first | with_reducible refine (HBS.out _).mono ?_ | with_reducible refine (HBV.out _).mono ?_); rintro e w4 ⟨rfl, hb⟩; have n1_ := Aside0.mk (HD.out.below hb); have n0_ := Aside0.mk (below_step HB.out hb); clear HD HB hb; have HB := n0_; have HD := n1_; clear n0_ n1_) | (go_at_call 17; refine (HWO.out _ HD.out).mono ?_; rintro e w5 ⟨rfl, hb⟩; have n1_ := Aside0.mk (HD.out.below hb); have n0_ := Aside0.mk (below_step HB.out hb); clear HD HB hb; have HB := n0_; have HD := n1_; clear n0_ n1_))
  cases hh : PDoc.hd da with
  | true =>
    rw [hh] at HWI HFL
    clear HTF hh
    go_wp2_with (first | (go_at_call 12; refine (HWI.out _ HD.out).mono ?_; clear HWI; rintro e w6 ⟨rfl, hq⟩; obtain rfl := hq.symm; clear hq) | (go_at_call 13; refine (HFL.out _ HD.out).mono ?_; clear HFL; rintro e w7 ⟨rfl, hb⟩; have n1_ := Aside0.mk (HD.out.below hb); have n0_ := Aside0.mk (below_step HB.out hb); clear HD HB hb; have HB := n0_; have HD := n1_; clear n0_ n1_) | (go_at_call 14; refine (HGR.out _ HD.out).mono ?_; clear HGR; rintro e w8 ⟨v8, rfl, hg, hb⟩; obtain ⟨p8, rfl⟩ := hg.ptr; have HG := Aside0.mk hg; have n1_ := Aside0.mk (HD.out.below hb); have n0_ := Aside0.mk (below_step HB.out hb); clear HD HB hb; have HB := n0_; have HD := n1_; clear n0_ n1_; clear hg) | (go_at_call 27; refine (HLT.out _ _ HG.out).mono ?_; clear HLT HG; rintro e w9 ⟨rfl, hb⟩; have n1_ := Aside0.mk (HD.out.below hb); have n0_ := Aside0.mk (below_step HB.out hb); clear HD HB hb; have HB := n0_; have HD := n1_; clear n0_ n1_))
    go_ret
    exact ⟨rfl, HB.out⟩
  | false =>
    rw [hh] at HWI HFL
    by_cases c1 : W < wd da
    · have d8 : decide (W < wd da) = true := decide_eq_true c1
      clear HTF hh c1
      go_wp2_with (first | (go_at_call 12; refine (HWI.out _ HD.out).mono ?_; clear HWI; rintro e w6 ⟨rfl, hq⟩; obtain rfl := hq.symm; clear hq) | (go_at_call 13; refine (HFL.out _ HD.out).mono ?_; clear HFL; rintro e w7 ⟨rfl, hb⟩; have n1_ := Aside0.mk (HD.out.below hb); have n0_ := Aside0.mk (below_step HB.out hb); clear HD HB hb; have HB := n0_; have HD := n1_; clear n0_ n1_) | (go_at_call 14; refine (HGR.out _ HD.out).mono ?_; clear HGR; rintro e w8 ⟨v8, rfl, hg, hb⟩; obtain ⟨p8, rfl⟩ := hg.ptr; have HG := Aside0.mk hg; have n1_ := Aside0.mk (HD.out.below hb); have n0_ := Aside0.mk (below_step HB.out hb); clear HD HB hb; have HB := n0_; have HD := n1_; clear n0_ n1_; clear hg) | (go_at_call 27; refine (HLT.out _ _ HG.out).mono ?_; clear HLT HG; rintro e w9 ⟨rfl, hb⟩; have n1_ := Aside0.mk (HD.out.below hb); have n0_ := Aside0.mk (below_step HB.out hb); clear HD HB hb; have HB := n0_; have HD := n1_; clear n0_ n1_))
      go_ret
      exact ⟨rfl, HB.out⟩
    · have d8 : decide (W < wd da) = false := decide_eq_false c1
      have ht := HTF.out hh (by omega)
      clear HTF hh c1
      subst ht
      go_wp2_with (first | (go_at_call 12; refine (HWI.out _ HD.out).mono ?_; clear HWI; rintro e w6 ⟨rfl, hq⟩; obtain rfl := hq.symm; clear hq) | (go_at_call 13; refine (HFL.out _ HD.out).mono ?_; clear HFL; rintro e w7 ⟨rfl, hb⟩; have n1_ := Aside0.mk (HD.out.below hb); have n0_ := Aside0.mk (below_step HB.out hb); clear HD HB hb; have HB := n0_; have HD := n1_; clear n0_ n1_) | (go_at_call 14; refine (HGR.out _ HD.out).mono ?_; clear HGR; rintro e w8 ⟨v8, rfl, hg, hb⟩; obtain ⟨p8, rfl⟩ := hg.ptr; have HG := Aside0.mk hg; have n1_ := Aside0.mk (HD.out.below hb); have n0_ := Aside0.mk (below_step HB.out hb); clear HD HB hb; have HB := n0_; have HD := n1_; clear n0_ n1_; clear hg) | (go_at_call 27; refine (HLT.out _ _ HG.out).mono ?_; clear HLT HG; rintro e w9 ⟨rfl, hb⟩; have n1_ := Aside0.mk (HD.out.below hb); have n0_ := Aside0.mk (below_step HB.out hb); clear HD HB hb; have HB := n0_; have HD := n1_; clear n0_ n1_))
      go_ret
      exact ⟨rfl, HB.out⟩
end Go.Proofs.YtjgaikmejccdkaaDoor.PDoc
