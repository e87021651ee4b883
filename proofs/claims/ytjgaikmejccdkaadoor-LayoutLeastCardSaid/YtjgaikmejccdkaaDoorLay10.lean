/- Layer 25: LayoutLeast, walked. -/
import Derived.Test.YtjgaikmejccdkaaDoorLayQ
import Derived.Test.YtjgaikmejccdkaaDoorLay9
namespace Go.Proofs.YtjgaikmejccdkaaDoor.PDoc
open Go.RowKit Go.Proofs.YtjgaikmejccdkaaDoorW.PrintWords Go.Proofs.YtjgaikmejccdkaaDoorW.PrintLast Go.Proofs.YtjgaikmejccdkaaDoorW.PrintMore
set_option linter.unusedVariables false
set_option linter.unusedSimpArgs false
set_option maxHeartbeats 8000000 in
set_option maxRecDepth 100000 in
theorem LayoutLeast (A : Option Addr) (c : Nat) (l : List Ac) (x : Int) (w : World) (hM : Mx w) (hl : kA.C w A l.length l) (hlc : l.length ≤ c) (hx : (Lit.int .u16 x).wf = true) :
    Calls Tryd.prog 7 #[.slice A l.length c, .int .u16 x] w fun e w' => e = .returned (.bool true) ∧ Below w.heap.size w w' := by
  have HA := Aside0.mk (awake25 w hM)
  have HK := Aside0.mk (fun (u : World) (hb : Below w.heap.size w u) => Make_ A c l u (hM.below hb hM.pos) (Kd.C_below hl hb) hlc)
  have HX := Aside0.mk (u16_wf hx)
  clear hM hl hlc hx
  go_enter Tryd.func7, Tryd.ntmps7
  go_upto_region 4 with (first | (go_at_call 25; refine HA.out.mono ?_; clear HA; rintro e w1 ⟨rfl, hb⟩; have HB := Aside0.mk hb; clear hb) | (go_at_call 10; (with_reducible refine (HK.out _ HB.out).mono ?_); clear HK; rintro e w1 ⟨va, bsa, Aa, ca, rfl, hda, -, -, hok, hb⟩; have hpa := hda.ptr; obtain ⟨pa, rfl⟩ := hpa; replace hok := hok.box4q (Nat.le_refl _); generalize bD 4 0 (List.map dB bsa) = da at hda hok; have HD := Aside0.mk hda; have HO := Aside0.mk hok; have n0_ := Aside0.mk (below_step HB.out hb); clear HB hb hda hok; have HB := n0_; clear n0_))
  have hbx := below_alloc (Below.refl w1.heap.size w1) (.cells #[.int .i64 4, .string ⟨#[]⟩, .int .i64 0, .slice Aa bsa.length ca] 27)
  have n0_ := Aside0.mk (HD.out.below hbx)
  have n2_ := Aside0.mk (below_step HB.out hbx)
  clear HD HB hbx
  have HD := n0_
  have HB := n2_
  clear n0_ n2_
  generalize w1.alloc (.cells #[.int .i64 4, .string ⟨#[]⟩, .int .i64 0, .slice Aa bsa.length ca] 27) = w9 at *
  go_upto_region 5 with (go_at_call 28; refine (Least_yes HD.out HO.out.pb (by have := HO.out.s; omega)).mono ?_; rintro e w2 ⟨⟨n, rfl, hn1, hn2, hn3, hn4⟩, hb⟩; have n1_ := Aside0.mk (HD.out.below hb); have n0_ := Aside0.mk (below_step HB.out hb); have HN := Aside0.mk (And.intro hn1 hn2); have HE := Aside0.mk hn3; have HV := Aside0.mk hn4; clear HD HB hb hn1 hn2 hn3 hn4; have HB := n0_; have HD := n1_; clear n0_ n1_)
  obtain ⟨S, hS⟩ : ∃ S, S = prt 65535 da := ⟨_, rfl⟩
  have HLS := Aside0.mk (fun (u : World) (hd : DV u (.pointer pa) da) => (show Calls Tryd.prog 27 #[.pointer pa, .int .i64 65535] u fun e w' => e = .returned (.tuple #[.string S, .int .i64 0]) ∧ Below u.heap.size u w' from hS ▸ Lay_yes hd HO.out.pb 65535 (by omega) (by omega) (by have := HO.out.s; omega)))
  have HLN := Aside0.mk (fun (u : World) (hd : DV u (.pointer pa) da) => (show Calls Tryd.prog 27 #[.pointer pa, .int .i64 n] u fun e w' => e = .returned (.tuple #[.string S, .int .i64 0]) ∧ Below u.heap.size u w' from by
    have := Lay_yes hd HO.out.pb n HN.out.1 HN.out.2 (by have := HO.out.s; omega)
    rw [HE.out, ← hS] at this
    exact this))
  have HLU := Aside0.mk (fun (u : World) (hd : DV u (.pointer pa) da) => (show Calls Tryd.prog 27 #[.pointer pa, .int .i64 (min (n + x) 65535)] u fun e w' => e = .returned (.tuple #[.string S, .int .i64 0]) ∧ Below u.heap.size u w' from by
    have h1 := HN.out
    have h2 := HX.out
    have := Lay_yes hd HO.out.pb (min (n + x) 65535) (by omega) (by omega) (by have := HO.out.s; omega)
    rw [prt_wider HO.out.q (by have := HO.out.k; omega) HE.out (by omega), ← hS] at this
    exact this))
  have d5 : decide (n < 1) = false := decide_eq_false (by have := HN.out; omega)
  have d6 : decide (65535 < n) = false := decide_eq_false (by have := HN.out; omega)
  have e0 : wrap64 x = x := w64 _ (by have := HX.out; omega) (by have := HX.out; omega)
  have e1 : wrap64 (n + x) = n + x := w64 _ (by have := HX.out; have := HN.out; omega) (by have := HX.out; have := HN.out; omega)
  have e2 : wrap64 (n - 1) = n - 1 := w64 _ (by have := HN.out; omega) (by have := HN.out; omega)
  by_cases c1 : n = 1
  · have d7 : (n == 1) = true := by rw [c1]; rfl
    have HLV := Aside0.mk (fun (u : World) (hd : DV u (.pointer pa) da) => (show Calls Tryd.prog 27 #[.pointer pa, .int .i64 (n - 1)] u fun e w' => e = .returned (.tuple #[.string ⟨#[]⟩, .int .i64 1]) ∧ Below u.heap.size u w' from by
      have e3 : ert (n - 1) da = 1 := by unfold ert; rw [if_pos (by omega)]
      have := Lay_no hd (n - 1) (by rw [e3]; omega)
      rw [e3] at this
      exact this))
    clear c1 hS
    go_wp2_with (first | (go_at_call 27; (first | with_reducible refine (HLS.out _ HD.out).mono ?_ | with_reducible refine (HLN.out _ HD.out).mono ?_ | with_reducible refine (HLU.out _ HD.out).mono ?_ | with_reducible refine (HLV.out _ HD.out).mono ?_); rintro e w3 ⟨rfl, hb⟩; have n1_ := Aside0.mk (HD.out.below hb); have n0_ := Aside0.mk (below_step HB.out hb); clear HD HB hb; have HB := n0_; have HD := n1_; clear n0_ n1_))
    go_ret
    exact ⟨rfl, HB.out⟩
  · have d7 : (n == 1) = false := beq_eq_false_iff_ne.2 c1
    have d8 : decide (1 < n) = true := decide_eq_true (by have := HN.out; omega)
    obtain ⟨V, hV⟩ : ∃ V, V = prt (n - 1) da := ⟨_, rfl⟩
    have hne : V ≠ S := by rw [hV, hS]; exact HV.out.resolve_left c1
    have HLV := Aside0.mk (fun (u : World) (hd : DV u (.pointer pa) da) => (show Calls Tryd.prog 27 #[.pointer pa, .int .i64 (n - 1)] u fun e w' => e = .returned (.tuple #[.string V, .int .i64 0]) ∧ Below u.heap.size u w' from hV ▸ Lay_yes hd HO.out.pb (n - 1) (by have := HN.out; omega) (by have := HN.out; omega) (by have := HO.out.s; omega)))
    have d9 := bytes_ne hne
    clear c1 hS hV hne
    go_wp2_with (first | (go_at_call 27; (first | with_reducible refine (HLS.out _ HD.out).mono ?_ | with_reducible refine (HLN.out _ HD.out).mono ?_ | with_reducible refine (HLU.out _ HD.out).mono ?_ | with_reducible refine (HLV.out _ HD.out).mono ?_); rintro e w3 ⟨rfl, hb⟩; have n1_ := Aside0.mk (HD.out.below hb); have n0_ := Aside0.mk (below_step HB.out hb); clear HD HB hb; have HB := n0_; have HD := n1_; clear n0_ n1_))
    go_ret
    exact ⟨rfl, HB.out⟩
end Go.Proofs.YtjgaikmejccdkaaDoor.PDoc
