/- Layer 25: the document's example; no box, and too many. -/
import Derived.Test.YtjgaikmejccdkaaDoorLay6
namespace Go.Proofs.YtjgaikmejccdkaaDoor.PDoc
open Go.RowKit Go.Proofs.YtjgaikmejccdkaaDoorW.PrintWords Go.Proofs.YtjgaikmejccdkaaDoorW.PrintLast Go.Proofs.YtjgaikmejccdkaaDoorW.PrintMore
set_option linter.unusedVariables false
set_option linter.unusedSimpArgs false
theorem aD_nn : Nn aD := ⟨by rw [aD_w]; omega, by have : sz aD = 4 := by kernel_rfl
                                                  omega⟩
theorem gD_p2 : prt 2 (bD 6 0 [aD]) = ⟨#[97, 10, 98]⟩ := by kernel_rfl
theorem gD_p3 : prt 3 (bD 6 0 [aD]) = ⟨#[97, 32, 98]⟩ := by kernel_rfl
theorem gD_s : sz (bD 6 0 [aD]) = 5 := by kernel_rfl
theorem aD_s : sz aD = 4 := by kernel_rfl
theorem gD_pb : Pb (bD 6 0 [aD]) := by
  have e1 : ib (bD 6 0 [aD]) = 0 := by kernel_rfl
  have e2 : nb (bD 6 0 [aD]) = 5 := by kernel_rfl
  have e3 : tb (bD 6 0 [aD]) = 7 := by kernel_rfl
  have e4 : (cl ⟨#[97]⟩).size = 1 := by kernel_rfl
  have e5 : (cl ⟨#[98]⟩).size = 1 := by kernel_rfl
  refine ⟨?_, by omega, by omega, by omega⟩
  unfold aD bD tD
  simp [Wf, WfS, WfL]
  refine ⟨?_, ?_, ?_, ?_⟩ <;> first | omega | decide
set_option maxHeartbeats 4000000 in
set_option maxRecDepth 100000 in
theorem awake25 (w : World) (hM : Mx w) : Calls Tryd.prog 25 #[] w fun e w' => e = .returned (.bool true) ∧ Below w.heap.size w w' := by
  have HM := Aside0.mk hM
  have HT := Aside0.mk (fun (u : World) (hb : Below w.heap.size w u) (s : ByteArray) (hs : s.size ≤ 1000000) => Text_ s u (hM.below hb hM.pos) hs)
  have HB := Aside0.mk (Below.refl w.heap.size w)
  have HL := Aside0.mk (show (∀ d ∈ [tD ⟨#[97]⟩, some ⟨1, false, 1, 1, ⟨#[]⟩, 0, []⟩, tD ⟨#[98]⟩], Nn d) ∧ wds [tD ⟨#[97]⟩, some ⟨1, false, 1, 1, ⟨#[]⟩, 0, []⟩, tD ⟨#[98]⟩] ≤ 1000000000000 ∧ szs [tD ⟨#[97]⟩, some ⟨1, false, 1, 1, ⟨#[]⟩, 0, []⟩, tD ⟨#[98]⟩] ≤ 1000000000000 from aD_ok)
  have HG := Aside0.mk (fun (u : World) (v : Value) (h : DV u v aD) => Group_ h aD_nn (by rw [aD_w]; omega) (by rw [aD_s]; omega))
  have HY2 := Aside0.mk (fun (u : World) (v : Value) (h : DV u v (bD 6 0 [aD])) => (show Calls Tryd.prog 27 #[v, .int .i64 2] u fun e w' => e = .returned (.tuple #[.string ⟨#[97, 10, 98]⟩, .int .i64 0]) ∧ Below u.heap.size u w' from gD_p2 ▸ Lay_yes h gD_pb 2 (by omega) (by omega) (by rw [gD_s]; omega)))
  have HY3 := Aside0.mk (fun (u : World) (v : Value) (h : DV u v (bD 6 0 [aD])) => (show Calls Tryd.prog 27 #[v, .int .i64 3] u fun e w' => e = .returned (.tuple #[.string ⟨#[97, 32, 98]⟩, .int .i64 0]) ∧ Below u.heap.size u w' from gD_p3 ▸ Lay_yes h gD_pb 3 (by omega) (by omega) (by rw [gD_s]; omega)))
  clear hM
  go_enter Tryd.func25, Tryd.ntmps25
  go_wp2_with (first | (go_at_call 30; refine (HT.out _ HB.out _ (by decide)).mono ?_; rintro e w1 ⟨v1, rfl, hd, hb⟩; obtain ⟨p1, rfl⟩ := hd.ptr; have HD1 := Aside0.mk hd; have n0_ := Aside0.mk (below_step HB.out hb); clear HB hd; have HB := n0_; clear n0_; (try (have HDB := Aside0.mk (HDA.out.below hb); have HDC := Aside0.mk (HD2.out.below hb))); clear hb) | (go_at_call 31; refine (Blank_ _).mono ?_; rintro e w2 ⟨v2, rfl, hd, hb⟩; obtain ⟨p2, rfl⟩ := hd.ptr; have HD2 := Aside0.mk hd; have n1_ := Aside0.mk (HD1.out.below hb); have n0_ := Aside0.mk (below_step HB.out hb); clear HB HD1 hb hd; have HB := n0_; have HDA := n1_; clear n0_ n1_) | (go_at_call 11; refine (Cat_ _ 3 _ _ (lit3 HDB.out HDC.out HD1.out) (Nat.le_refl _) (by simp) HL.out.1 HL.out.2.1 HL.out.2.2).mono ?_; rintro e w4 ⟨v4, rfl, hd, hb⟩; obtain ⟨p4, rfl⟩ := hd.ptr; have HD4 := Aside0.mk (show DV w4 (.pointer p4) aD from hd); have n0_ := Aside0.mk (below_step (below_alloc HB.out _) hb); clear HB hd hb HD1 HD2 HDA HDB HDC; have HB := n0_; clear n0_) | (go_at_call 14; refine (HG.out _ _ HD4.out).mono ?_; rintro e w5 ⟨v5, rfl, hd, hb⟩; obtain ⟨p5, rfl⟩ := hd.ptr; have HD5 := Aside0.mk hd; have n0_ := Aside0.mk (below_step HB.out hb); clear HB hb HD4 hd; have HB := n0_; clear n0_) | (go_at_call 27; with_reducible refine (HY2.out _ _ HD5.out).mono ?_; rintro e w6 ⟨rfl, hb⟩; have n0_ := Aside0.mk (below_step HB.out hb); have n1_ := Aside0.mk (HD5.out.below hb); clear HB hb HD5; have HB := n0_; have HD5 := n1_; clear n0_ n1_) | (go_at_call 27; with_reducible refine (HY3.out _ _ HD5.out).mono ?_; rintro e w7 ⟨rfl, hb⟩; have n0_ := Aside0.mk (below_step HB.out hb); clear HB hb HD5; have HB := n0_; clear n0_))
  go_ret
  exact ⟨rfl, HB.out⟩
end Go.Proofs.YtjgaikmejccdkaaDoor.PDoc
