/- Layer 24: flat texts, the document's example, no box. -/
import Derived.Test.YtjgaikmejccdkaaDoorDoc5
namespace Go.Proofs.YtjgaikmejccdkaaDoor.PDoc
open Go.RowKit Go.Proofs.YtjgaikmejccdkaaDoorW.PrintWords Go.Proofs.YtjgaikmejccdkaaDoorW.PrintLast Go.Proofs.YtjgaikmejccdkaaDoorW.PrintMore
set_option linter.unusedVariables false
set_option linter.unusedSimpArgs false
/-- A box's flat text. -/
def flT (d : D) : ByteArray := ⟨(fl [32] d).toArray⟩
/-- A box's texts. -/
def woT (d : D) : ByteArray := ⟨(fl [] d).toArray⟩
set_option maxHeartbeats 1000000 in
set_option maxRecDepth 100000 in
theorem Words_ {w : World} {v : Value} {d : D} (h : DV w v d) (hm : Sm d) (hl : (fl [] d).length ≤ 1000000000) : Calls Tryd.prog 17 #[v] w fun e w' => e = .returned (.string (woT d)) ∧ Below w.heap.size w w' := by
  have HW := Aside0.mk (write_ ⟨#[]⟩ _ d (Nat.le_refl _) hm w _ w.heap.size [] v h (below_alloc (Below.refl _ _) _) (Tryd.bfresh w) (by simpa using hl))
  clear h hm hl
  go_enter Tryd.func17, Tryd.ntmps17
  go_wp2_with (first | (go_at_call 35; refine HW.out.mono ?_; clear HW; rintro e w1 ⟨rfl, hI, hb⟩; have HI := Aside0.mk hI; have HB := Aside0.mk hb; clear hI hb) | (go_at_call 36; refine (Tryd.Builder_String_any_f w.heap.size w.heap.size ([] ++ fl ([] : List UInt8) d) w1 HI.out HB.out.size).mono ?_; rintro e w2 ⟨rfl, -, hb⟩; have n0_ := Aside0.mk (HB.out.trans hb); clear HB hb; have HB := n0_; clear n0_))
  go_ret
  exact ⟨rfl, HB.out⟩
set_option maxHeartbeats 1000000 in
set_option maxRecDepth 100000 in
theorem Flat_yes {w : World} {v : Value} {d : D} (h : DV w v d) (hm : Sm d) (hl : (fl [32] d).length ≤ 1000000000) (hh : hd d = false) : Calls Tryd.prog 13 #[v] w fun e w' => e = .returned (.tuple #[.string (flT d), .bool true]) ∧ Below w.heap.size w w' := by
  have HWD := Aside0.mk (Width_ h)
  rw [hh] at HWD
  have HW := Aside0.mk (write_ ⟨#[32]⟩ _ d (Nat.le_refl _) hm w _ w.heap.size [] v h (below_alloc (Below.refl _ _) _) (Tryd.bfresh w) (by simpa using hl))
  clear h hm hl hh
  go_enter Tryd.func13, Tryd.ntmps13
  go_wp2_with (first | (go_at_call 12; refine HWD.out.mono ?_; clear HWD; rintro e w1 ⟨rfl, hq⟩; obtain rfl := hq.symm; clear hq) | (go_at_call 35; refine HW.out.mono ?_; clear HW; rintro e w1 ⟨rfl, hI, hb⟩; have HI := Aside0.mk hI; have HB := Aside0.mk hb; clear hI hb) | (go_at_call 36; refine (Tryd.Builder_String_any_f w.heap.size w.heap.size ([] ++ fl ([32] : List UInt8) d) w1 HI.out HB.out.size).mono ?_; rintro e w2 ⟨rfl, -, hb⟩; have n0_ := Aside0.mk (HB.out.trans hb); clear HB hb; have HB := n0_; clear n0_))
  go_ret2
  exact ⟨rfl, HB.out⟩
set_option maxHeartbeats 1000000 in
set_option maxRecDepth 100000 in
theorem Flat_no {w : World} {v : Value} {d : D} (h : DV w v d) (hh : hd d = true) : Calls Tryd.prog 13 #[v] w fun e w' => e = .returned (.tuple #[.string ⟨#[]⟩, .bool false]) ∧ Below w.heap.size w w' := by
  have HWD := Aside0.mk (Width_ h)
  rw [hh] at HWD
  clear h hh
  go_enter Tryd.func13, Tryd.ntmps13
  go_wp2_with (go_at_call 12; refine HWD.out.mono ?_; clear HWD; rintro e w1 ⟨rfl, hq⟩; obtain rfl := hq.symm; clear hq)
  go_ret2
  exact ⟨rfl, Below.refl _ _⟩
theorem Flat_ {w : World} {v : Value} {d : D} (h : DV w v d) (hm : Sm d) (hl : (fl [32] d).length ≤ 1000000000) : Calls Tryd.prog 13 #[v] w fun e w' => e = .returned (.tuple #[.string (if hd d = true then ⟨#[]⟩ else flT d), .bool (!hd d)]) ∧ Below w.heap.size w w' := by
  cases hh : hd d with
  | true => simpa using Flat_no h hh
  | false => simpa using Flat_yes h hm hl hh
theorem lit3 {w : World} {v1 v2 v3 : Value} {d1 d2 d3 : D} (h1 : DV w v1 d1) (h2 : DV w v2 d2) (h3 : DV w v3 d3) : kD.C (w.alloc (.cells #[v1, v2, v3] 24)) (some ⟨w.heap.size, 0, none⟩) 3 [d1, d2, d3] := by
  have hb := heap_alloc_new w (.cells #[v1, v2, v3] 24)
  have hB : Below w.heap.size w (w.alloc (.cells #[v1, v2, v3] 24)) := below_alloc (Below.refl _ _) _
  refine ⟨rfl, by omega, fun _ => ⟨_, rfl, fun j p hp => ?_⟩⟩
  have hv : ∃ v, (#[v1, v2, v3] : Array Value)[j]? = some v ∧ DV w v p := by
    rcases j with _ | _ | _ | j
    · obtain rfl : d1 = p := by simpa using hp
      exact ⟨v1, rfl, h1⟩
    · obtain rfl : d2 = p := by simpa using hp
      exact ⟨v2, rfl, h2⟩
    · obtain rfl : d3 = p := by simpa using hp
      exact ⟨v3, rfl, h3⟩
    · simp at hp
  obtain ⟨v, hv, hd⟩ := hv
  refine ⟨[v], rfl, hd.below hB, fun i u hu => ?_⟩
  cases i with
  | succ i => simp at hu
  | zero =>
    obtain rfl : v = u := by simpa using hu
    show World.cell? _ ((⟨w.heap.size, 0, none⟩ : Addr).add (j * 1 + 0)) = _
    rw [add_plain]
    exact (blk_cell hb _).trans (by simpa using hv)
/-- The document's example's box. -/
def aD : D := bD 4 0 [tD ⟨#[97]⟩, some ⟨1, false, 1, 1, ⟨#[]⟩, 0, []⟩, tD ⟨#[98]⟩]
theorem aD_w : wd aD = 3 := by kernel_rfl
theorem aD_h : hd aD = false := by kernel_rfl
theorem aD_f : flT aD = ⟨#[97, 32, 98]⟩ := by kernel_rfl
theorem tD_nn (s : ByteArray) : Nn (tD s) := ⟨by show (0 : Int) ≤ (col (cl s) : Int); omega, by show (0 : Int) ≤ 1; omega⟩
theorem leaf_nn (w k : Int) (h : Bool) (hw : 0 ≤ w) : Nn (some ⟨w, h, 1, k, ⟨#[]⟩, 0, []⟩ : D) := ⟨hw, by show (0 : Int) ≤ 1; omega⟩
theorem tD_sm (s : ByteArray) : Sm (tD s) := Sm_mk (by simp) (by intro d hd; cases hd)
theorem leaf_sm (w k : Int) (h : Bool) : Sm (some ⟨w, h, 1, k, ⟨#[]⟩, 0, []⟩ : D) := Sm_mk (by simp) (by intro d hd; cases hd)
theorem b_sm {k b : Int} {l : List D} (hl : l.length ≤ 1000000000) (h : ∀ d ∈ l, Sm d) : Sm (bD k b l) := Sm_mk (by show l.length < _; omega) h
theorem aD_ok : (∀ d ∈ [tD ⟨#[97]⟩, some ⟨1, false, 1, 1, ⟨#[]⟩, 0, []⟩, tD ⟨#[98]⟩], Nn d) ∧ wds [tD ⟨#[97]⟩, some ⟨1, false, 1, 1, ⟨#[]⟩, 0, []⟩, tD ⟨#[98]⟩] ≤ 1000000000000 ∧ szs [tD ⟨#[97]⟩, some ⟨1, false, 1, 1, ⟨#[]⟩, 0, []⟩, tD ⟨#[98]⟩] ≤ 1000000000000 := by
  refine ⟨?_, ?_, ?_⟩
  · intro d hd
    simp only [List.mem_cons, List.not_mem_nil, or_false] at hd
    rcases hd with rfl | rfl | rfl
    · exact tD_nn _
    · exact leaf_nn _ _ _ (by decide)
    · exact tD_nn _
  · have : wds [tD ⟨#[97]⟩, some ⟨1, false, 1, 1, ⟨#[]⟩, 0, []⟩, tD ⟨#[98]⟩] = 3 := aD_w
    omega
  · have : szs [tD ⟨#[97]⟩, some ⟨1, false, 1, 1, ⟨#[]⟩, 0, []⟩, tD ⟨#[98]⟩] = 3 := by kernel_rfl
    omega
theorem aD_sm : Sm aD ∧ (fl [32] aD).length ≤ 1000000000 := by
  refine ⟨b_sm (by simp) ?_, ?_⟩
  · intro d hd
    simp only [List.mem_cons, List.not_mem_nil, or_false] at hd
    rcases hd with rfl | rfl | rfl
    · exact tD_sm _
    · exact leaf_sm _ _ _
    · exact tD_sm _
  · have : (fl [32] aD).length = 3 := by kernel_rfl
    omega
set_option maxHeartbeats 2000000 in
set_option maxRecDepth 100000 in
theorem awake24 (w : World) (hM : Mx w) : Calls Tryd.prog 9 #[] w fun e w' => e = .returned (.bool true) ∧ Below w.heap.size w w' := by
  have HM := Aside0.mk hM
  have HT := Aside0.mk (fun (u : World) (hb : Below w.heap.size w u) (s : ByteArray) (hs : s.size ≤ 1000000) => Text_ s u (hM.below hb hM.pos) hs)
  have HB := Aside0.mk (Below.refl w.heap.size w)
  have HL := Aside0.mk (show (∀ d ∈ [tD ⟨#[97]⟩, some ⟨1, false, 1, 1, ⟨#[]⟩, 0, []⟩, tD ⟨#[98]⟩], Nn d) ∧ wds [tD ⟨#[97]⟩, some ⟨1, false, 1, 1, ⟨#[]⟩, 0, []⟩, tD ⟨#[98]⟩] ≤ 1000000000000 ∧ szs [tD ⟨#[97]⟩, some ⟨1, false, 1, 1, ⟨#[]⟩, 0, []⟩, tD ⟨#[98]⟩] ≤ 1000000000000 from aD_ok)
  have HF := Aside0.mk (show Sm (bD 4 0 [tD ⟨#[97]⟩, some ⟨1, false, 1, 1, ⟨#[]⟩, 0, []⟩, tD ⟨#[98]⟩]) ∧ (fl [32] (bD 4 0 [tD ⟨#[97]⟩, some ⟨1, false, 1, 1, ⟨#[]⟩, 0, []⟩, tD ⟨#[98]⟩])).length ≤ 1000000000 from aD_sm)
  clear hM
  go_enter Tryd.func9, Tryd.ntmps9
  go_wp2_with (first | (go_at_call 30; refine (HT.out _ HB.out _ (by decide)).mono ?_; rintro e w1 ⟨v1, rfl, hd, hb⟩; obtain ⟨p1, rfl⟩ := hd.ptr; have HD1 := Aside0.mk hd; have n0_ := Aside0.mk (below_step HB.out hb); clear HB hd; have HB := n0_; clear n0_; (try (have HDB := Aside0.mk (HDA.out.below hb); have HDC := Aside0.mk (HD2.out.below hb))); clear hb) | (go_at_call 31; refine (Blank_ _).mono ?_; rintro e w2 ⟨v2, rfl, hd, hb⟩; obtain ⟨p2, rfl⟩ := hd.ptr; have HD2 := Aside0.mk hd; have n1_ := Aside0.mk (HD1.out.below hb); have n0_ := Aside0.mk (below_step HB.out hb); clear HB HD1 hb hd; have HB := n0_; have HDA := n1_; clear n0_ n1_) | (go_at_call 11; refine (Cat_ _ 3 _ _ (lit3 HDB.out HDC.out HD1.out) (Nat.le_refl _) (by simp) HL.out.1 HL.out.2.1 HL.out.2.2).mono ?_; rintro e w4 ⟨v4, rfl, hd, hb⟩; obtain ⟨p4, rfl⟩ := hd.ptr; have HD4 := Aside0.mk hd; have n0_ := Aside0.mk (below_step (below_alloc HB.out _) hb); clear HB hd hb HD1 HD2 HDA HDB HDC; have HB := n0_; clear n0_) | (go_at_call 12; refine (Width_ HD4.out).mono ?_; rw [show hd (bD 4 0 [tD ⟨#[97]⟩, some ⟨1, false, 1, 1, ⟨#[]⟩, 0, []⟩, tD ⟨#[98]⟩]) = false from aD_h, show wd (bD 4 0 [tD ⟨#[97]⟩, some ⟨1, false, 1, 1, ⟨#[]⟩, 0, []⟩, tD ⟨#[98]⟩]) = 3 from aD_w]; rintro e w5 ⟨rfl, hq⟩; obtain rfl := hq.symm; clear hq) | (go_at_call 13; refine (Flat_yes HD4.out HF.out.1 HF.out.2 aD_h).mono ?_; rw [show flT (bD 4 0 [tD ⟨#[97]⟩, some ⟨1, false, 1, 1, ⟨#[]⟩, 0, []⟩, tD ⟨#[98]⟩]) = ⟨#[97, 32, 98]⟩ from aD_f]; rintro e w6 ⟨rfl, hb⟩; have n0_ := Aside0.mk (below_step HB.out hb); clear HB hb; have HB := n0_; clear n0_))
  go_ret
  exact ⟨rfl, HB.out⟩
theorem nn_none : Nn (none : D) := ⟨Int.le_refl 0, by show (0 : Int) ≤ 1; omega⟩
theorem sm_none : Sm (none : D) := by simp [Sm]
set_option maxHeartbeats 4000000 in
set_option maxRecDepth 100000 in
theorem DocNone (by_ : Int) (w : World) (hM : Mx w) : Calls Tryd.prog 4 #[.int .i64 by_] w fun e w' => e = .returned (.bool true) ∧ Below w.heap.size w w' := by
  have HA := Aside0.mk (fun (u : World) (hb : Below w.heap.size w u) => awake24 u (hM.below hb hM.pos))
  have HB := Aside0.mk (Below.refl w.heap.size w)
  have HW := Aside0.mk (fun (u : World) => (show Calls Tryd.prog 12 #[.pointer none] u fun e w' => e = .returned (.tuple #[.int .i64 0, .bool true]) ∧ w' = u from Width_ (d := none) kD_none))
  have HF := Aside0.mk (fun (u : World) => (show Calls Tryd.prog 13 #[.pointer none] u fun e w' => e = .returned (.tuple #[.string ⟨#[]⟩, .bool true]) ∧ Below u.heap.size u w' from Flat_yes (d := none) kD_none sm_none (by simp [fl]) rfl))
  have HN := Aside0.mk (fun (u : World) => Nest_ by_ (w := u) (d := none) kD_none nn_none (by show (0 : Int) ≤ _; omega) (by show (1 : Int) ≤ _; omega))
  obtain ⟨d5, hd5⟩ : ∃ d, d = bD 5 (clp by_) [none] := ⟨_, rfl⟩
  have HF5 := Aside0.mk (fun (u : World) (v : Value) (h : DV u v d5) => (show Calls Tryd.prog 13 #[v] u fun e w' => e = .returned (.tuple #[.string ⟨#[]⟩, .bool true]) ∧ Below u.heap.size u w' from by
    subst hd5
    exact Flat_yes h (b_sm (by simp) (by intro d hd; rw [List.mem_singleton.1 hd]; exact sm_none)) (by simp [bD, fl, flS, flL]) rfl))
  rw [← hd5] at HN
  clear hd5
  have HK := Aside0.mk (fun (u : World) => (show Calls Tryd.prog 18 #[.pointer none] u fun e w' => e = .returned (.int .i64 4) ∧ w' = u from Kind_ (d := none) kD_none))
  have HS := Aside0.mk (fun (u : World) => (show Calls Tryd.prog 16 #[.pointer none] u fun e w' => e = .returned (.int .i64 1) ∧ Below u.heap.size u w' from Size_ (d := none) kD_none))
  have HO := Aside0.mk (fun (u : World) => (show Calls Tryd.prog 17 #[.pointer none] u fun e w' => e = .returned (.string ⟨#[]⟩) ∧ Below u.heap.size u w' from Words_ (d := none) kD_none sm_none (by simp [fl])))
  have HP := Aside0.mk (fun (u : World) => Parts_ (w := u) (d := none) kD_none (by simp [ps]))
  clear hM
  go_enter Tryd.func4, Tryd.ntmps4
  go_wp2_with (first | (go_at_call 12; refine (HW.out _).mono ?_; rintro e w1 ⟨rfl, hq⟩; obtain rfl := hq.symm; clear hq) | (go_at_call 13; with_reducible refine (HF.out _).mono ?_; rintro e w1 ⟨rfl, hb⟩; have n0_ := Aside0.mk (below_step HB.out hb); clear HB hb; have HB := n0_; clear n0_) | (go_at_call 15; refine (HN.out _).mono ?_; rintro e w1 ⟨v1, rfl, hd, hb⟩; obtain ⟨p1, rfl⟩ := hd.ptr; have HD := Aside0.mk hd; have n0_ := Aside0.mk (below_step HB.out hb); clear HB hb hd; have HB := n0_; clear n0_) | (go_at_call 13; with_reducible refine (HF5.out _ _ HD.out).mono ?_; rintro e w1 ⟨rfl, hb⟩; have n0_ := Aside0.mk (below_step HB.out hb); clear HB HD hb; have HB := n0_; clear n0_) | (go_at_call 18; refine (HK.out _).mono ?_; rintro e w1 ⟨rfl, hq⟩; obtain rfl := hq.symm; clear hq) | (go_at_call 16; refine (HS.out _).mono ?_; rintro e w1 ⟨rfl, hb⟩; have n0_ := Aside0.mk (below_step HB.out hb); clear HB hb; have HB := n0_; clear n0_) | (go_at_call 17; refine (HO.out _).mono ?_; rintro e w1 ⟨rfl, hb⟩; have n0_ := Aside0.mk (below_step HB.out hb); clear HB hb; have HB := n0_; clear n0_) | (go_at_call 19; refine (HP.out _).mono ?_; rintro e w1 ⟨A1, c1, rfl, -, -, hb⟩; rw [show (ps none).length = 0 from rfl]; have n0_ := Aside0.mk (below_step HB.out hb); clear HB hb; have HB := n0_; clear n0_) | (go_at_call 9; refine (HA.out _ HB.out).mono ?_; rintro e w1 ⟨rfl, hb⟩; have n0_ := Aside0.mk (below_step HB.out hb); clear HB hb; have HB := n0_; clear n0_))
  go_ret
  exact ⟨rfl, HB.out⟩
end Go.Proofs.YtjgaikmejccdkaaDoor.PDoc
