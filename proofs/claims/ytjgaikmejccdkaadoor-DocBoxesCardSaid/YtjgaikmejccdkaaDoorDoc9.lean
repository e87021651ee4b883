/- Layer 24: DocBoxes, walked. -/
import Derived.Test.YtjgaikmejccdkaaDoorDoc8
namespace Go.Proofs.YtjgaikmejccdkaaDoor.PDoc
open Go.RowKit Go.Proofs.YtjgaikmejccdkaaDoorW.PrintWords Go.Proofs.YtjgaikmejccdkaaDoorW.PrintLast Go.Proofs.YtjgaikmejccdkaaDoorW.PrintMore
set_option linter.unusedVariables false
set_option linter.unusedSimpArgs false
def bx8.T : Bool × List (List Nat × List Nat) := (true, [([], []), ([], []), ([0, 1], [0, 1]), ([2], [2]), ([3, 2], [3]), ([4], [4]), ([4], [4]), ([5, 6, 4], [4, 5, 6]), ([4, 7], [4, 7]), ([8, 4], [8]), ([9], [9]), ([9], [9]), ([10, 11, 9], [9, 10, 11]), ([9, 12], [9, 12]), ([13, 9], [13]), ([14], [14]), ([14], [14]), ([15, 16, 14], [14, 15, 16]), ([14, 17], [14, 17]), ([18, 14], [18]), ([19], [19]), ([19], [19]), ([20, 21, 19], [19, 20, 21]), ([19, 22], [19, 22]), ([23, 19], [23]), ([24], [24]), ([25, 24, 24], [24, 25]), ([24], [24]), ([27, 26, 24], [24, 27]), ([26, 28, 24], [24, 26, 28]), ([24, 29], [24, 29]), ([30, 28], [30]), ([31], [31]), ([32, 31, 31], [31, 32]), ([31], [31]), ([34, 33, 31], [31, 34]), ([33, 35, 31], [31, 33, 35]), ([31, 36], [31, 36]), ([37, 35, 0, 1, 2, 3, 4, 5, 6, 7, 8, 9, 10, 11, 12, 13, 14, 15, 16, 17, 18, 19, 20, 21, 22, 23, 24, 25, 26, 27, 28, 29, 30, 31, 32, 33, 34, 35, 36, 37], [37])])
def bx8.B : List Nat := [0, 0, 3, 7, 15, 31, 31, 127, 255, 511, 1023, 1023, 4095, 8191, 16383, 32767, 32767, 131071, 262143, 524287, 1048575, 1048575, 4194303, 8388607, 16777215, 33554431, 67108863, 33554431, 268435455, 536870911, 1073741823, 2147483647, 4294967295, 8589934591, 4294967295, 34359738367, 68719476735, 137438953471, 274877906943]
theorem bx8.tab : rtab .any (opsOf Tryd.f5 8) = bx8.T := by kernel_rfl
theorem bx8.bits : waitsOk bx8.T.2 bx8.B = true := by kernel_rfl
/-- The box that is made, all in all. -/
theorem made_ok {bs : List Bo} (h : Ok 60 bs) : WB (⟨4, ⟨#[]⟩, 0, bs⟩ : Bo) ∧ nb (dB ⟨4, ⟨#[]⟩, 0, bs⟩) ≤ 61 ∧ dB ⟨4, ⟨#[]⟩, 0, bs⟩ = bD 4 0 (bs.map dB) := by
  have e : dB ⟨4, ⟨#[]⟩, 0, bs⟩ = bD 4 0 (bs.map dB) := dB_box 4 0 bs ⟨#[]⟩ (Or.inl rfl)
  have hk : Bk (bD 4 0 (bs.map dB)) := Bk.box (Or.inl rfl) (by omega) (by omega) (BkL.of (fun d hd => by
    obtain ⟨b, hb, rfl⟩ := List.mem_map.1 hd
    exact dB_ok b (h.wb b hb)))
  have hs : sz (bD 4 0 (bs.map dB)) ≤ 61 := by
    have := h.bd.s
    show 1 + szs _ ≤ 61
    omega
  have h1 := hk.n
  exact ⟨Or.inr (Or.inr ⟨Or.inl rfl, rfl, Int.le_refl 0, by omega, WBL_all.2 h.wb⟩), by rw [e]; omega, e⟩
set_option maxHeartbeats 8000000 in
set_option maxRecDepth 100000 in
theorem DocBoxes (A : Option Addr) (c : Nat) (l : List Ac) (w : World) (hM : Mx w) (hl : kA.C w A l.length l) (hlc : l.length ≤ c) :
    Calls Tryd.prog 5 #[.slice A l.length c] w fun e w' => e = .returned (.bool true) ∧ Below w.heap.size w w' := by
  have HA := Aside0.mk (awake24 w hM)
  have HK := Aside0.mk (fun (u : World) (hb : Below w.heap.size w u) => Make_ A c l u (hM.below hb hM.pos) (Kd.C_below hl hb) hlc)
  clear hM hl hlc
  go_enter Tryd.func5, Tryd.ntmps5
  go_upto_region 4 with (first | (go_at_call 9; refine HA.out.mono ?_; clear HA; rintro e w1 ⟨rfl, hb⟩; have HB := Aside0.mk hb; clear hb) | (go_at_call 10; (with_reducible refine (HK.out _ HB.out).mono ?_); clear HK; rintro e w1 ⟨va, bsa, Aa, ca, rfl, hda, hca, hCa, hok, hb⟩; have hpa := hda.ptr; obtain ⟨pa, rfl⟩ := hpa; have HM := Aside0.mk (made_ok hok); have HQ := Aside0.mk (hok.box4q (Nat.le_refl _)); have HCA := Aside0.mk hCa; have HCL := Aside0.mk hca; have HD := Aside0.mk hda; have n0_ := Aside0.mk (below_step HB.out hb); clear HB hb hda hok hCa hca; have HB := n0_; clear n0_))
  have hbx := below_alloc (Below.refl w1.heap.size w1) (.cells #[.int .i64 4, .string ⟨#[]⟩, .int .i64 0, .slice Aa bsa.length ca] 27)
  have HBT := Aside0.mk (blk_new w1 (.cells #[.int .i64 4, .string ⟨#[]⟩, .int .i64 0, .slice Aa bsa.length ca] 27))
  have n0_ := Aside0.mk (HD.out.below hbx)
  have n1_ := Aside0.mk (Kd.C_below HCA.out hbx)
  have n2_ := Aside0.mk (below_step HB.out hbx)
  clear HD HB HCA hbx
  have HD := n0_
  have HCA := n1_
  have HB := n2_
  clear n0_ n1_ n2_
  generalize w1.alloc (.cells #[.int .i64 4, .string ⟨#[]⟩, .int .i64 0, .slice Aa bsa.length ca] 27) = w9 at HD HCA HB HBT ⊢
  generalize w1.heap.size = bt at HBT ⊢
  obtain ⟨hW, hn, hdB⟩ := HM.out
  obtain ⟨K1, hr1⟩ := ref_width ⟨4, ⟨#[]⟩, 0, bsa⟩ hW (by omega)
  obtain ⟨K2, hr2⟩ := ref_flat ⟨4, ⟨#[]⟩, 0, bsa⟩ hW (by omega)
  obtain ⟨K3, hr3⟩ := ref_size ⟨4, ⟨#[]⟩, 0, bsa⟩ hW (by omega)
  obtain ⟨K4, hr4⟩ := ref_words ⟨4, ⟨#[]⟩, 0, bsa⟩ hW (by omega)
  replace hr1 := hr1 K1 (Nat.le_refl _)
  replace hr2 := hr2 K2 (Nat.le_refl _)
  replace hr3 := hr3 K3 (Nat.le_refl _)
  replace hr4 := hr4 K4 (Nat.le_refl _)
  have hsz : sz (bD 4 0 (bsa.map dB)) = (nb (dB ⟨4, ⟨#[]⟩, 0, bsa⟩) : Int) := by rw [← hdB]; exact (dB_ok _ hW).n.symm
  rw [hdB] at hr1 hr2 hr4
  have HSM := Aside0.mk (fun (u : World) (hb : Below w9.heap.size w9 u) => (show Calls Tryd.prog 22 #[.pointer pa, .agg #[.int .i64 4, .string ⟨#[]⟩, .int .i64 0, .slice Aa bsa.length ca]] u fun e w' => e = .returned (.int .i64 0) ∧ Below u.heap.size u w' from same_ ⟨4, ⟨#[]⟩, 0, bsa⟩ hW (by omega) u _ _ _ (hdB ▸ HD.out.below hb) (Kd.C_below HCA.out hb) HCL.out))
  obtain ⟨N, hN⟩ : ∃ N, N = (if hd (bD 4 0 (bsa.map dB)) = true then 0 else wd (bD 4 0 (bsa.map dB))) := ⟨_, rfl⟩
  obtain ⟨P, hP⟩ : ∃ P, P = !hd (bD 4 0 (bsa.map dB)) := ⟨_, rfl⟩
  obtain ⟨F, hF⟩ : ∃ F, F = (if hd (bD 4 0 (bsa.map dB)) = true then ⟨#[]⟩ else flT (bD 4 0 (bsa.map dB))) := ⟨_, rfl⟩
  obtain ⟨Z, hZ⟩ : ∃ Z, Z = (nb (dB ⟨4, ⟨#[]⟩, 0, bsa⟩) : Int) := ⟨_, rfl⟩
  obtain ⟨V, hV⟩ : ∃ V, V = woT (bD 4 0 (bsa.map dB)) := ⟨_, rfl⟩
  rw [← hN, ← hP] at hr1
  rw [← hF, ← hP] at hr2
  rw [← hZ] at hr3 hsz
  rw [← hV] at hr4
  have HWI := Aside0.mk (fun (u : World) (hb : Below w9.heap.size w9 u) => (show Calls Tryd.prog 12 #[.pointer pa] u fun e w' => e = .returned (.tuple #[.int .i64 N, .bool P]) ∧ w' = u from by rw [hN, hP]; exact Width_ (HD.out.below hb)))
  have HFL := Aside0.mk (fun (u : World) (hb : Below w9.heap.size w9 u) => (show Calls Tryd.prog 13 #[.pointer pa] u fun e w' => e = .returned (.tuple #[.string F, .bool P]) ∧ Below u.heap.size u w' from by rw [hF, hP]; exact Flat_ (HD.out.below hb) HQ.out.m.sm (by have := HQ.out.m.f; omega)))
  have HSZ := Aside0.mk (fun (u : World) (hb : Below w9.heap.size w9 u) => (show Calls Tryd.prog 16 #[.pointer pa] u fun e w' => e = .returned (.int .i64 Z) ∧ Below u.heap.size u w' from by rw [← hsz]; exact Size_ (HD.out.below hb)))
  have HWO := Aside0.mk (fun (u : World) (hb : Below w9.heap.size w9 u) => (show Calls Tryd.prog 17 #[.pointer pa] u fun e w' => e = .returned (.string V) ∧ Below u.heap.size u w' from by rw [hV]; exact Words_ (HD.out.below hb) HQ.out.m.sm (by have := HQ.out.m.wo; omega)))
  have HRW := Aside0.mk (fun (u : World) (hb : Below w9.heap.size w9 u) => (show Calls Tryd.prog 20 #[.agg #[.int .i64 4, .string ⟨#[]⟩, .int .i64 0, .slice Aa bsa.length ca]] u fun e w' => e = .returned (.tuple #[.int .i64 N, .bool P]) ∧ Below u.heap.size u w' from frisketref24_Width.calls K1 4 ⟨#[]⟩ 0 Aa ca bsa N P u (Kd.C_below HCA.out hb) HCL.out hr1))
  have HRF := Aside0.mk (fun (u : World) (hb : Below w9.heap.size w9 u) => (show Calls Tryd.prog 21 #[.agg #[.int .i64 4, .string ⟨#[]⟩, .int .i64 0, .slice Aa bsa.length ca]] u fun e w' => e = .returned (.tuple #[.string F, .bool P]) ∧ Below u.heap.size u w' from frisketref24_Flat.calls K2 4 ⟨#[]⟩ 0 Aa ca bsa F P u (Kd.C_below HCA.out hb) HCL.out hr2))
  have HRS := Aside0.mk (fun (u : World) (hb : Below w9.heap.size w9 u) => (show Calls Tryd.prog 23 #[.agg #[.int .i64 4, .string ⟨#[]⟩, .int .i64 0, .slice Aa bsa.length ca]] u fun e w' => e = .returned (.int .i64 Z) ∧ Below u.heap.size u w' from frisketref24_Size.calls K3 4 ⟨#[]⟩ 0 Aa ca bsa Z u (Kd.C_below HCA.out hb) HCL.out hr3))
  have HRO := Aside0.mk (fun (u : World) (hb : Below w9.heap.size w9 u) => (show Calls Tryd.prog 24 #[.agg #[.int .i64 4, .string ⟨#[]⟩, .int .i64 0, .slice Aa bsa.length ca]] u fun e w' => e = .returned (.string V) ∧ Below u.heap.size u w' from frisketref24_Words.calls K4 4 ⟨#[]⟩ 0 Aa ca bsa V u (Kd.C_below HCA.out hb) HCL.out hr4))
  clear hW hn hdB hr1 hr2 hr3 hr4 hsz hN hP hF hZ hV
  have HBR := Aside0.mk (Below.refl w9.heap.size w9)
  have kb0 : w9.cell? ⟨bt, 0, none⟩ = some (.int .i64 4) := (blk_cell (blk_below HBT.out HBR.out) 0).trans rfl; have kb1 : w9.cell? ⟨bt, 1, none⟩ = some (.string ⟨#[]⟩) := (blk_cell (blk_below HBT.out HBR.out) 1).trans rfl; have kb2 : w9.cell? ⟨bt, 2, none⟩ = some (.int .i64 0) := (blk_cell (blk_below HBT.out HBR.out) 2).trans rfl; have kb3 : w9.cell? ⟨bt, 3, none⟩ = some (.slice Aa bsa.length ca) := (blk_cell (blk_below HBT.out HBR.out) 3).trans rfl
  go_upto_region 8 with (first | (go_at_call 12; refine (HWI.out _ HBR.out).mono ?_; clear HWI; rintro e w2 ⟨rfl, hq⟩; obtain rfl := hq.symm; clear hq) | (go_at_call 20; refine (HRW.out _ HBR.out).mono ?_; clear HRW; rintro e w3 ⟨rfl, hb⟩; have n0_ := Aside0.mk (below_step HBR.out hb); clear HBR hb kb0 kb1 kb2 kb3; have HBR := n0_; clear n0_; have kb0 : w3.cell? ⟨bt, 0, none⟩ = some (.int .i64 4) := (blk_cell (blk_below HBT.out HBR.out) 0).trans rfl; have kb1 : w3.cell? ⟨bt, 1, none⟩ = some (.string ⟨#[]⟩) := (blk_cell (blk_below HBT.out HBR.out) 1).trans rfl; have kb2 : w3.cell? ⟨bt, 2, none⟩ = some (.int .i64 0) := (blk_cell (blk_below HBT.out HBR.out) 2).trans rfl; have kb3 : w3.cell? ⟨bt, 3, none⟩ = some (.slice Aa bsa.length ca) := (blk_cell (blk_below HBT.out HBR.out) 3).trans rfl) | (go_at_call 13; refine (HFL.out _ HBR.out).mono ?_; clear HFL; rintro e w4 ⟨rfl, hb⟩; have n0_ := Aside0.mk (below_step HBR.out hb); clear HBR hb kb0 kb1 kb2 kb3; have HBR := n0_; clear n0_; have kb0 : w4.cell? ⟨bt, 0, none⟩ = some (.int .i64 4) := (blk_cell (blk_below HBT.out HBR.out) 0).trans rfl; have kb1 : w4.cell? ⟨bt, 1, none⟩ = some (.string ⟨#[]⟩) := (blk_cell (blk_below HBT.out HBR.out) 1).trans rfl; have kb2 : w4.cell? ⟨bt, 2, none⟩ = some (.int .i64 0) := (blk_cell (blk_below HBT.out HBR.out) 2).trans rfl; have kb3 : w4.cell? ⟨bt, 3, none⟩ = some (.slice Aa bsa.length ca) := (blk_cell (blk_below HBT.out HBR.out) 3).trans rfl) | (go_at_call 21; refine (HRF.out _ HBR.out).mono ?_; clear HRF; rintro e w5 ⟨rfl, hb⟩; have n0_ := Aside0.mk (below_step HBR.out hb); clear HBR hb kb0 kb1 kb2 kb3; have HBR := n0_; clear n0_; have kb0 : w5.cell? ⟨bt, 0, none⟩ = some (.int .i64 4) := (blk_cell (blk_below HBT.out HBR.out) 0).trans rfl; have kb1 : w5.cell? ⟨bt, 1, none⟩ = some (.string ⟨#[]⟩) := (blk_cell (blk_below HBT.out HBR.out) 1).trans rfl; have kb2 : w5.cell? ⟨bt, 2, none⟩ = some (.int .i64 0) := (blk_cell (blk_below HBT.out HBR.out) 2).trans rfl; have kb3 : w5.cell? ⟨bt, 3, none⟩ = some (.slice Aa bsa.length ca) := (blk_cell (blk_below HBT.out HBR.out) 3).trans rfl))
  clear kb0 kb1 kb2 kb3
  have n0_ := Aside0.mk (below_drew1 HBR.out)
  clear HBR
  have HBR := n0_
  clear n0_
  refine start_ (n := 39) (S := fun w' => w'.cell? ⟨bt, 0, none⟩ = some (.int .i64 4) ∧ w'.cell? ⟨bt, 1, none⟩ = some (.string ⟨#[]⟩) ∧ w'.cell? ⟨bt, 2, none⟩ = some (.int .i64 0) ∧ w'.cell? ⟨bt, 3, none⟩ = some (.slice Aa bsa.length ca)) (ds := []) #[false, false, false, false, false, false, false, false, false, false, false, false, false, false, false, false, false, false, false, false, false, false, false, false, false, false, false, false, false, false, false, false, false, false, false, false, false, false, false] (by kernel_rfl) rfl rfl ⟨(blk_cell (blk_below HBT.out HBR.out) 0).trans rfl, (blk_cell (blk_below HBT.out HBR.out) 1).trans rfl, (blk_cell (blk_below HBT.out HBR.out) 2).trans rfl, (blk_cell (blk_below HBT.out HBR.out) 3).trans rfl⟩ (fun hHeld => ?_); refine with_tabW bx8.tab bx8.bits (fun HT_ HW_ => ?_)
  generalize w5.drew = w6 at HBR hHeld ⊢
  refine pure_ (i := 0) (N := some 40) (v := ?_) (a' := ?_) #[true, false, false, false, false, false, false, false, false, false, false, false, false, false, false, false, false, false, false, false, false, false, false, false, false, false, false, false, false, false, false, false, false, false, false, false, false, false, false] rfl rfl (any_of HT_.out (by kernel_rfl)) (fun _ _ _ h => h) (Or.inl ⟨by rfl, ?_⟩) ?_ ?_
  rotate_left
  · intro w'
    go_simp
    try with_reducible rfl
  rotate_left
  · simp only [Act.put, List.setIfInBounds_toArray, List.set_cons_zero, List.set_cons_succ, i64_w, i32_w]
    rfl
  refine take_ (i := 1) (N := some 41) (v := ?_) (a' := ?_) #[true, true, false, false, false, false, false, false, false, false, false, false, false, false, false, false, false, false, false, false, false, false, false, false, false, false, false, false, false, false, false, false, false, false, false, false, false, false, false] rfl rfl (take_ofW HT_.out HW_.out (by kernel_rfl)) (fun _ _ _ h => h) (Or.inl ⟨by rfl, ?_⟩) hHeld ?_ ?_
  rotate_left
  · rintro w' ⟨s0, s1, s2, s3⟩
    go_simp
    try with_reducible rfl
  rotate_left
  · simp only [Act.put, List.setIfInBounds_toArray, List.set_cons_zero, List.set_cons_succ, i64_w, i32_w]
    rfl
  refine one_ (i := 2) (N := some 42) #[true, true, true, false, false, false, false, false, false, false, false, false, false, false, false, false, false, false, false, false, false, false, false, false, false, false, false, false, false, false, false, false, false, false, false, false, false, false, false] rfl rfl (one_of HT_.out (by kernel_rfl)) (by decide) (fun K hK => ?_)
  refine goes_ Tryd.func22 (by kernel_rfl) rfl #[.pointer pa, .agg #[.int .i64 4, .string ⟨#[]⟩, .int .i64 0, .slice Aa bsa.length ca]] (by rfl) rfl rfl (by (try simp only [List.map_toArray, List.map_cons, List.map_nil]); first | done | rfl) ?_
  refine (HSM.out _ HBR.out).mono ?_
  rintro e z2 ⟨rfl, hb⟩
  refine ⟨_, rfl, ?_⟩
  have n0_ := Aside0.mk (below_step HBR.out hb)
  clear HBR hb
  have HBR := n0_
  clear n0_
  refine hK.out _ _ ⟨(blk_cell (blk_below HBT.out HBR.out) 0).trans rfl, (blk_cell (blk_below HBT.out HBR.out) 1).trans rfl, (blk_cell (blk_below HBT.out HBR.out) 2).trans rfl, (blk_cell (blk_below HBT.out HBR.out) 3).trans rfl⟩ (fun hHeld => ?_)
  clear hK K
  refine norm_ (a' := ?_) ?_ ?_
  rotate_left
  · show Act.put _ (some 42) _ = _
    simp only [Act.put, List.setIfInBounds_toArray, List.set_cons_zero, List.set_cons_succ, i64_w, i32_w]
    rfl
  refine pure_ (i := 3) (N := some 43) (v := ?_) (a' := ?_) #[true, true, true, true, false, false, false, false, false, false, false, false, false, false, false, false, false, false, false, false, false, false, false, false, false, false, false, false, false, false, false, false, false, false, false, false, false, false, false] rfl rfl (any_of HT_.out (by kernel_rfl)) (fun _ _ _ h => h) (Or.inl ⟨by rfl, ?_⟩) ?_ ?_
  rotate_left
  · intro w'
    go_simp
    try with_reducible rfl
  rotate_left
  · simp only [Act.put, List.setIfInBounds_toArray, List.set_cons_zero, List.set_cons_succ, i64_w, i32_w]
    rfl
  refine pure_ (i := 4) (N := some 44) (v := ?_) (a' := ?_) #[true, true, true, true, true, false, false, false, false, false, false, false, false, false, false, false, false, false, false, false, false, false, false, false, false, false, false, false, false, false, false, false, false, false, false, false, false, false, false] rfl rfl (any_of HT_.out (by kernel_rfl)) (fun _ _ _ h => h) (Or.inl ⟨by rfl, ?_⟩) ?_ ?_
  rotate_left
  · intro w'
    go_simp
    try with_reducible rfl
  rotate_left
  · simp only [Act.put, List.setIfInBounds_toArray, List.set_cons_zero, List.set_cons_succ, i64_w, i32_w]
    rfl
  refine pure_ (i := 5) (N := some 45) (v := ?_) (a' := ?_) #[true, true, true, true, true, true, false, false, false, false, false, false, false, false, false, false, false, false, false, false, false, false, false, false, false, false, false, false, false, false, false, false, false, false, false, false, false, false, false] rfl rfl (any_of HT_.out (by kernel_rfl)) (fun _ _ _ h => h) (Or.inl ⟨by rfl, ?_⟩) ?_ ?_
  rotate_left
  · intro w'
    go_simp
    try with_reducible rfl
  rotate_left
  · simp only [Act.put, List.setIfInBounds_toArray, List.set_cons_zero, List.set_cons_succ, i64_w, i32_w]
    rfl
  refine pure_ (i := 6) (N := some 46) (v := ?_) (a' := ?_) #[true, true, true, true, true, true, true, false, false, false, false, false, false, false, false, false, false, false, false, false, false, false, false, false, false, false, false, false, false, false, false, false, false, false, false, false, false, false, false] rfl rfl (any_of HT_.out (by kernel_rfl)) (fun _ _ _ h => h) (Or.inl ⟨by rfl, ?_⟩) ?_ ?_
  rotate_left
  · intro w'
    go_simp
    try with_reducible rfl
  rotate_left
  · simp only [Act.put, List.setIfInBounds_toArray, List.set_cons_zero, List.set_cons_succ, i64_w, i32_w]
    rfl
  refine pure_ (i := 7) (N := some 47) (v := ?_) (a' := ?_) #[true, true, true, true, true, true, true, true, false, false, false, false, false, false, false, false, false, false, false, false, false, false, false, false, false, false, false, false, false, false, false, false, false, false, false, false, false, false, false] rfl rfl (any_of HT_.out (by kernel_rfl)) (fun _ _ _ h => h) (Or.inl ⟨by rfl, ?_⟩) ?_ ?_
  rotate_left
  · intro w'
    go_simp
    try with_reducible rfl
  rotate_left
  · simp only [Act.put, List.setIfInBounds_toArray, List.set_cons_zero, List.set_cons_succ, i64_w, i32_w]
    rfl
  refine pure_ (i := 8) (N := some 48) (v := ?_) (a' := ?_) #[true, true, true, true, true, true, true, true, true, false, false, false, false, false, false, false, false, false, false, false, false, false, false, false, false, false, false, false, false, false, false, false, false, false, false, false, false, false, false] rfl rfl (any_of HT_.out (by kernel_rfl)) (fun _ _ _ h => h) (Or.inl ⟨by rfl, ?_⟩) ?_ ?_
  rotate_left
  · intro w'
    go_simp
    try with_reducible rfl
  rotate_left
  · simp only [Act.put, List.setIfInBounds_toArray, List.set_cons_zero, List.set_cons_succ, i64_w, i32_w]
    rfl
  refine pure_ (i := 9) (N := some 49) (v := ?_) (a' := ?_) #[true, true, true, true, true, true, true, true, true, true, false, false, false, false, false, false, false, false, false, false, false, false, false, false, false, false, false, false, false, false, false, false, false, false, false, false, false, false, false] rfl rfl (any_of HT_.out (by kernel_rfl)) (fun _ _ _ h => h) (Or.inl ⟨by rfl, ?_⟩) ?_ ?_
  rotate_left
  · intro w'
    go_simp
    try with_reducible rfl
  rotate_left
  · simp only [Act.put, List.setIfInBounds_toArray, List.set_cons_zero, List.set_cons_succ, i64_w, i32_w]
    rfl
  refine pure_ (i := 10) (N := some 50) (v := ?_) (a' := ?_) #[true, true, true, true, true, true, true, true, true, true, true, false, false, false, false, false, false, false, false, false, false, false, false, false, false, false, false, false, false, false, false, false, false, false, false, false, false, false, false] rfl rfl (any_of HT_.out (by kernel_rfl)) (fun _ _ _ h => h) (Or.inl ⟨by rfl, ?_⟩) ?_ ?_
  rotate_left
  · intro w'
    go_simp
    try with_reducible rfl
  rotate_left
  · simp only [Act.put, List.setIfInBounds_toArray, List.set_cons_zero, List.set_cons_succ, i64_w, i32_w]
    rfl
  refine pure_ (i := 11) (N := some 51) (v := ?_) (a' := ?_) #[true, true, true, true, true, true, true, true, true, true, true, true, false, false, false, false, false, false, false, false, false, false, false, false, false, false, false, false, false, false, false, false, false, false, false, false, false, false, false] rfl rfl (any_of HT_.out (by kernel_rfl)) (fun _ _ _ h => h) (Or.inl ⟨by rfl, ?_⟩) ?_ ?_
  rotate_left
  · intro w'
    go_simp
    try with_reducible rfl
  rotate_left
  · simp only [Act.put, List.setIfInBounds_toArray, List.set_cons_zero, List.set_cons_succ, i64_w, i32_w]
    rfl
  refine pure_ (i := 12) (N := some 52) (v := ?_) (a' := ?_) #[true, true, true, true, true, true, true, true, true, true, true, true, true, false, false, false, false, false, false, false, false, false, false, false, false, false, false, false, false, false, false, false, false, false, false, false, false, false, false] rfl rfl (any_of HT_.out (by kernel_rfl)) (fun _ _ _ h => h) (Or.inl ⟨by rfl, ?_⟩) ?_ ?_
  rotate_left
  · intro w'
    go_simp
    try with_reducible rfl
  rotate_left
  · simp only [Act.put, List.setIfInBounds_toArray, List.set_cons_zero, List.set_cons_succ, i64_w, i32_w]
    rfl
  refine pure_ (i := 13) (N := some 53) (v := ?_) (a' := ?_) #[true, true, true, true, true, true, true, true, true, true, true, true, true, true, false, false, false, false, false, false, false, false, false, false, false, false, false, false, false, false, false, false, false, false, false, false, false, false, false] rfl rfl (any_of HT_.out (by kernel_rfl)) (fun _ _ _ h => h) (Or.inl ⟨by rfl, ?_⟩) ?_ ?_
  rotate_left
  · intro w'
    go_simp
    try with_reducible rfl
  rotate_left
  · simp only [Act.put, List.setIfInBounds_toArray, List.set_cons_zero, List.set_cons_succ, i64_w, i32_w]
    rfl
  refine pure_ (i := 14) (N := some 54) (v := ?_) (a' := ?_) #[true, true, true, true, true, true, true, true, true, true, true, true, true, true, true, false, false, false, false, false, false, false, false, false, false, false, false, false, false, false, false, false, false, false, false, false, false, false, false] rfl rfl (any_of HT_.out (by kernel_rfl)) (fun _ _ _ h => h) (Or.inl ⟨by rfl, ?_⟩) ?_ ?_
  rotate_left
  · intro w'
    go_simp
    try with_reducible rfl
  rotate_left
  · simp only [Act.put, List.setIfInBounds_toArray, List.set_cons_zero, List.set_cons_succ, i64_w, i32_w]
    rfl
  refine pure_ (i := 15) (N := some 55) (v := ?_) (a' := ?_) #[true, true, true, true, true, true, true, true, true, true, true, true, true, true, true, true, false, false, false, false, false, false, false, false, false, false, false, false, false, false, false, false, false, false, false, false, false, false, false] rfl rfl (any_of HT_.out (by kernel_rfl)) (fun _ _ _ h => h) (Or.inl ⟨by rfl, ?_⟩) ?_ ?_
  rotate_left
  · intro w'
    go_simp
    try with_reducible rfl
  rotate_left
  · simp only [Act.put, List.setIfInBounds_toArray, List.set_cons_zero, List.set_cons_succ, i64_w, i32_w]
    rfl
  refine pure_ (i := 16) (N := some 56) (v := ?_) (a' := ?_) #[true, true, true, true, true, true, true, true, true, true, true, true, true, true, true, true, true, false, false, false, false, false, false, false, false, false, false, false, false, false, false, false, false, false, false, false, false, false, false] rfl rfl (any_of HT_.out (by kernel_rfl)) (fun _ _ _ h => h) (Or.inl ⟨by rfl, ?_⟩) ?_ ?_
  rotate_left
  · intro w'
    go_simp
    try with_reducible rfl
  rotate_left
  · simp only [Act.put, List.setIfInBounds_toArray, List.set_cons_zero, List.set_cons_succ, i64_w, i32_w]
    rfl
  refine pure_ (i := 17) (N := some 57) (v := ?_) (a' := ?_) #[true, true, true, true, true, true, true, true, true, true, true, true, true, true, true, true, true, true, false, false, false, false, false, false, false, false, false, false, false, false, false, false, false, false, false, false, false, false, false] rfl rfl (any_of HT_.out (by kernel_rfl)) (fun _ _ _ h => h) (Or.inl ⟨by rfl, ?_⟩) ?_ ?_
  rotate_left
  · intro w'
    go_simp
    try with_reducible rfl
  rotate_left
  · simp only [Act.put, List.setIfInBounds_toArray, List.set_cons_zero, List.set_cons_succ, i64_w, i32_w]
    rfl
  refine pure_ (i := 18) (N := some 58) (v := ?_) (a' := ?_) #[true, true, true, true, true, true, true, true, true, true, true, true, true, true, true, true, true, true, true, false, false, false, false, false, false, false, false, false, false, false, false, false, false, false, false, false, false, false, false] rfl rfl (any_of HT_.out (by kernel_rfl)) (fun _ _ _ h => h) (Or.inl ⟨by rfl, ?_⟩) ?_ ?_
  rotate_left
  · intro w'
    go_simp
    try with_reducible rfl
  rotate_left
  · simp only [Act.put, List.setIfInBounds_toArray, List.set_cons_zero, List.set_cons_succ, i64_w, i32_w]
    rfl
  refine pure_ (i := 19) (N := some 59) (v := ?_) (a' := ?_) #[true, true, true, true, true, true, true, true, true, true, true, true, true, true, true, true, true, true, true, true, false, false, false, false, false, false, false, false, false, false, false, false, false, false, false, false, false, false, false] rfl rfl (any_of HT_.out (by kernel_rfl)) (fun _ _ _ h => h) (Or.inl ⟨by rfl, ?_⟩) ?_ ?_
  rotate_left
  · intro w'
    go_simp
    try with_reducible rfl
  rotate_left
  · simp only [Act.put, List.setIfInBounds_toArray, List.set_cons_zero, List.set_cons_succ, i64_w, i32_w]
    rfl
  refine pure_ (i := 20) (N := some 60) (v := ?_) (a' := ?_) #[true, true, true, true, true, true, true, true, true, true, true, true, true, true, true, true, true, true, true, true, true, false, false, false, false, false, false, false, false, false, false, false, false, false, false, false, false, false, false] rfl rfl (any_of HT_.out (by kernel_rfl)) (fun _ _ _ h => h) (Or.inl ⟨by rfl, ?_⟩) ?_ ?_
  rotate_left
  · intro w'
    go_simp
    try with_reducible rfl
  rotate_left
  · simp only [Act.put, List.setIfInBounds_toArray, List.set_cons_zero, List.set_cons_succ, i64_w, i32_w]
    rfl
  refine pure_ (i := 21) (N := some 61) (v := ?_) (a' := ?_) #[true, true, true, true, true, true, true, true, true, true, true, true, true, true, true, true, true, true, true, true, true, true, false, false, false, false, false, false, false, false, false, false, false, false, false, false, false, false, false] rfl rfl (any_of HT_.out (by kernel_rfl)) (fun _ _ _ h => h) (Or.inl ⟨by rfl, ?_⟩) ?_ ?_
  rotate_left
  · intro w'
    go_simp
    try with_reducible rfl
  rotate_left
  · simp only [Act.put, List.setIfInBounds_toArray, List.set_cons_zero, List.set_cons_succ, i64_w, i32_w]
    rfl
  refine pure_ (i := 22) (N := some 62) (v := ?_) (a' := ?_) #[true, true, true, true, true, true, true, true, true, true, true, true, true, true, true, true, true, true, true, true, true, true, true, false, false, false, false, false, false, false, false, false, false, false, false, false, false, false, false] rfl rfl (any_of HT_.out (by kernel_rfl)) (fun _ _ _ h => h) (Or.inl ⟨by rfl, ?_⟩) ?_ ?_
  rotate_left
  · intro w'
    go_simp
    try with_reducible rfl
  rotate_left
  · simp only [Act.put, List.setIfInBounds_toArray, List.set_cons_zero, List.set_cons_succ, i64_w, i32_w]
    rfl
  refine pure_ (i := 23) (N := some 63) (v := ?_) (a' := ?_) #[true, true, true, true, true, true, true, true, true, true, true, true, true, true, true, true, true, true, true, true, true, true, true, true, false, false, false, false, false, false, false, false, false, false, false, false, false, false, false] rfl rfl (any_of HT_.out (by kernel_rfl)) (fun _ _ _ h => h) (Or.inl ⟨by rfl, ?_⟩) ?_ ?_
  rotate_left
  · intro w'
    go_simp
    try with_reducible rfl
  rotate_left
  · simp only [Act.put, List.setIfInBounds_toArray, List.set_cons_zero, List.set_cons_succ, i64_w, i32_w]
    rfl
  refine pure_ (i := 24) (N := some 64) (v := ?_) (a' := ?_) #[true, true, true, true, true, true, true, true, true, true, true, true, true, true, true, true, true, true, true, true, true, true, true, true, true, false, false, false, false, false, false, false, false, false, false, false, false, false, false] rfl rfl (any_of HT_.out (by kernel_rfl)) (fun _ _ _ h => h) (Or.inl ⟨by rfl, ?_⟩) ?_ ?_
  rotate_left
  · intro w'
    go_simp
    try with_reducible rfl
  rotate_left
  · simp only [Act.put, List.setIfInBounds_toArray, List.set_cons_zero, List.set_cons_succ, i64_w, i32_w]
    rfl
  refine pure_ (i := 25) (N := some 65) (v := ?_) (a' := ?_) #[true, true, true, true, true, true, true, true, true, true, true, true, true, true, true, true, true, true, true, true, true, true, true, true, true, true, false, false, false, false, false, false, false, false, false, false, false, false, false] rfl rfl (any_of HT_.out (by kernel_rfl)) (fun _ _ _ h => h) (Or.inl ⟨by rfl, ?_⟩) ?_ ?_
  rotate_left
  · intro w'
    go_simp
    try with_reducible rfl
  rotate_left
  · simp only [Act.put, List.setIfInBounds_toArray, List.set_cons_zero, List.set_cons_succ, i64_w, i32_w]
    rfl
  refine take_ (i := 27) (N := some 67) (v := ?_) (a' := ?_) #[true, true, true, true, true, true, true, true, true, true, true, true, true, true, true, true, true, true, true, true, true, true, true, true, true, true, false, true, false, false, false, false, false, false, false, false, false, false, false] rfl rfl (take_ofW HT_.out HW_.out (by kernel_rfl)) (fun _ _ _ h => h) (Or.inl ⟨by rfl, ?_⟩) hHeld ?_ ?_
  rotate_left
  · rintro w' ⟨s0, s1, s2, s3⟩
    go_simp
    try with_reducible rfl
  rotate_left
  · simp only [Act.put, List.setIfInBounds_toArray, List.set_cons_zero, List.set_cons_succ, i64_w, i32_w]
    rfl
  refine one_ (i := 26) (N := some 66) #[true, true, true, true, true, true, true, true, true, true, true, true, true, true, true, true, true, true, true, true, true, true, true, true, true, true, true, true, false, false, false, false, false, false, false, false, false, false, false] rfl rfl (one_of HT_.out (by kernel_rfl)) (by decide) (fun K hK => ?_)
  refine goes_ Tryd.func16 (by kernel_rfl) rfl #[.pointer pa] (by rfl) rfl rfl (by (try simp only [List.map_toArray, List.map_cons, List.map_nil]); first | done | rfl) ?_
  refine (HSZ.out _ HBR.out).mono ?_
  rintro e z26 ⟨rfl, hb⟩
  refine ⟨_, rfl, ?_⟩
  have n0_ := Aside0.mk (below_step HBR.out hb)
  clear HBR hb
  have HBR := n0_
  clear n0_
  refine hK.out _ _ ⟨(blk_cell (blk_below HBT.out HBR.out) 0).trans rfl, (blk_cell (blk_below HBT.out HBR.out) 1).trans rfl, (blk_cell (blk_below HBT.out HBR.out) 2).trans rfl, (blk_cell (blk_below HBT.out HBR.out) 3).trans rfl⟩ (fun hHeld => ?_)
  clear hK K
  refine norm_ (a' := ?_) ?_ ?_
  rotate_left
  · show Act.put _ (some 66) _ = _
    simp only [Act.put, List.setIfInBounds_toArray, List.set_cons_zero, List.set_cons_succ, i64_w, i32_w]
    rfl
  refine one_ (i := 28) (N := some 68) #[true, true, true, true, true, true, true, true, true, true, true, true, true, true, true, true, true, true, true, true, true, true, true, true, true, true, true, true, true, false, false, false, false, false, false, false, false, false, false] rfl rfl (one_of HT_.out (by kernel_rfl)) (by decide) (fun K hK => ?_)
  refine goes_ Tryd.func23 (by kernel_rfl) rfl #[.agg #[.int .i64 4, .string ⟨#[]⟩, .int .i64 0, .slice Aa bsa.length ca]] (by rfl) rfl rfl (by (try simp only [List.map_toArray, List.map_cons, List.map_nil]); first | done | rfl) ?_
  refine (HRS.out _ HBR.out).mono ?_
  rintro e z28 ⟨rfl, hb⟩
  refine ⟨_, rfl, ?_⟩
  have n0_ := Aside0.mk (below_step HBR.out hb)
  clear HBR hb
  have HBR := n0_
  clear n0_
  refine hK.out _ _ ⟨(blk_cell (blk_below HBT.out HBR.out) 0).trans rfl, (blk_cell (blk_below HBT.out HBR.out) 1).trans rfl, (blk_cell (blk_below HBT.out HBR.out) 2).trans rfl, (blk_cell (blk_below HBT.out HBR.out) 3).trans rfl⟩ (fun hHeld => ?_)
  clear hK K
  refine norm_ (a' := ?_) ?_ ?_
  rotate_left
  · show Act.put _ (some 68) _ = _
    simp only [Act.put, List.setIfInBounds_toArray, List.set_cons_zero, List.set_cons_succ, i64_w, i32_w]
    rfl
  refine pure_ (i := 29) (N := some 69) (v := ?_) (a' := ?_) #[true, true, true, true, true, true, true, true, true, true, true, true, true, true, true, true, true, true, true, true, true, true, true, true, true, true, true, true, true, true, false, false, false, false, false, false, false, false, false] rfl rfl (any_of HT_.out (by kernel_rfl)) (fun _ _ _ h => h) (Or.inl ⟨by rfl, ?_⟩) ?_ ?_
  rotate_left
  · intro w'
    go_simp
    try with_reducible rfl
  rotate_left
  · simp only [Act.put, List.setIfInBounds_toArray, List.set_cons_zero, List.set_cons_succ, i64_w, i32_w]
    rfl
  refine pure_ (i := 30) (N := some 70) (v := ?_) (a' := ?_) #[true, true, true, true, true, true, true, true, true, true, true, true, true, true, true, true, true, true, true, true, true, true, true, true, true, true, true, true, true, true, true, false, false, false, false, false, false, false, false] rfl rfl (any_of HT_.out (by kernel_rfl)) (fun _ _ _ h => h) (Or.inl ⟨by rfl, ?_⟩) ?_ ?_
  rotate_left
  · intro w'
    go_simp
    try with_reducible rfl
  rotate_left
  · simp only [Act.put, List.setIfInBounds_toArray, List.set_cons_zero, List.set_cons_succ, i64_w, i32_w]
    rfl
  refine pure_ (i := 31) (N := some 71) (v := ?_) (a' := ?_) #[true, true, true, true, true, true, true, true, true, true, true, true, true, true, true, true, true, true, true, true, true, true, true, true, true, true, true, true, true, true, true, true, false, false, false, false, false, false, false] rfl rfl (any_of HT_.out (by kernel_rfl)) (fun _ _ _ h => h) (Or.inl ⟨by rfl, ?_⟩) ?_ ?_
  rotate_left
  · intro w'
    go_simp
    try with_reducible rfl
  rotate_left
  · simp only [Act.put, List.setIfInBounds_toArray, List.set_cons_zero, List.set_cons_succ, i64_w, i32_w]
    rfl
  refine pure_ (i := 32) (N := some 72) (v := ?_) (a' := ?_) #[true, true, true, true, true, true, true, true, true, true, true, true, true, true, true, true, true, true, true, true, true, true, true, true, true, true, true, true, true, true, true, true, true, false, false, false, false, false, false] rfl rfl (any_of HT_.out (by kernel_rfl)) (fun _ _ _ h => h) (Or.inl ⟨by rfl, ?_⟩) ?_ ?_
  rotate_left
  · intro w'
    go_simp
    try with_reducible rfl
  rotate_left
  · simp only [Act.put, List.setIfInBounds_toArray, List.set_cons_zero, List.set_cons_succ, i64_w, i32_w]
    rfl
  refine take_ (i := 34) (N := some 74) (v := ?_) (a' := ?_) #[true, true, true, true, true, true, true, true, true, true, true, true, true, true, true, true, true, true, true, true, true, true, true, true, true, true, true, true, true, true, true, true, true, false, true, false, false, false, false] rfl rfl (take_ofW HT_.out HW_.out (by kernel_rfl)) (fun _ _ _ h => h) (Or.inl ⟨by rfl, ?_⟩) hHeld ?_ ?_
  rotate_left
  · rintro w' ⟨s0, s1, s2, s3⟩
    go_simp
    try with_reducible rfl
  rotate_left
  · simp only [Act.put, List.setIfInBounds_toArray, List.set_cons_zero, List.set_cons_succ, i64_w, i32_w]
    rfl
  refine one_ (i := 33) (N := some 73) #[true, true, true, true, true, true, true, true, true, true, true, true, true, true, true, true, true, true, true, true, true, true, true, true, true, true, true, true, true, true, true, true, true, true, true, false, false, false, false] rfl rfl (one_of HT_.out (by kernel_rfl)) (by decide) (fun K hK => ?_)
  refine goes_ Tryd.func17 (by kernel_rfl) rfl #[.pointer pa] (by rfl) rfl rfl (by (try simp only [List.map_toArray, List.map_cons, List.map_nil]); first | done | rfl) ?_
  refine (HWO.out _ HBR.out).mono ?_
  rintro e z33 ⟨rfl, hb⟩
  refine ⟨_, rfl, ?_⟩
  have n0_ := Aside0.mk (below_step HBR.out hb)
  clear HBR hb
  have HBR := n0_
  clear n0_
  refine hK.out _ _ ⟨(blk_cell (blk_below HBT.out HBR.out) 0).trans rfl, (blk_cell (blk_below HBT.out HBR.out) 1).trans rfl, (blk_cell (blk_below HBT.out HBR.out) 2).trans rfl, (blk_cell (blk_below HBT.out HBR.out) 3).trans rfl⟩ (fun hHeld => ?_)
  clear hK K
  refine norm_ (a' := ?_) ?_ ?_
  rotate_left
  · show Act.put _ (some 73) _ = _
    simp only [Act.put, List.setIfInBounds_toArray, List.set_cons_zero, List.set_cons_succ, i64_w, i32_w]
    rfl
  refine one_ (i := 35) (N := some 75) #[true, true, true, true, true, true, true, true, true, true, true, true, true, true, true, true, true, true, true, true, true, true, true, true, true, true, true, true, true, true, true, true, true, true, true, true, false, false, false] rfl rfl (one_of HT_.out (by kernel_rfl)) (by decide) (fun K hK => ?_)
  refine goes_ Tryd.func24 (by kernel_rfl) rfl #[.agg #[.int .i64 4, .string ⟨#[]⟩, .int .i64 0, .slice Aa bsa.length ca]] (by rfl) rfl rfl (by (try simp only [List.map_toArray, List.map_cons, List.map_nil]); first | done | rfl) ?_
  refine (HRO.out _ HBR.out).mono ?_
  rintro e z35 ⟨rfl, hb⟩
  refine ⟨_, rfl, ?_⟩
  have n0_ := Aside0.mk (below_step HBR.out hb)
  clear HBR hb
  have HBR := n0_
  clear n0_
  refine hK.out _ _ ⟨(blk_cell (blk_below HBT.out HBR.out) 0).trans rfl, (blk_cell (blk_below HBT.out HBR.out) 1).trans rfl, (blk_cell (blk_below HBT.out HBR.out) 2).trans rfl, (blk_cell (blk_below HBT.out HBR.out) 3).trans rfl⟩ (fun hHeld => ?_)
  clear hK K
  refine norm_ (a' := ?_) ?_ ?_
  rotate_left
  · show Act.put _ (some 75) _ = _
    simp only [Act.put, List.setIfInBounds_toArray, List.set_cons_zero, List.set_cons_succ, i64_w, i32_w]
    rfl
  refine pure_ (i := 36) (N := some 76) (v := ?_) (a' := ?_) #[true, true, true, true, true, true, true, true, true, true, true, true, true, true, true, true, true, true, true, true, true, true, true, true, true, true, true, true, true, true, true, true, true, true, true, true, true, false, false] rfl rfl (any_of HT_.out (by kernel_rfl)) (fun _ _ _ h => h) (Or.inl ⟨by rfl, ?_⟩) ?_ ?_
  rotate_left
  · intro w'
    go_simp
    try with_reducible rfl
  rotate_left
  · simp only [Act.put, List.setIfInBounds_toArray, List.set_cons_zero, List.set_cons_succ, i64_w, i32_w]
    rfl
  refine pure_ (i := 37) (N := some 77) (v := ?_) (a' := ?_) #[true, true, true, true, true, true, true, true, true, true, true, true, true, true, true, true, true, true, true, true, true, true, true, true, true, true, true, true, true, true, true, true, true, true, true, true, true, true, false] rfl rfl (any_of HT_.out (by kernel_rfl)) (fun _ _ _ h => h) (Or.inl ⟨by rfl, ?_⟩) ?_ ?_
  rotate_left
  · intro w'
    go_simp
    try with_reducible rfl
  rotate_left
  · simp only [Act.put, List.setIfInBounds_toArray, List.set_cons_zero, List.set_cons_succ, i64_w, i32_w]
    rfl
  refine pure_ (i := 38) (N := some 2) (v := ?_) (a' := ?_) #[true, true, true, true, true, true, true, true, true, true, true, true, true, true, true, true, true, true, true, true, true, true, true, true, true, true, true, true, true, true, true, true, true, true, true, true, true, true, true] rfl rfl (any_of HT_.out (by kernel_rfl)) (fun _ _ _ h => h) (Or.inl ⟨by rfl, ?_⟩) ?_ ?_
  rotate_left
  · intro w'
    go_simp
    try with_reducible rfl
  rotate_left
  · simp only [Act.put, List.setIfInBounds_toArray, List.set_cons_zero, List.set_cons_succ, i64_w, i32_w]
    rfl
  refine done_ (done_of HT_.out (by kernel_rfl)) ?_
  clear hHeld
  go_wp2
  go_ret
  exact ⟨rfl, below_step HB.out HBR.out⟩
end Go.Proofs.YtjgaikmejccdkaaDoor.PDoc
