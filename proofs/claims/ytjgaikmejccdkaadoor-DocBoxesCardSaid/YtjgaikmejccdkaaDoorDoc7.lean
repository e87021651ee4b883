/- DocJoins, walked. -/
import Derived.Test.YtjgaikmejccdkaaDoorDocN
namespace Go.Proofs.YtjgaikmejccdkaaDoor.PDoc
open Go.RowKit Go.Proofs.YtjgaikmejccdkaaDoorW.PrintWords Go.Proofs.YtjgaikmejccdkaaDoorW.PrintLast Go.Proofs.YtjgaikmejccdkaaDoorW.PrintMore
set_option linter.unusedVariables false
set_option linter.unusedSimpArgs false
theorem lit2 {w : World} {v1 v2 : Value} {d1 d2 : D} (h1 : DV w v1 d1) (h2 : DV w v2 d2) : kD.C (w.alloc (.cells #[v1, v2] 24)) (some ⟨w.heap.size, 0, none⟩) 2 [d1, d2] := by
  have hb := heap_alloc_new w (.cells #[v1, v2] 24)
  have hB : Below w.heap.size w (w.alloc (.cells #[v1, v2] 24)) := below_alloc (Below.refl _ _) _
  refine ⟨rfl, by omega, fun _ => ⟨_, rfl, fun j p hp => ?_⟩⟩
  have hv : ∃ v, (#[v1, v2] : Array Value)[j]? = some v ∧ DV w v p := by
    rcases j with _ | _ | j
    · obtain rfl : d1 = p := by simpa using hp
      exact ⟨v1, rfl, h1⟩
    · obtain rfl : d2 = p := by simpa using hp
      exact ⟨v2, rfl, h2⟩
    · simp at hp
  obtain ⟨v, hv, hd⟩ := hv
  refine ⟨[v], rfl, hd.below hB, fun i u hu => ?_⟩
  cases i with
  | succ i => simp at hu
  | zero =>
    obtain rfl : v = u := by simpa using hu
    show World.cell? _ ((⟨w.heap.size, 0, none⟩ : Addr).add (j * 1 + 0)) = _
    rw [add_plain]
    exact (blk_cell hb _).trans (by simpa using hv)
theorem two_all {a b : D} (ha : Nn a) (hb : Nn b) : ∀ d ∈ [a, b], Nn d := by
  intro d hd
  simp only [List.mem_cons, List.not_mem_nil, or_false] at hd
  rcases hd with rfl | rfl
  · exact ha
  · exact hb
theorem wds_2 (a b : D) : wds [a, b] = wd a + wd b := by simp [wds]
theorem szs_2 (a b : D) : szs [a, b] = sz a + sz b := by simp [szs]
theorem hds_2 (a b : D) : hds [a, b] = (hd a || hd b) := by simp [hds]
/-- What is known of a box that the maker makes. -/
structure Mk (d : D) : Prop where
  nn : Nn d
  sm : Sm d
  w : wd d ≤ 100000
  s : sz d ≤ 100000
  f : (fl [32] d).length ≤ 100000
theorem Mk.wo {d : D} (h : Mk d) : (fl [] d).length ≤ 100000 := Nat.le_trans (fl_le [32] _ d (Nat.le_refl _)) h.f
theorem Ok.box4 {i : Nat} {bs : List Bo} (h : Ok i bs) (hi : i ≤ 60) : Mk (bD 4 0 (bs.map dB)) := by
  have h1 := h.bd.w
  have h2 := h.bd.s
  have h3 := h.bd.f
  have h4 := h.bd.n
  refine ⟨nn_b h.bd.nn, b_sm (by omega) h.bd.sm, ?_, ?_, ?_⟩
  · show wds _ ≤ _; omega
  · show 1 + szs _ ≤ _; omega
  · rw [fl_b _ _ _ _ (by decide)]; omega
theorem str_app (a b : List UInt8) : (⟨(a ++ b).toArray⟩ : ByteArray) = ⟨a.toArray⟩ ++ ⟨b.toArray⟩ := by
  apply ByteArray.ext
  simp [ByteArray.append_eq]
set_option maxHeartbeats 4000000 in
set_option maxRecDepth 100000 in
theorem DocJoins (A : Option Addr) (c : Nat) (k : List Ac) (A' : Option Addr) (c' : Nat) (l : List Ac) (by_ : Int) (w : World) (hM : Mx w) (hk : kA.C w A k.length k) (hkc : k.length ≤ c) (hl : kA.C w A' l.length l) (hlc : l.length ≤ c') :
    Calls Tryd.prog 3 #[.slice A k.length c, .slice A' l.length c', .int .i64 by_] w fun e w' => e = .returned (.bool true) ∧ Below w.heap.size w w' := by
  have HA := Aside0.mk (awake24 w hM)
  have HK := Aside0.mk (fun (u : World) (hb : Below w.heap.size w u) => Make_ A c k u (hM.below hb hM.pos) (Kd.C_below hk hb) hkc)
  have HL := Aside0.mk (fun (u : World) (hb : Below w.heap.size w u) => Make_ A' c' l u (hM.below hb hM.pos) (Kd.C_below hl hb) hlc)
  clear hM hk hkc hl hlc
  go_enter Tryd.func3, Tryd.ntmps3
  go_upto_region 5 with (first | (go_at_call 9; refine HA.out.mono ?_; clear HA; rintro e w1 ⟨rfl, hb⟩; have HB := Aside0.mk hb; clear hb) | (go_at_call 10; (with_reducible refine (HK.out _ HB.out).mono ?_); clear HK; rintro e w1 ⟨va, bsa, Aa, ca, rfl, hda, -, -, hok, hb⟩; have hpa := hda.ptr; obtain ⟨pa, rfl⟩ := hpa; replace hok := hok.box4 (Nat.le_refl _); generalize bD 4 0 (List.map dB bsa) = da at hda hok; have HDa := Aside0.mk hda; have HOa := Aside0.mk hok; have HBa := Aside0.mk (Below.refl w1.heap.size w1); have n0_ := Aside0.mk (below_step HB.out hb); clear HB; have HB := n0_; clear n0_; clear hb hda hok) | (go_at_call 10; refine (HL.out _ (below_alloc HB.out _)).mono ?_; clear HL; rintro e w2 ⟨vb, bsb, Ab, cb, rfl, hdb, -, -, hok, hb⟩; have hpb := hdb.ptr; obtain ⟨pb, rfl⟩ := hpb; replace hok := hok.box4 (Nat.le_refl _); generalize bD 4 0 (List.map dB bsb) = db at hdb hok; have HDb := Aside0.mk hdb; have HOb := Aside0.mk hok; have n1_ := Aside0.mk (HDa.out.below (below_then (below_alloc (Below.refl _ _) _) (below_alloc (Below.refl _ _) _).size hb)); have n0_ := Aside0.mk (below_step (below_alloc HB.out _) hb); clear HDa HB hb hdb hok; have HB := n0_; have HDa := n1_; clear n0_ n1_))
  have hbx := below_alloc (Below.refl w2.heap.size w2) (.cells #[.int .i64 4, .string ⟨#[]⟩, .int .i64 0, .slice Ab bsb.length cb] 27)
  have n0_ := Aside0.mk (HDa.out.below hbx)
  have n1_ := Aside0.mk (HDb.out.below hbx)
  have n2_ := Aside0.mk (below_step HB.out hbx)
  clear HDa HDb HB hbx
  have HDa := n0_
  have HDb := n1_
  have HB := n2_
  clear n0_ n1_ n2_
  generalize w2.alloc (.cells #[.int .i64 4, .string ⟨#[]⟩, .int .i64 0, .slice Ab bsb.length cb] 27) = w9 at *
  go_upto_region 6 with (go_at_call 11; refine (Cat_ _ 2 _ _ (lit2 HDa.out HDb.out) (Nat.le_refl _) (by simp) (two_all HOa.out.nn HOb.out.nn) (by have h1 := HOa.out.w; have h2 := HOb.out.w; rw [wds_2]; omega) (by have h1 := HOa.out.s; have h2 := HOb.out.s; rw [szs_2]; omega)).mono ?_; rintro e w3 ⟨v3, rfl, hd, hb⟩; have hp3 := hd.ptr; obtain ⟨p3, rfl⟩ := hp3; have hb' := below_then (below_alloc (Below.refl _ _) _) (below_alloc (Below.refl _ _) _).size hb; have HD3 := Aside0.mk hd; have n1_ := Aside0.mk (HDa.out.below hb'); have n2_ := Aside0.mk (HDb.out.below hb'); have n0_ := Aside0.mk (below_step HB.out hb'); clear HDa HDb HB hb hd hb'; have HB := n0_; have HDa := n1_; have HDb := n2_; clear n0_ n1_ n2_)
  have HO3 := Aside0.mk (show Nn (bD 4 0 [da, db]) from nn_b (two_all HOa.out.nn HOb.out.nn))
  obtain ⟨xa, hxa⟩ : ∃ x, x = wd da := ⟨_, rfl⟩
  obtain ⟨xb, hxb⟩ : ∃ x, x = wd db := ⟨_, rfl⟩
  obtain ⟨sa, hsa⟩ : ∃ x, x = sz da := ⟨_, rfl⟩
  obtain ⟨sb, hsb⟩ : ∃ x, x = sz db := ⟨_, rfl⟩
  obtain ⟨ta, hta⟩ : ∃ x, x = woT da := ⟨_, rfl⟩
  obtain ⟨tb, htb⟩ : ∃ x, x = woT db := ⟨_, rfl⟩
  have b1 : 0 ≤ xa := by rw [hxa]; exact HOa.out.nn.w
  have b2 : 0 ≤ xb := by rw [hxb]; exact HOb.out.nn.w
  have b3 : xa ≤ 100000 := by rw [hxa]; exact HOa.out.w
  have b4 : xb ≤ 100000 := by rw [hxb]; exact HOb.out.w
  have b5 : 0 ≤ sa := by rw [hsa]; exact HOa.out.nn.s
  have b6 : 0 ≤ sb := by rw [hsb]; exact HOb.out.nn.s
  have b7 : sa ≤ 100000 := by rw [hsa]; exact HOa.out.s
  have b8 : sb ≤ 100000 := by rw [hsb]; exact HOb.out.s
  have b9 : ta.size ≤ 100000 := by rw [hta]; have := HOa.out.wo; show (fl [] da).toArray.size ≤ _; rw [List.size_toArray]; exact this
  have b10 : tb.size ≤ 100000 := by rw [htb]; have := HOb.out.wo; show (fl [] db).toArray.size ≤ _; rw [List.size_toArray]; exact this
  have HSm := Aside0.mk (show Sm (bD 4 0 [da, db]) from b_sm (by simp) (by intro d hd; simp only [List.mem_cons, List.not_mem_nil, or_false] at hd; rcases hd with rfl | rfl; exact HOa.out.sm; exact HOb.out.sm))
  have HF3 := Aside0.mk (show (fl [32] (bD 4 0 [da, db])).length ≤ 1000000 from by rw [fl_b _ _ _ _ (by decide)]; simp only [flL, List.length_append, List.length_nil]; have h1 := HOa.out.f; have h2 := HOb.out.f; omega)
  have HWo3 := Aside0.mk (show woT (bD 4 0 [da, db]) = ta ++ tb from by rw [hta, htb]; unfold woT; rw [fl_b _ _ _ _ (by decide), ← str_app]; simp [flL])
  have HWd3 := Aside0.mk (show wd (bD 4 0 [da, db]) = xa + xb from by rw [hxa, hxb]; exact wds_2 da db)
  have HSz3 := Aside0.mk (show sz (bD 4 0 [da, db]) = 1 + sa + sb from by rw [hsa, hsb]; show 1 + szs [da, db] = _; rw [szs_2]; omega)
  have HH3 := Aside0.mk (show hd (bD 4 0 [da, db]) = (hd da || hd db) from hds_2 da db)
  have HXA := Aside0.mk (And.intro hxa (And.intro hxb (And.intro hsa (And.intro hsb (And.intro hta htb)))))
  generalize bD 4 0 [da, db] = d3 at HD3 HO3 HSm HF3 HWo3 HWd3 HSz3 HH3
  clear hxa hxb hsa hsb hta htb
  have HJ := Aside0.mk (Below.refl w3.heap.size w3)
  have WA := Aside0.mk (fun (u : World) (hb : Below w3.heap.size w3 u) => (show Calls Tryd.prog 12 #[.pointer pa] u fun e w' => e = .returned (.tuple #[.int .i64 (if hd da = true then 0 else xa), .bool (!hd da)]) ∧ w' = u from by rw [HXA.out.1]; exact Width_ (HDa.out.below hb)))
  have WB := Aside0.mk (fun (u : World) (hb : Below w3.heap.size w3 u) => (show Calls Tryd.prog 12 #[.pointer pb] u fun e w' => e = .returned (.tuple #[.int .i64 (if hd db = true then 0 else xb), .bool (!hd db)]) ∧ w' = u from by rw [HXA.out.2.1]; exact Width_ (HDb.out.below hb)))
  have W3 := Aside0.mk (fun (u : World) (hb : Below w3.heap.size w3 u) => (show Calls Tryd.prog 12 #[.pointer p3] u fun e w' => e = .returned (.tuple #[.int .i64 (if (hd da || hd db) = true then 0 else xa + xb), .bool (!(hd da || hd db))]) ∧ w' = u from by rw [← HWd3.out, ← HH3.out]; exact Width_ (HD3.out.below hb)))
  have F3 := Aside0.mk (fun (u : World) (hb : Below w3.heap.size w3 u) => (show Calls Tryd.prog 13 #[.pointer p3] u fun e w' => e = .returned (.tuple #[.string (if (hd da || hd db) = true then ⟨#[]⟩ else flT d3), .bool (!(hd da || hd db))]) ∧ Below u.heap.size u w' from by rw [← HH3.out]; exact Flat_ (HD3.out.below hb) HSm.out (by have := HF3.out; omega)))
  have N3 := Aside0.mk (fun (u : World) (hb : Below w3.heap.size w3 u) => Nest_ by_ (HD3.out.below hb) HO3.out (by rw [HWd3.out]; omega) (by rw [HSz3.out]; omega))
  have G3 := Aside0.mk (fun (u : World) (v : Value) (h : DV u v (bD 5 (clp by_) [d3])) => Group_ h (nn_b (by intro d hd; rw [List.mem_singleton.1 hd]; exact HO3.out)) (by show wds [d3] ≤ _; rw [wds_1, HWd3.out]; omega) (by show 1 + szs [d3] ≤ _; rw [szs_1, HSz3.out]; omega))
  have FG := Aside0.mk (fun (u : World) (v : Value) (h : DV u v (bD 6 0 [bD 5 (clp by_) [d3]])) => (show Calls Tryd.prog 13 #[v] u fun e w' => e = .returned (.tuple #[.string (if (hd da || hd db) = true then ⟨#[]⟩ else flT d3), .bool (!(hd da || hd db))]) ∧ Below u.heap.size u w' from by
    have e1 : fl [32] (bD 6 0 [bD 5 (clp by_) [d3]]) = fl [32] d3 := by rw [fl_b _ _ _ _ (by decide)]; simp only [flL, List.append_nil]; rw [fl_b _ _ _ _ (by decide)]; simp only [flL, List.append_nil]
    have e2 : flT (bD 6 0 [bD 5 (clp by_) [d3]]) = flT d3 := by unfold flT; rw [e1]
    have e3 : hd (bD 6 0 [bD 5 (clp by_) [d3]]) = (hd da || hd db) := by show hds [bD 5 (clp by_) [d3]] = _; rw [hds_1]; show hds [d3] = _; rw [hds_1]; exact HH3.out
    rw [← e2, ← e3]
    exact Flat_ h (b_sm (by simp) (by intro d hd; rw [List.mem_singleton.1 hd]; exact b_sm (by simp) (by intro d hd; rw [List.mem_singleton.1 hd]; exact HSm.out))) (by rw [e1]; have := HF3.out; omega)))
  have SA := Aside0.mk (fun (u : World) (hb : Below w3.heap.size w3 u) => (show Calls Tryd.prog 16 #[.pointer pa] u fun e w' => e = .returned (.int .i64 sa) ∧ Below u.heap.size u w' from by rw [HXA.out.2.2.1]; exact Size_ (HDa.out.below hb)))
  have SB := Aside0.mk (fun (u : World) (hb : Below w3.heap.size w3 u) => (show Calls Tryd.prog 16 #[.pointer pb] u fun e w' => e = .returned (.int .i64 sb) ∧ Below u.heap.size u w' from by rw [HXA.out.2.2.2.1]; exact Size_ (HDb.out.below hb)))
  have S3 := Aside0.mk (fun (u : World) (hb : Below w3.heap.size w3 u) => (show Calls Tryd.prog 16 #[.pointer p3] u fun e w' => e = .returned (.int .i64 (1 + sa + sb)) ∧ Below u.heap.size u w' from by rw [← HSz3.out]; exact Size_ (HD3.out.below hb)))
  have OA := Aside0.mk (fun (u : World) (hb : Below w3.heap.size w3 u) => (show Calls Tryd.prog 17 #[.pointer pa] u fun e w' => e = .returned (.string ta) ∧ Below u.heap.size u w' from by rw [HXA.out.2.2.2.2.1]; exact Words_ (HDa.out.below hb) HOa.out.sm (by have := HOa.out.wo; omega)))
  have OB := Aside0.mk (fun (u : World) (hb : Below w3.heap.size w3 u) => (show Calls Tryd.prog 17 #[.pointer pb] u fun e w' => e = .returned (.string tb) ∧ Below u.heap.size u w' from by rw [HXA.out.2.2.2.2.2]; exact Words_ (HDb.out.below hb) HOb.out.sm (by have := HOb.out.wo; omega)))
  have O3 := Aside0.mk (fun (u : World) (hb : Below w3.heap.size w3 u) => (show Calls Tryd.prog 17 #[.pointer p3] u fun e w' => e = .returned (.string (ta ++ tb)) ∧ Below u.heap.size u w' from by rw [← HWo3.out]; exact Words_ (HD3.out.below hb) HSm.out (by have h1 := fl_le [32] _ d3 (Nat.le_refl _); have h2 := HF3.out; omega)))
  generalize flT d3 = t3 at F3 FG
  generalize hd da = ha at WA W3 F3 FG
  generalize hd db = hb at WB W3 F3 FG
  clear HDa HDb HD3 HO3 HSm HF3 HWo3 HWd3 HSz3 HH3 HXA HOa HOb
  cases ha <;> cases hb
  all_goals (
  go_wp2_with (first | (go_at_call 12; (with_reducible refine (WA.out _ HJ.out).mono ?_); rintro e w4 ⟨rfl, hq⟩; obtain rfl := hq.symm; clear hq) | (go_at_call 12; (with_reducible refine (WB.out _ HJ.out).mono ?_); rintro e w4 ⟨rfl, hq⟩; obtain rfl := hq.symm; clear hq) | (go_at_call 12; (with_reducible refine (W3.out _ HJ.out).mono ?_); rintro e w4 ⟨rfl, hq⟩; obtain rfl := hq.symm; clear hq) | (go_at_call 13; (with_reducible refine (F3.out _ HJ.out).mono ?_); rintro e w4 ⟨rfl, hb⟩; have n0_ := Aside0.mk (below_step HB.out hb); have n1_ := Aside0.mk (below_step HJ.out hb); clear HB HJ; have HB := n0_; have HJ := n1_; clear n0_ n1_; clear hb) | (go_at_call 15; refine (N3.out _ HJ.out).mono ?_; rintro e w4 ⟨v4, rfl, hd, hb⟩; have hp4 := hd.ptr; obtain ⟨p4, rfl⟩ := hp4; have HN4 := Aside0.mk hd; clear hd; have n0_ := Aside0.mk (below_step HB.out hb); have n1_ := Aside0.mk (below_step HJ.out hb); clear HB HJ; have HB := n0_; have HJ := n1_; clear n0_ n1_; clear hb) | (go_at_call 14; refine (G3.out _ _ HN4.out).mono ?_; rintro e w5 ⟨v5, rfl, hd, hb⟩; have hp5 := hd.ptr; obtain ⟨p5, rfl⟩ := hp5; have HG5 := Aside0.mk hd; clear hd; have n0_ := Aside0.mk (below_step HB.out hb); have n1_ := Aside0.mk (below_step HJ.out hb); clear HB HJ; have HB := n0_; have HJ := n1_; clear n0_ n1_; clear hb) | (go_at_call 13; (with_reducible refine (FG.out _ _ HG5.out).mono ?_); rintro e w4 ⟨rfl, hb⟩; have n0_ := Aside0.mk (below_step HB.out hb); have n1_ := Aside0.mk (below_step HJ.out hb); clear HB HJ; have HB := n0_; have HJ := n1_; clear n0_ n1_; clear hb) | (go_at_call 16; (with_reducible refine (SA.out _ HJ.out).mono ?_); rintro e w4 ⟨rfl, hb⟩; have n0_ := Aside0.mk (below_step HB.out hb); have n1_ := Aside0.mk (below_step HJ.out hb); clear HB HJ; have HB := n0_; have HJ := n1_; clear n0_ n1_; clear hb) | (go_at_call 16; (with_reducible refine (SB.out _ HJ.out).mono ?_); rintro e w4 ⟨rfl, hb⟩; have n0_ := Aside0.mk (below_step HB.out hb); have n1_ := Aside0.mk (below_step HJ.out hb); clear HB HJ; have HB := n0_; have HJ := n1_; clear n0_ n1_; clear hb) | (go_at_call 16; (with_reducible refine (S3.out _ HJ.out).mono ?_); rintro e w4 ⟨rfl, hb⟩; have n0_ := Aside0.mk (below_step HB.out hb); have n1_ := Aside0.mk (below_step HJ.out hb); clear HB HJ; have HB := n0_; have HJ := n1_; clear n0_ n1_; clear hb) | (go_at_call 17; (with_reducible refine (OA.out _ HJ.out).mono ?_); rintro e w4 ⟨rfl, hb⟩; have n0_ := Aside0.mk (below_step HB.out hb); have n1_ := Aside0.mk (below_step HJ.out hb); clear HB HJ; have HB := n0_; have HJ := n1_; clear n0_ n1_; clear hb) | (go_at_call 17; (with_reducible refine (OB.out _ HJ.out).mono ?_); rintro e w4 ⟨rfl, hb⟩; have n0_ := Aside0.mk (below_step HB.out hb); have n1_ := Aside0.mk (below_step HJ.out hb); clear HB HJ; have HB := n0_; have HJ := n1_; clear n0_ n1_; clear hb) | (go_at_call 17; (with_reducible refine (O3.out _ HJ.out).mono ?_); rintro e w4 ⟨rfl, hb⟩; have n0_ := Aside0.mk (below_step HB.out hb); have n1_ := Aside0.mk (below_step HJ.out hb); clear HB HJ; have HB := n0_; have HJ := n1_; clear n0_ n1_; clear hb))
  go_ret
  exact ⟨rfl, HB.out⟩
  )
end Go.Proofs.YtjgaikmejccdkaaDoor.PDoc
