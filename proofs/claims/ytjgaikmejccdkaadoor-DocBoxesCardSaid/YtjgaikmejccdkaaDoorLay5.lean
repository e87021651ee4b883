/- Layer 25: a box, laid to its end. -/
import Derived.Test.YtjgaikmejccdkaaDoorLay4
namespace Go.Proofs.YtjgaikmejccdkaaDoor.PDoc
open Go.RowKit Go.Proofs.YtjgaikmejccdkaaDoorW.PrintWords Go.Proofs.YtjgaikmejccdkaaDoorW.PrintLast Go.Proofs.YtjgaikmejccdkaaDoorW.PrintMore
set_option linter.unusedVariables false
set_option linter.unusedSimpArgs false
/-- How great a box may be. -/
structure Pb (d : D) : Prop where
  wf : Wf d
  i : ib d ≤ 100000
  n : nb d ≤ 100000
  t : tb d ≤ 1000000000
def LS0 : LS := ⟨[], 0, 0⟩
/-- A box's text. -/
def prt (W : Int) (d : D) : ByteArray := ⟨(L1 W d 0 false LS0).x.toArray⟩
theorem Pb.lb {d : D} (h : Pb d) : Lb (ib d) (ib d + tb d) ((ib d + 1) * nb d + tb d) [(d, 0, false)] LS0 := by
  have e1 : nT [(d, 0, false)] = nb d := nT_one _
  have e2 : tT [(d, 0, false)] = tb d := tT_one _
  refine ⟨?_, Int.le_refl 0, ?_, Nat.zero_le _, ?_, ?_⟩
  · intro t ht
    obtain rfl := List.mem_singleton.1 ht
    exact ⟨h.wf, by show 0 + ib d ≤ ib d; omega⟩
  · rw [e2]; show (0 : Int) + _ ≤ _; omega
  · rw [e1, e2]; show 0 + 0 + _ + _ ≤ _; omega
  · rw [e2]; omega
theorem Pb.x {d : D} (h : Pb d) : (ib d + 1) * nb d + tb d ≤ 100000000000 := by
  have h1 := h.i
  have h2 := h.n
  have h3 := h.t
  have h4 : (ib d + 1) * nb d ≤ 100001 * 100000 := Nat.mul_le_mul (by omega) h2
  omega
/-- The task that is on top. -/
theorem at_top {w0 w : World} {base : Nat} {ok : Nat → Prop} {v : Value} {ts : List Tk} {t : Tk} (h : (Kd.fixed kT w0).R 87 w base ok v (ts ++ [t])) : ∃ ad cap u, v = .slice (some ad) (ts.length + 1) cap ∧ ts.length + 1 ≤ cap ∧ DV w0 u t.1 ∧ w.cell? (ad.add (ts.length * 3)) = some u ∧ w.cell? ⟨(ad.add (ts.length * 3)).block, (ad.add (ts.length * 3)).off + 1, none⟩ = some (.int .i64 (t.2.1 : Int)) ∧ w.cell? ⟨(ad.add (ts.length * 3)).block, (ad.add (ts.length * 3)).off + 2, none⟩ = some (.bool t.2.2) := by
  obtain ⟨A, c, e, hl, hC⟩ := Kd.R_reads h
  have hlen : (ts ++ [t]).length = ts.length + 1 := by simp
  rw [hlen] at e hl hC
  obtain ⟨ad, cs, e2, hl1, hK, hc⟩ := Kd.C_get hC (none, 0, false) (ts.length : Int) (by omega) (by omega)
  rw [Int.toNat_natCast] at hK hc
  have e3 : (ts ++ [t]).getD ts.length (none, 0, false) = t := by simp [List.getD]
  rw [e3] at hK
  obtain ⟨u, hcs, hu⟩ := kT_open hK
  subst hcs
  have hc2 : ∀ j u', [u, Value.int .i64 (t.2.1 : Int), Value.bool t.2.2][j]? = some u' → w.cell? (ad.add (ts.length * 3 + j)) = some u' := hc
  refine ⟨ad, c, u, by rw [e, e2], hl, hu, ?_, ?_, ?_⟩
  · have := hc2 0 _ rfl; exact this
  · rw [← add_field _ _ 1 (by omega)]; exact hc2 1 _ rfl
  · rw [← add_field _ _ 2 (by omega)]; exact hc2 2 _ rfl
/-- The task on top is taken away. -/
theorem top_off {w0 w : World} {base : Nat} {ok : Nat → Prop} {ad : Addr} {c : Nat} {ts : List Tk} {t : Tk} (h : (Kd.fixed kT w0).R 87 w base ok (.slice (some ad) (ts.length + 1) c) (ts ++ [t])) : (Kd.fixed kT w0).R 87 w base ok (.slice (some ad) ts.length c) ts := by
  have := Kd.R_take (m := ts.length) h (by simp)
  rwa [List.take_left'] at this
  rfl
set_option maxHeartbeats 8000000 in
set_option maxRecDepth 100000 in
theorem printed_ {w : World} {v : Value} {d : D} (hd : DV w v d) (hp : Pb d) (W : Int) (hW : 0 ≤ W) (hW2 : W ≤ 1000000000000) : Calls Tryd.prog 43 #[v, .int .i64 W] w fun e w' => e = .returned (.string (prt W d)) ∧ Below w.heap.size w w' := by
  obtain ⟨pv, rfl⟩ := hd.ptr
  have HD := Aside0.mk hd
  have HPB := Aside0.mk hp
  have HWW := Aside0.mk (And.intro hW hW2)
  obtain ⟨wa, hwa⟩ : ∃ wa, w.alloc (.cells #[.pointer pv, .int .i64 0, .bool false] 87) = wa := ⟨_, rfl⟩
  obtain ⟨wb, hwb⟩ : ∃ wb, wa.alloc (.cells #[.pointer none, .slice none 0 0, .int .i64 W, .int .i64 0, .int .i64 0, .slice (some ⟨w.heap.size, 0, none⟩) 1 1, .func (.func 45) #[] #[]] 90) = wb := ⟨_, rfl⟩
  have HS := Aside0.mk (show PS w wa.heap.size W LS0 [(d, 0, false)] (fun _ => True) wb from by
    have h1 : Below w.heap.size w wa := hwa ▸ below_alloc (Below.refl _ _) _
    have h2 : Below wa.heap.size wa wb := hwb ▸ below_alloc (Below.refl _ _) _
    have hR : (Kd.fixed kT w).R 87 wa w.heap.size (fun _ => True) (.slice (some ⟨w.heap.size, 0, none⟩) 1 1) [(d, 0, false)] := by
      refine ⟨fun _ _ => trivial, [.pointer pv, .int .i64 0, .bool false], ?_, ?_⟩
      · have := World.ownsRow_lit (base := w.heap.size) (e := 87) (size := 3) w #[.pointer pv, .int .i64 0, .bool false] 1 (Nat.le_refl _) (by decide) rfl
        rw [hwa] at this
        exact this
      · refine ⟨rfl, fun j p hj => ?_⟩
        cases j with
        | zero =>
          obtain rfl : (d, 0, false) = p := by simpa using hj
          exact kT_mk hd
        | succ j => simp at hj
    refine ⟨⟨.pointer none, .slice none 0 0, _, ⟨h1.size, Or.inl rfl, hwb ▸ blk_new wa _, own_nil _ _ _ _, by simp [Value.ownBlock]⟩, Kd.R_below hR h2⟩, below_then h1 h1.size h2⟩)
  clear hd hp hW hW2
  go_enter Tryd.func43, Tryd.ntmps43
  go_upto_region 2 with (fail)
  clear hwa hwb
  generalize wa.heap.size = g at HS ⊢
  go_loopg [] (nT [(d, 0, false)] + 1) (fun kq w' => ∃ (q : LS) (ts : List Tk), Aside0 (PS w g W q ts (fun _ => True) w') ∧ Aside0 (run W ts q = L1 W d 0 false LS0 ∧ Lb (ib d) (ib d + tb d) ((ib d + 1) * nb d + tb d) ts q ∧ nT ts ≤ nb d ∧ nT ts + 1 ≤ kq))
  case atStart => exact ⟨_, _, HS, ⟨rfl, HPB.out.lb, Nat.le_of_eq (nT_one _), Nat.le_refl _⟩⟩
  case round =>
    clear HS
    obtain ⟨q, ts, HS, HF⟩ := hrel
    rcases List.eq_nil_or_concat ts with rfl | ⟨ts', t, rfl⟩
    · obtain ⟨⟨pp, vv, td, hp, hr⟩, hb⟩ := HS.out
      obtain ⟨A, c, rfl, -, -⟩ := Kd.R_reads hr
      have k5 := hp.cells.2.2.2.1
      have HP := Aside0.mk hp
      have HB := Aside0.mk hb
      clear hp hb hr HS
      go_wp2_with (go_at_call 36; refine (pst HP.out HB.out.size).mono ?_; clear HP; rintro e w2 ⟨rfl, hb⟩; have n0_ := Aside0.mk (HB.out.trans hb); clear HB hb k5; have HB := n0_; clear n0_)
      go_ret
      refine ⟨?_, HB.out⟩
      have h9 := HF.out.1
      unfold prt
      rw [← h9]
      rfl
    · rw [List.concat_eq_append] at HS HF
      obtain ⟨⟨pp, vv, td, hp, hr⟩, hb⟩ := HS.out
      obtain ⟨ad, cap, u, rfl, hcap, hu, hc0, hc1, hc2⟩ := at_top hr
      obtain ⟨m, hm⟩ : ∃ m, m = ts'.length + 1 := ⟨_, rfl⟩
      rw [← hm] at hr hcap hp
      have k5 := hp.cells.2.2.2.1
      have d9 : decide ((0 : Int) < (m : Int)) = true := decide_eq_true (by omega)
      have hcap2 : m ≤ 1000000000 := by have h1 := HF.out.2.2.1; have h2 := HPB.out.n; have h3 := nT_len (ts' ++ [t]); rw [List.length_append, List.length_singleton] at h3; omega
      have hw : wrap64 ((m : Int) - 1) = (ts'.length : Int) := by unfold wrap64; omega
      have hlt : ts'.length < m := by omega
      have HP := Aside0.mk hp
      have HR := Aside0.mk hr
      have HB := Aside0.mk hb
      have HU := Aside0.mk hu
      obtain ⟨pu, rfl⟩ := hu.ptr
      clear hp hb hr hu HS
      go_upto_region 5 with (fail)
      have HN := Aside0.mk (blk_new wr (.cells #[.pointer pu, .int .i64 (t.2.1 : Int), .bool t.2.2] 87))
      have hba : Below wr.heap.size wr (wr.alloc (.cells #[.pointer pu, .int .i64 (t.2.1 : Int), .bool t.2.2] 87)) := below_alloc (Below.refl _ _) _
      have n0_ := Aside0.mk (HP.out.below hba)
      have n1_ := Aside0.mk (Kd.R_below HR.out hba)
      have n2_ := Aside0.mk (below_step HB.out hba)
      clear HP HR HB hba k5 hc0 hc1 hc2
      have HP := n0_
      have HR := n1_
      have HB := n2_
      clear n0_ n1_ n2_
      have sa0 : decide ((ts'.length : Int) ≤ (cap : Int)) = true := decide_eq_true (by omega)
      have sa1 : ((ts'.length : Int) ≤ (cap : Int)) = True := eq_true (by omega)
      have sa2 : (ts'.length ≤ cap) = True := eq_true (by omega)
      rw [hm] at HP HR hcap
      generalize wr.alloc (.cells #[.pointer pu, .int .i64 (t.2.1 : Int), .bool t.2.2] 87) = w1 at HN HP HR HB ⊢
      generalize wr.heap.size = bt at HN ⊢
      have k5 := HP.out.cells.2.2.2.1
      have f5 := blk_frozen HP.out.c 5
      go_upto_region 6 with (fail)
      obtain ⟨h1, h2, h3⟩ := HP.out.sett (.slice (some ad) ts'.length cap)
      have hne : bt ≠ g := blk_ne HN.out HP.out.c (by decide)
      have n0_ := Aside0.mk (blk_far (p := ⟨g, 5, none⟩) HN.out hne (.slice (some ad) ts'.length cap))
      have n1_ := Aside0.mk (show PS w g W q ts' (fun _ => True) (w1.setCell ⟨g, 5, none⟩ (.slice (some ad) ts'.length cap)) from ⟨⟨_, _, _, h1, R_ty rfl (top_off HR.out) h3⟩, HB.out.trans h2⟩)
      clear HN HP HR HB h1 h2 h3 k5 f5 hne
      generalize w1.setCell ⟨g, 5, none⟩ (.slice (some ad) ts'.length cap) = w2 at n0_ n1_ ⊢
      have HN := n0_
      have HS := n1_
      clear n0_ n1_
      have HL := Aside0.mk (lay_ HS.out HU.out t.2.1 t.2.2 HF.out.2.1 (by have := HPB.out.i; omega) (by have := HPB.out.i; have := HPB.out.t; omega) (HPB.out.x) (by have h1 := HF.out.2.2.1; have h2 := HPB.out.n; show nT (ts' ++ [t]) ≤ _; omega) HWW.out.1 HWW.out.2)
      have kb0 := (blk_cell HN.out 0).trans rfl
      have kb1 := (blk_cell HN.out 1).trans rfl
      have kb2 := (blk_cell HN.out 2).trans rfl
      go_wp2_with (go_at_call 49; refine HL.out.mono ?_; clear HL kb0 kb1 kb2; rintro e w3 ⟨rfl, hp⟩; have HP := Aside0.mk hp; clear hp)
      go_roundg (gk - 1)
      case measure => have := HF.out.2.2.2; omega
      case rel =>
        have hb := st1_bd (W := W) HF.out.2.1
        have hr := run_step W ts' t q
        exact ⟨_, _, HP, ⟨hr.symm.trans HF.out.1, hb.1, by have h1 := HF.out.2.2.1; have h2 := hb.2; show nT (ts' ++ (st1 W t q).2) ≤ _; omega, by have h1 := HF.out.2.2.2; have h2 := hb.2; show nT (ts' ++ (st1 W t q).2) + 1 ≤ _; omega⟩⟩
end Go.Proofs.YtjgaikmejccdkaaDoor.PDoc
