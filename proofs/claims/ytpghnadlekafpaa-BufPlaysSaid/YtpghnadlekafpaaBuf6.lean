/- A buffer's pieces without empty ones. -/
import Derived.Test.YtpghnadlekafpaaBuf5
import Derived.OwnWalk
namespace Go.Proofs.Ytpghnadlekafpaa.PBuf
open Go.RowKit Go.Proofs.YtpghnadlekafpaaW.PrintWords Go.Proofs.YtpghnadlekafpaaW.PrintLast Go.Proofs.YtpghnadlekafpaaW.PrintMore
set_option linter.unusedVariables false
set_option linter.unusedSimpArgs false
def nz (P : List Pc) : List Pc := P.filter fun p => !decide (p.f0.size = 0)
def flP (P : List Pc) : List Pc := if nz P = [] then [⟨⟨#[]⟩⟩] else nz P
theorem tP_nz (P : List Pc) : tP (nz P) = (tP P).filter (fun p => !p.isEmpty) := by
  induction P with
  | nil => rfl
  | cons p q ih =>
    have hc : tP (p :: q) = p.f0.data.toList :: tP q := rfl
    have hs : p.f0.data.toList.length = p.f0.size := by simp
    rw [hc]
    unfold nz at ih ⊢
    by_cases h : p.f0.size = 0
    · have h2 : p.f0.data.toList = [] := List.length_eq_zero_iff.1 (by omega)
      rw [List.filter_cons_of_neg (by simp [h]), ih, h2, List.filter_cons_of_neg (by simp)]
    · have h2 : p.f0.data.toList ≠ [] := by intro h2; rw [h2] at hs; simp at hs; omega
      rw [List.filter_cons_of_pos (by simp [h]), List.filter_cons_of_pos (by cases hq : p.f0.data.toList with | nil => exact absurd hq h2 | cons _ _ => rfl), ← ih]
      rfl
theorem tP_fl (P : List Pc) : tP (flP P) = Bu.fl (tP P) := by
  unfold flP Bu.fl
  rw [← tP_nz]
  by_cases h : nz P = []
  · rw [if_pos h, h]; rfl
  · rw [if_neg h, if_neg]
    intro h2
    exact h (List.map_eq_nil_iff.1 h2)
set_option maxHeartbeats 2000000 in
set_option maxRecDepth 100000 in
theorem full (A : Option Addr) (c : Nat) (P : List Pc) (w : World) (hC : Kd.C kP w A P.length P) (hl : P.length ≤ 4398046511103) :
    Calls Try.prog 38 #[.slice A P.length c] w fun e w' => ∃ V, e = .returned V ∧ Kd.R kP 53 w' w.heap.size (fun _ => True) V (flP P) ∧ Below w.heap.size w w' := by
  have HR := Aside0.mk hC
  have HLen := Aside0.mk hl
  clear hC hl
  obtain ⟨i0, hi, hzz⟩ := Option.map_eq_some_iff.1 infoP
  simp only [Prod.mk.injEq] at hzz
  have HZ := Aside0.mk (And.intro hi hzz)
  clear hi hzz
  go_enter Try.func38, Try.ntmps38
  go_wp2_with (refine wpList_make_own _ rfl (.const (.int .i64 0)) (.tmp 7) 54 rfl w.heap.size 53 i0 _ 1 Try.underlying54 HZ.out.1 HZ.out.2.1 HZ.out.2.2.1 .i64 .i64 (P.length : Int) P.length rfl rfl rfl (by rw [HZ.out.2.2.2]; have := HLen.out; omega) (by have := HLen.out; simp only [maxLen]; omega) (Nat.le_refl _) ?_; intro w1 ho hg; have HO := Aside0.mk (R_of_own (H := []) ho); have HB := Aside0.mk ((Below.refl w.heap.size w).grown hg (Nat.le_refl _) (fun k hk => by cases hk)); clear ho hg)
  go_loopg [3, 11] (P.length + 1) (fun kq v3 v11 w' => ∃ (H : List Pc) (x11 : Int), v11 = .int .i64 x11 ∧ Aside0 (H ++ nz (P.drop x11.toNat) = nz P ∧ H.length ≤ x11.toNat) ∧ Aside0 (0 ≤ x11 ∧ x11.toNat ≤ P.length ∧ kq + x11.toNat = P.length + 1) ∧ Aside0 (Kd.R kP 53 w' w.heap.size (fun _ => True) v3 H) ∧ Aside0 (Below w.heap.size w w'))
  case atStart => exact ⟨[], 0, rfl, ⟨by simp, Nat.zero_le _⟩, ⟨by omega, Nat.zero_le _, by simp⟩, HO, HB⟩
  case round =>
    clear HO HB
    obtain ⟨H, x11, rfl, HA, HI, HO, HB⟩ := hrel
    have p1 : 0 ≤ x11 := HI.out.1
    by_cases c1 : x11 < (P.length : Int)
    · have c1n : x11.toNat < P.length := by omega
      have d1 : decide (x11 < (P.length : Int)) = true := decide_eq_true c1
      have hE := HA.out
      rw [List.drop_eq_getElem_cons c1n] at hE
      have hrd : P[x11.toNat] = rd_T53 P x11 := by simp [rd_T53, List.getD, c1n]
      rw [hrd] at hE
      clear hrd
      obtain ⟨ad, e1, hx0⟩ := at_T53 HR.out x11 p1 c1
      cases e1
      replace hx0 := (HB.out.cell (World.block_lt_of_cell? w _ hx0)).trans hx0
      clear c1n HA
      replace p1 := eq_true p1
      have C1 := Aside0.mk c1
      replace c1 := eq_true c1
      generalize rd_T53 P x11 = p at hE hx0
      obtain ⟨s⟩ := p
      dsimp only at hx0
      unfold nz at hE
      have e2 : (x11 + 1).toNat = x11.toNat + 1 := by have := HI.out.1; omega
      have E2 := Aside0.mk e2
      clear e2
      obtain ⟨g3, c3, rfl, hl3⟩ : ∃ A c, u3 = .slice A H.length c ∧ H.length ≤ c := R_slice0 HO.out
      clear hl3
      by_cases c2 : s.size = 0
      · rw [List.filter_cons_of_neg (by simp [c2])] at hE
        have HA2 := Aside0.mk hE
        obtain rfl : s = ⟨#[]⟩ := by
          cases s with
          | mk d => simp [ByteArray.size] at c2; rw [c2]
        clear hE c2
        go_wp2
        go_roundg (gk - 1)
        case measure => have := HI.out; omega
        case rel =>
          have hi := HI.out
          have hm := HLen.out
          have hlt := C1.out
          have ew2 : wrap64 (x11 + 1) = x11 + 1 := by unfold wrap64; omega
          exact ⟨H, _, by rw [ew2], by rw [E2.out]; exact ⟨HA2.out.1, by have := HA2.out.2; omega⟩, ⟨by omega, by omega, by omega⟩, ⟨Kd.R_alloc HO.out _⟩, ⟨HB.out.alloc HB.out.size _⟩⟩
      · rw [List.filter_cons_of_pos (by simp [c2])] at hE
        have hE2 : H ++ [⟨s⟩] ++ nz (P.drop (x11.toNat + 1)) = nz P := by rw [List.append_assoc]; exact hE.1
        have hE3 := hE.2
        have HA2 := Aside0.mk (And.intro hE2 hE3)
        have hne : (s == (⟨#[]⟩ : ByteArray)) = false := by
          cases s with
          | mk d =>
            show (d == #[]) = false
            rw [beq_eq_false_iff_ne]; intro h; rw [h] at c2; exact c2 rfl
        have hem : s.toList.isEmpty = false := by
          cases hq : s.toList with
          | nil => exfalso; apply c2; have h2 : s.data.toList = [] := by rw [← ByteArray.toList_eq]; exact hq
                   have h3 : s.data.toList.length = s.size := by simp
                   rw [h2] at h3; simp at h3; omega
          | cons _ _ => rfl
        clear hE hE2 hE3 c2 hne
        go_wp2_with (first | ((with_reducible refine gate_dst (N := 5) rfl ?_); refine box_event ?hg (N := 5) ?hd (cs := #[.string (⟨#[]⟩ : ByteArray)]) (t := 53) ?hr ?_; (case hd => rfl); (case hg => rfl); (case hr => first | (go_simp; done) | (go_simp; rfl)); intro gb hg w4 hbox hb; have n0_ := Aside0.mk (Kd.R_mono (ok' := fun k => k ≠ gb) (Kd.R_below (Kd.R_elderB HO.out gb (Nat.le_of_eq hg.symm)) hb) (fun _ hk => hk.2)); have n1_ := Aside0.mk (below_step HB.out hb); have hgb := Aside0.mk (show w.heap.size ≤ gb from hg ▸ HB.out.size); clear HO HB; have HO := n0_; have HB := n1_; have BX := Aside0.mk hbox; clear n0_ n1_ hb hbox hg; have hz0 : w4.cell? ⟨gb, 0, none⟩ = some (.string (⟨#[]⟩ : ByteArray)) := (blk_cell BX.out 0).trans rfl; have hf0 := blk_frozen BX.out 0) | ((with_reducible refine gate_builtin (b := .append) (xs := #[.tmp 18, .tmp 20]) rfl ?_); at_builtin; skip; refine Kd.R_append kP (w0 := w) w.heap.size rfl (.tmp 18) (.tmp 20) 54 53 (.agg #[.string ⟨#[]⟩]) 16 rfl Try.underlying54 infoP rfl (by decide) (by omega) (.slice g3 H.length c3) H (⟨s⟩ : Pc) [.string s] (fun _ => True) (fun _ => False) rfl ?hx (k53_mkM _ _ _ (⟨s⟩ : Pc)) (fun _ hk => hk.elim) (fun _ _ => trivial) ?HO ?HB (below_size ?HB) (by have := HA2.out.2; have := HI.out; have := HLen.out; omega) ?_; (case hx => first | rfl | (go_simp; done)); (case HB => exact below_set HB.out hgb.out); (case HO => exact Kd.R_mono (Kd.R_far (p := ⟨gb, 0, none⟩) HO.out (fun _ hk => hk) _) (fun _ _ => trivial)); intro V1 w8 ho hb hg hat; have n0_ := Aside0.mk ho; have n1_ := Aside0.mk hb; clear HO HB ho hb hg hat; have HO := n0_; have HB := n1_; clear n0_ n1_))
        go_roundg (gk - 1)
        case measure => have := HI.out; omega
        case rel =>
          have hi := HI.out
          have hm := HLen.out
          have hlt := C1.out
          have ew2 : wrap64 (x11 + 1) = x11 + 1 := by unfold wrap64; omega
          exact ⟨_, _, by rw [ew2], by rw [E2.out]; exact ⟨HA2.out.1, by have := HA2.out.2; simp only [List.length_append, List.length_singleton]; omega⟩, ⟨by omega, by omega, by omega⟩, ⟨HO.out⟩, ⟨HB.out⟩⟩
    · have d1 : decide (x11 < (P.length : Int)) = false := decide_eq_false c1
      have hE := HA.out.1
      have hdr : P.drop x11.toNat = [] := List.drop_eq_nil_of_le (by omega)
      rw [hdr] at hE
      obtain rfl : H = nz P := by rw [← hE]; exact (List.append_nil _).symm
      clear hE HA hdr c1
      obtain ⟨g3, c3, rfl, hl3⟩ : ∃ A c, u3 = .slice A (nz P).length c ∧ (nz P).length ≤ c := R_slice0 HO.out
      clear hl3
      by_cases c2 : nz P = []
      · have hfl : flP P = [⟨⟨#[]⟩⟩] := by unfold flP; rw [if_pos c2]
        have FL := Aside0.mk hfl
        have dz : (((nz P).length : Int) == 0) = true := by rw [beq_iff_eq, c2]; rfl
        clear hfl c2 HO
        go_wp2
        go_ret
        refine ⟨_, rfl, ?_, HB.out.alloc HB.out.size _⟩
        rw [FL.out]
        have h2 := World.ownsRow_lit (base := w.heap.size) (e := 53) (size := 1) wr #[.string ⟨#[]⟩] 1 HB.out.size (by simp [maxLen]) (by simp)
        exact R_of_own (H := [⟨⟨#[]⟩⟩]) h2
      · have hfl : flP P = nz P := by unfold flP; rw [if_neg c2]
        have FL := Aside0.mk hfl
        have dz : (((nz P).length : Int) == 0) = false := by
          rw [beq_eq_false_iff_ne]; intro h; exact c2 (List.length_eq_zero_iff.1 (by omega))
        clear hfl c2
        go_wp2
        go_ret
        exact ⟨_, rfl, by rw [FL.out]; exact HO.out, HB.out⟩
end Go.Proofs.Ytpghnadlekafpaa.PBuf
