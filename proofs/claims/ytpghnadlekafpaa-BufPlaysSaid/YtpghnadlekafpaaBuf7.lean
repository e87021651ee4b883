/- Bytes put in the place of others, in a buffer. -/
import Derived.Test.YtpghnadlekafpaaBuf6
namespace Go.Proofs.Ytpghnadlekafpaa.PBuf
open Go.RowKit Go.Proofs.YtpghnadlekafpaaW.PrintWords Go.Proofs.YtpghnadlekafpaaW.PrintLast Go.Proofs.YtpghnadlekafpaaW.PrintMore
set_option linter.unusedVariables false
set_option linter.unusedSimpArgs false
theorem Bf.upd {w w' : World} {base g : Nat} {Vp Vf Vl Vl' : Value} {n n' : Int} {P P' : List Pc} {past fut : List St} (h : Bf w base g Vp Vf Vl n P past fut) (hf : Fr (fun i => i = g) w w') (hc : w'.heap[g]? = some (.cells #[Vp, Vf, Vl', .int .i64 n'] 61 (0, 0)))
    (hl : Kd.R kP 53 w' base (fun _ => True) Vl' P') (hn : n' = ((tx P').length : Int)) (hne : P' ≠ []) : Bf w' base g Vp Vf Vl' n' P' past fut :=
  ⟨hc, h.g0, Kd.Q_mono (Kd.Q_step (Kd.Q_types h.p h.c (by rw [show kS.E = [40, 40] from rfl]; decide)) (fun k hk hlt => hf.block k hlt hk.2)) (fun _ hk => hk.1), Kd.Q_mono (Kd.Q_step (Kd.Q_types h.f h.c (by rw [show kS.E = [40, 40] from rfl]; decide)) (fun k hk hlt => hf.block k hlt hk.2)) (fun _ hk => hk.1), hl, hn, hne⟩
def spP (P : List Pc) (a b : Nat) (t : ByteArray) : List Pc := flP (hdP P a ++ [(⟨t⟩ : Pc)] ++ tlP P b)
theorem tP_app (a b : List Pc) : tP (a ++ b) = tP a ++ tP b := by simp [tP]
theorem tP_sp (P : List Pc) (a b : Nat) (t : ByteArray) : tP (spP P a b t) = Bu.spl (tP P) a b t.data.toList := by
  unfold spP Bu.spl
  rw [tP_fl, tP_app, tP_app, tP_hd, tP_tl]
  rfl
theorem tx_sp (P : List Pc) (a b : Nat) (t : ByteArray) : tx (spP P a b t) = (tx P).take a ++ t.data.toList ++ (tx P).drop b := by
  unfold tx
  rw [tP_sp, Bu.jn_spl]
theorem tP_len (P : List Pc) : (tP P).length = P.length := by simp [tP]
theorem sp_len (P : List Pc) (a b : Nat) (t : ByteArray) (h : a ≤ b) : 1 ≤ (spP P a b t).length ∧ (spP P a b t).length ≤ P.length + 2 := by
  have := Bu.spl_len (tP P) a b t.data.toList h
  rw [← tP_sp, tP_len, tP_len] at this
  exact this
theorem hd_tl_len (P : List Pc) (a b : Nat) (h : a ≤ b) : (hdP P a).length + (tlP P b).length ≤ P.length + 1 := by
  have := Bu.hd_tl_len (tP P) a b h
  rw [← tP_hd, ← tP_tl, tP_len, tP_len, tP_len] at this
  exact this
def sp3.T : Bool × List (List Nat × List Nat) := (true, [([], []), ([], []), ([], []), ([2], [2]), ([], []), ([4], [4]), ([1, 3, 5], [1, 3, 5]), ([], []), ([7], [7]), ([8], [8]), ([9], [9]), ([6, 10], [6, 10]), ([], []), ([11, 12, 11], [11, 12]), ([13, 13], [13]), ([0, 0, 1, 2, 3, 4, 5, 6, 7, 8, 9, 10, 11, 12, 13, 14], [0]), ([15, 0, 1, 2, 3, 4, 5, 6, 7, 8, 9, 10, 11, 12, 13, 14], [15]), ([16, 14, 14, 0, 1, 2, 3, 4, 5, 6, 7, 8, 9, 10, 11, 12, 13, 14], [14, 16])])
def sp3.B : List Nat := [0, 0, 0, 4, 0, 16, 62, 0, 128, 384, 896, 2046, 0, 8190, 16382, 32767, 65535, 131071]
theorem sp3.tab : rtab .any (opsOf Try.f34 3) = sp3.T := by kernel_rfl
theorem sp3.bits : waitsOk sp3.T.2 sp3.B = true := by kernel_rfl
def sp4.T : Bool × List (List Nat × List Nat) := (true, [([], []), ([0], [0]), ([1], [1]), ([2], [2]), ([], []), ([4], [4]), ([5], [5]), ([], []), ([7], [7]), ([], []), ([9], [9]), ([8, 10], [8, 10]), ([6, 11], [6, 11]), ([3, 12], [3, 12]), ([0, 0, 1, 2, 3, 4, 5, 6, 7, 8, 9, 10, 11, 12, 13], [0]), ([14, 0, 1, 2, 3, 4, 5, 6, 7, 8, 9, 10, 11, 12, 13], [14]), ([15, 13, 0, 1, 2, 3, 4, 5, 6, 7, 8, 9, 10, 11, 12, 13], [13, 15])])
def sp4.B : List Nat := [0, 1, 3, 7, 0, 16, 48, 0, 128, 0, 512, 1920, 4080, 8191, 16383, 32767, 65535]
theorem sp4.tab : rtab .any (opsOf Try.f34 4) = sp4.T := by kernel_rfl
theorem sp4.bits : waitsOk sp4.T.2 sp4.B = true := by kernel_rfl
set_option maxHeartbeats 8000000 in
set_option maxRecDepth 100000 in
theorem splice {w : World} {base g : Nat} {Vp Vf Vl : Value} {n : Int} {P : List Pc} {past fut : List St} (hB : Bf w base g Vp Vf Vl n P past fut) (hl : P.length ≤ 1000000000000) (hs : (tx P).length ≤ 100000000000000) (x y : Int) (t : ByteArray) (h0 : 0 ≤ x) (h1 : x ≤ y) (h2 : y ≤ n) (ht : t.size ≤ 10000000000000) :
    Calls Try.prog 34 #[.pointer (some ⟨g, 0, none⟩), .agg #[.int .i64 x, .int .i64 y, .string t]] w fun e w' => e = .returned (.tuple #[]) ∧ ∃ Vl' n', Bf w' base g Vp Vf Vl' n' (spP P x.toNat y.toNat t) past fut ∧ Fr (fun i => i = g) w w' := by
  have HLen := Aside0.mk hl
  have HN := Aside0.mk hB.n
  have HS := Aside0.mk hs
  have HT := Aside0.mk ht
  have HX := Aside0.mk (And.intro h0 (And.intro h1 h2))
  have HHT := Aside0.mk (hd_tl_len P x.toNat y.toNat (by omega))
  have HS1 := Aside0.mk (fun (w1 : World) (hb : Below w.heap.size w w1) => split (hB.below hb) (by omega) (by omega) x h0 (by omega))
  have HS2 := Aside0.mk (fun (w1 : World) (hb : Below w.heap.size w w1) => split (hB.below hb) (by omega) (by omega) y (by omega) h2)
  have HBF := Aside0.mk hB
  have HB := Aside0.mk (below_alloc (Below.refl w.heap.size w) (.cells #[.int .i64 x, .int .i64 y, .string t] 40))
  have EB := Aside0.mk (blk_new w (.cells #[.int .i64 x, .int .i64 y, .string t] 40))
  clear hB hl hs h0 h1 h2 ht
  go_enter Try.func34, Try.ntmps34
  go_wp2_with (first | (go_at_call 37; with_reducible refine (HS1.out _ HB.out).mono ?_; clear HS1; rintro e w2 ⟨Vh, Vt0, rfl, hRh, -, hb⟩; have n0_ := Aside0.mk (below_step HB.out hb); have n1_ := Aside0.mk (blk_below EB.out hb); have HRh := Aside0.mk (Kd.R_lower hRh HB.out.size); clear HB EB hRh hb; have HB := n0_; have EB := n1_; clear n0_ n1_; have ce : w2.cell? ⟨w.heap.size, 1, none⟩ = some (.int .i64 y) := (blk_cell EB.out 1).trans rfl) | (go_at_call 37; with_reducible refine (HS2.out _ HB.out).mono ?_; clear HS2; rintro e w3 ⟨Vh1, Vt, rfl, -, hRt, hb⟩; clear ce; have n0_ := Aside0.mk (below_step HB.out hb); have n1_ := Aside0.mk (blk_below EB.out hb); have n2_ := Aside0.mk (Kd.R_below HRh.out hb); have HRt := Aside0.mk (Kd.R_lower hRt HB.out.size); clear HB EB HRh hRt hb; have HB := n0_; have EB := n1_; have HRh := n2_; clear n0_ n1_ n2_))
  all_goals (
    obtain ⟨ah, ch, rfl, hch, hCh⟩ : ∃ A c, Vh = .slice A (hdP P x.toNat).length c ∧ (hdP P x.toNat).length ≤ c ∧ Kd.C kP w3 A (hdP P x.toNat).length (hdP P x.toNat) := R_reads0 HRh.out
    obtain ⟨at_, ct, rfl, hct, hCt⟩ : ∃ A c, Vt = .slice A (tlP P y.toNat).length c ∧ (tlP P y.toNat).length ≤ c ∧ Kd.C kP w3 A (tlP P y.toNat).length (tlP P y.toNat) := R_reads0 HRt.out
    have HCh := Aside0.mk hCh
    have HCt := Aside0.mk hCt
    have HH := Aside0.mk hch
    have HAn := Aside0.mk (show ah = none → (hdP P x.toNat).length = 0 from fun he => by have h3 := hCh.2.2; rcases Nat.eq_zero_or_pos (hdP P x.toNat).length with h0 | h0; exact h0; obtain ⟨ad, e, -⟩ := h3 h0; rw [he] at e; cases e)
    have sa0 : decide (((hdP P x.toNat).length : Int) ≤ (ch : Int)) = true := decide_eq_true (by omega)
    have sa1 : (((hdP P x.toNat).length : Int) ≤ (ch : Int)) = True := eq_true (by omega)
    have sa2 : ((hdP P x.toNat).length ≤ ch) = True := eq_true hch
    clear hch hct hCh hCt HRh HRt
    obtain ⟨H, hH⟩ : ∃ H, hdP P x.toNat = H := ⟨_, rfl⟩
    obtain ⟨T, hT⟩ : ∃ T, tlP P y.toNat = T := ⟨_, rfl⟩
    have EHT := Aside0.mk (show spP P x.toNat y.toNat t = flP (H ++ [(⟨t⟩ : Pc)] ++ T) by rw [← hH, ← hT]; rfl)
    rw [hH] at sa0 sa1 sa2 HCh HAn HHT HH ⊢
    rw [hT] at HCt HHT ⊢
    clear hH hT
    have n0_ := Aside0.mk (below_drew1 HB.out)
    have n1_ := Aside0.mk (blk_drew EB.out)
    have n2_ := Aside0.mk (Kd.C_drew HCh.out)
    have n3_ := Aside0.mk (Kd.C_drew HCt.out)
    clear HB EB HCh HCt
    have HB := n0_
    have EB := n1_
    have HCh := n2_
    have HCt := n3_
    clear n0_ n1_ n2_ n3_
    refine start_ (n := 18) (S := fun w' => w'.cell? ⟨w.heap.size, 2, none⟩ = some (.string t)) (ds := []) #[false, false, false, false, false, false, false, false, false, false, false, false, false, false, false, false, false, false] (by kernel_rfl) rfl rfl ((blk_cell EB.out 2).trans rfl) (fun hHeld => ?_); refine with_tabW sp3.tab sp3.bits (fun HT_ HW_ => ?_)
    generalize w3.drew = w5 at HB EB HCh HCt hHeld ⊢
    refine pure_ (i := 0) (N := some 22) (v := ?_) (a' := ?_) #[true, false, false, false, false, false, false, false, false, false, false, false, false, false, false, false, false, false] rfl rfl (any_of HT_.out (by kernel_rfl)) (fun _ _ _ h => h) (Or.inl ⟨by rfl, ?_⟩) ?_ ?_
    rotate_left
    · intro w'
      go_simp
      try with_reducible rfl
    rotate_left
    · simp only [Act.put, List.setIfInBounds_toArray, List.set_cons_zero, List.set_cons_succ, i64_w, i32_w]
      rfl
    refine pure_ (i := 1) (N := some 23) (v := ?_) (a' := ?_) #[true, true, false, false, false, false, false, false, false, false, false, false, false, false, false, false, false, false] rfl rfl (any_of HT_.out (by kernel_rfl)) (fun _ _ _ h => h) (Or.inl ⟨by rfl, ?_⟩) ?_ ?_
    rotate_left
    · intro w'
      go_simp
      try with_reducible rfl
    rotate_left
    · simp only [Act.put, List.setIfInBounds_toArray, List.set_cons_zero, List.set_cons_succ, i64_w, i32_w]
      rfl
    refine pure_ (i := 2) (N := some 24) (v := ?_) (a' := ?_) #[true, true, true, false, false, false, false, false, false, false, false, false, false, false, false, false, false, false] rfl rfl (any_of HT_.out (by kernel_rfl)) (fun _ _ _ h => h) (Or.inl ⟨by rfl, ?_⟩) ?_ ?_
    rotate_left
    · intro w'
      go_simp
      try with_reducible rfl
    rotate_left
    · simp only [Act.put, List.setIfInBounds_toArray, List.set_cons_zero, List.set_cons_succ, i64_w, i32_w]
      rfl
    refine pure_ (i := 3) (N := some 25) (v := ?_) (a' := ?_) #[true, true, true, true, false, false, false, false, false, false, false, false, false, false, false, false, false, false] rfl rfl (any_of HT_.out (by kernel_rfl)) (fun _ _ _ h => h) (Or.inl ⟨by rfl, ?_⟩) ?_ ?_
    rotate_left
    · intro w'
      go_simp
      try with_reducible rfl
    rotate_left
    · simp only [Act.put, List.setIfInBounds_toArray, List.set_cons_zero, List.set_cons_succ, i64_w, i32_w]
      rfl
    refine pure_ (i := 4) (N := some 26) (v := ?_) (a' := ?_) #[true, true, true, true, true, false, false, false, false, false, false, false, false, false, false, false, false, false] rfl rfl (any_of HT_.out (by kernel_rfl)) (fun _ _ _ h => h) (Or.inl ⟨by rfl, ?_⟩) ?_ ?_
    rotate_left
    · intro w'
      go_simp
      try with_reducible rfl
    rotate_left
    · simp only [Act.put, List.setIfInBounds_toArray, List.set_cons_zero, List.set_cons_succ, i64_w, i32_w]
      rfl
    refine pure_ (i := 5) (N := some 27) (v := ?_) (a' := ?_) #[true, true, true, true, true, true, false, false, false, false, false, false, false, false, false, false, false, false] rfl rfl (any_of HT_.out (by kernel_rfl)) (fun _ _ _ h => h) (Or.inl ⟨by rfl, ?_⟩) ?_ ?_
    rotate_left
    · intro w'
      go_simp
      try with_reducible rfl
    rotate_left
    · simp only [Act.put, List.setIfInBounds_toArray, List.set_cons_zero, List.set_cons_succ, i64_w, i32_w]
      rfl
    refine pure_ (i := 6) (N := some 28) (v := ?_) (a' := ?_) #[true, true, true, true, true, true, true, false, false, false, false, false, false, false, false, false, false, false] rfl rfl (any_of HT_.out (by kernel_rfl)) (fun _ _ _ h => h) (Or.inl ⟨by rfl, ?_⟩) ?_ ?_
    rotate_left
    · intro w'
      go_simp
      try with_reducible rfl
    rotate_left
    · simp only [Act.put, List.setIfInBounds_toArray, List.set_cons_zero, List.set_cons_succ, i64_w, i32_w]
      rfl
    refine pure_ (i := 7) (N := some 29) (v := ?_) (a' := ?_) #[true, true, true, true, true, true, true, true, false, false, false, false, false, false, false, false, false, false] rfl rfl (any_of HT_.out (by kernel_rfl)) (fun _ _ _ h => h) (Or.inl ⟨by rfl, ?_⟩) ?_ ?_
    rotate_left
    · intro w'
      go_simp
      try with_reducible rfl
    rotate_left
    · simp only [Act.put, List.setIfInBounds_toArray, List.set_cons_zero, List.set_cons_succ, i64_w, i32_w]
      rfl
    refine take_ (i := 8) (N := some 30) (v := ?_) (a' := ?_) #[true, true, true, true, true, true, true, true, true, false, false, false, false, false, false, false, false, false] rfl rfl (take_ofW HT_.out HW_.out (by kernel_rfl)) (fun _ _ _ h => h) (Or.inl ⟨by rfl, ?_⟩) hHeld ?_ ?_
    rotate_left
    · intro w' s0
      go_simp
      try with_reducible rfl
    rotate_left
    · simp only [Act.put, List.setIfInBounds_toArray, List.set_cons_zero, List.set_cons_succ, i64_w, i32_w]
      rfl
    refine pure_ (i := 9) (N := some 31) (v := ?_) (a' := ?_) #[true, true, true, true, true, true, true, true, true, true, false, false, false, false, false, false, false, false] rfl rfl (any_of HT_.out (by kernel_rfl)) (fun _ _ _ h => h) (Or.inl ⟨by rfl, ?_⟩) ?_ ?_
    rotate_left
    · intro w'
      go_simp
      try with_reducible rfl
    rotate_left
    · simp only [Act.put, List.setIfInBounds_toArray, List.set_cons_zero, List.set_cons_succ, i64_w, i32_w]
      rfl
    refine pure_ (i := 12) (N := some 34) (v := ?_) (a' := ?_) #[true, true, true, true, true, true, true, true, true, true, false, false, true, false, false, false, false, false] rfl rfl (any_of HT_.out (by kernel_rfl)) (fun _ _ _ h => h) (Or.inl ⟨by rfl, ?_⟩) ?_ ?_
    rotate_left
    · intro w'
      go_simp
      try with_reducible rfl
    rotate_left
    · simp only [Act.put, List.setIfInBounds_toArray, List.set_cons_zero, List.set_cons_succ, i64_w, i32_w]
      rfl
    refine one_ (i := 10) (N := some 32) #[true, true, true, true, true, true, true, true, true, true, true, false, true, false, false, false, false, false] rfl rfl (one_of HT_.out (by kernel_rfl)) (by decide) (fun K hK => ?_)
    refine lit1_step ?hg (N := 32) ?hd (u := .string t) (t := 53) ?hr ?_; (case hd => rfl); (case hg => rfl); (case hr => first | (go_simp; done) | (go_simp; rfl))
    intro gl hgl w6 hbox hb
    have n0_ := Aside0.mk (below_step HB.out hb)
    have n1_ := Aside0.mk (blk_below EB.out hb)
    have n2_ := Aside0.mk (Kd.C_below HCh.out hb)
    have n3_ := Aside0.mk (Kd.C_below HCt.out hb)
    clear HB EB HCh HCt
    have HB := n0_
    have EB := n1_
    have HCh := n2_
    have HCt := n3_
    have BL := Aside0.mk hbox
    clear n0_ n1_ n2_ n3_ hb hbox hgl
    refine hK.out _ _ ((blk_cell EB.out 2).trans rfl) (fun hHeld => ?_)
    clear hK K
    refine norm_ (a' := ?_) ?_ ?_
    rotate_left
    · show Act.put _ (some 32) _ = _
      simp only [Act.put, List.setIfInBounds_toArray, List.set_cons_zero, List.set_cons_succ, i64_w, i32_w]
      rfl
    refine one_ (i := 11) (N := some 33) #[true, true, true, true, true, true, true, true, true, true, true, true, true, false, false, false, false, false] rfl rfl (one_of HT_.out (by kernel_rfl)) (by decide) (fun K hK => ?_)
    refine grow_step rfl (.tmp 28) (.tmp 32) rfl ah H rfl HCh.out HAn.out gl t rfl ((blk_cell BL.out 0).trans rfl) (by have := HHT.out; have := HLen.out; omega) ?_
    intro Vq w7 hR hb
    have HQ := Aside0.mk (fun (k : Nat) (hk : Vq.ownBlock = some k) => Kd.Q_base (Kd.Q_of_R hR) k hk)
    have HLT := Aside0.mk (blk_lt EB.out)
    have n0_ := Aside0.mk (below_step HB.out hb)
    have n1_ := Aside0.mk (blk_below EB.out hb)
    have HRq := Aside0.mk (Kd.R_lower hR HB.out.size)
    have n3_ := Aside0.mk (Kd.C_below HCt.out hb)
    clear HB EB BL HCh HCt
    have HB := n0_
    have EB := n1_
    have HCt := n3_
    clear n0_ n1_ n3_ hb hR
    refine hK.out _ _ ((blk_cell EB.out 2).trans rfl) (fun hHeld => ?_)
    clear hK K
    refine norm_ (a' := ?_) ?_ ?_
    rotate_left
    · show Act.put _ (some 33) _ = _
      simp only [Act.put, List.setIfInBounds_toArray, List.set_cons_zero, List.set_cons_succ, i64_w, i32_w]
      rfl
    refine one_ (i := 13) (N := some 35) #[true, true, true, true, true, true, true, true, true, true, true, true, true, true, false, false, false, false] rfl rfl (one_of HT_.out (by kernel_rfl)) (by decide) (fun K hK => ?_)
    refine Kd.R_append_rows_step kP (Rr := kP.K w7) (w0 := w) w.heap.size rfl (.tmp 33) (.tmp 34) 54 53 (.agg #[.string ⟨#[]⟩]) 16 rfl Try.underlying54 infoP rfl (by decide) (by omega) Vq (H ++ [(⟨t⟩ : Pc)]) T at_ T.length ct (fun _ => True) (fun _ => False) rfl rfl HRq.out HCt.out (fun x cs h => by obtain rfl := k53_open h; exact k53_mkM _ _ _ x) (fun _ h => h.elim) (fun _ _ => trivial) HB.out HB.out.size (by have := HHT.out; have := HLen.out; simp only [List.length_append, List.length_singleton]; omega) ?_
    intro Vr w8 hR hb hg hat
    have n1_ := Aside0.mk (blk_grown EB.out hg (fun e8 => by have := HQ.out _ e8.symm; have := HLT.out; omega))
    clear EB HB HRq HCt HQ HLT
    have HB := Aside0.mk hb
    have EB := n1_
    have HLL := Aside0.mk (show (H ++ [(⟨t⟩ : Pc)] ++ T).length ≤ 4398046511103 by have := HHT.out; have := HLen.out; simp only [List.length_append, List.length_singleton]; omega)
    obtain ⟨L, hL⟩ : ∃ L, H ++ [(⟨t⟩ : Pc)] ++ T = L := ⟨_, rfl⟩
    rw [hL] at hR HLL
    have EL := Aside0.mk hL
    have HRr := Aside0.mk hR
    clear n1_ hb hR hg hat hL
    refine hK.out _ _ ((blk_cell EB.out 2).trans rfl) (fun hHeld => ?_)
    clear hK K
    refine norm_ (a' := ?_) ?_ ?_
    rotate_left
    · show Act.put _ (some 35) _ = _
      simp only [Act.put, List.setIfInBounds_toArray, List.set_cons_zero, List.set_cons_succ, i64_w, i32_w]
      rfl
    refine one_ (i := 14) (N := some 36) #[true, true, true, true, true, true, true, true, true, true, true, true, true, true, true, false, false, false] rfl rfl (one_of HT_.out (by kernel_rfl)) (by decide) (fun K hK => ?_)
    obtain ⟨ar, cr, rfl, -, hCr⟩ : ∃ A c, Vr = .slice A L.length c ∧ L.length ≤ c ∧ Kd.C kP w8 A L.length L := R_reads0 HRr.out
    have HF := Aside0.mk (full ar cr L w8 hCr HLL.out)
    clear hCr HRr
    refine goes_ Try.func38 (by kernel_rfl) rfl #[.slice ar L.length cr] (by rfl) rfl rfl (by (try simp only [List.map_toArray, List.map_cons, List.map_nil]); first | done | rfl) ?_
    refine HF.out.mono ?_
    rintro e w9 ⟨Vl1, rfl, hR, hb⟩
    refine ⟨_, rfl, ?_⟩
    have n0_ := Aside0.mk (below_step HB.out hb)
    have n1_ := Aside0.mk (blk_below EB.out hb)
    have HRl := Aside0.mk (Kd.R_lower hR HB.out.size)
    clear HB EB HF
    have HB := n0_
    have EB := n1_
    clear n0_ n1_ hb hR
    refine hK.out _ _ ((blk_cell EB.out 2).trans rfl) (fun hHeld => ?_)
    clear hK K
    refine norm_ (a' := ?_) ?_ ?_
    rotate_left
    · show Act.put _ (some 36) _ = _
      simp only [Act.put, List.setIfInBounds_toArray, List.set_cons_zero, List.set_cons_succ, i64_w, i32_w]
      rfl
    refine pure_ (i := 15) (N := some 37) (v := ?_) (a' := ?_) #[true, true, true, true, true, true, true, true, true, true, true, true, true, true, true, true, false, false] rfl rfl (any_of HT_.out (by kernel_rfl)) (fun _ _ _ h => h) (Or.inl ⟨by rfl, ?_⟩) ?_ ?_
    rotate_left
    · intro w'
      go_simp
      try with_reducible rfl
    rotate_left
    · simp only [Act.put, List.setIfInBounds_toArray, List.set_cons_zero, List.set_cons_succ, i64_w, i32_w]
      rfl
    refine pure_ (i := 16) (N := some 38) (v := ?_) (a' := ?_) #[true, true, true, true, true, true, true, true, true, true, true, true, true, true, true, true, true, false] rfl rfl (any_of HT_.out (by kernel_rfl)) (fun _ _ _ h => h) (Or.inl ⟨by rfl, ?_⟩) ?_ ?_
    rotate_left
    · intro w'
      go_simp
      try with_reducible rfl
    rotate_left
    · simp only [Act.put, List.setIfInBounds_toArray, List.set_cons_zero, List.set_cons_succ, i64_w, i32_w]
      rfl
    obtain ⟨al, cl1, rfl, -⟩ : ∃ A c, Vl1 = .slice A (flP L).length c ∧ (flP L).length ≤ c := R_slice0 HRl.out
    have GB := Aside0.mk (blk_below HBF.out.c HB.out)
    refine one_ (i := 17) (N := none) #[true, true, true, true, true, true, true, true, true, true, true, true, true, true, true, true, true, true] rfl rfl (one_of HT_.out (by kernel_rfl)) (by decide) (fun K hK => ?_)
    have hs0 : w9.cell? ⟨g, 2, none⟩ = some Vl := (blk_cell GB.out 2).trans rfl
    have hfs0 := blk_frozen GB.out 2
    refine skip_ (w1 := ?_) (by rfl) rfl ?_ ?_
    rotate_left
    · go_simp
      rfl
    have hne : w.heap.size ≠ g := by have := blk_lt HBF.out.c; omega
    have n1_ := Aside0.mk (blk_far (p := ⟨g, 2, none⟩) EB.out hne (.slice al (flP L).length cl1))
    have n2_ := Aside0.mk (blk_put GB.out 2 (.slice al (flP L).length cl1) rfl)
    have n3_ := Aside0.mk (Kd.R_mono (Kd.R_far (p := ⟨g, 2, none⟩) (Kd.R_types HRl.out GB.out (by rw [show kP.E = [] from rfl]; decide)) (fun _ hk => hk.2) (.slice al (flP L).length cl1)) (fun _ _ => trivial))
    have n4_ := Aside0.mk ((Fr.of_below (S := fun i => i = g) HB.out).trans (Fr.set ⟨g, 2, none⟩ (.slice al (flP L).length cl1) (S := fun i => i = g) rfl) (fun i _ hi => hi))
    clear HB EB GB HRl hs0 hfs0
    generalize w9.setCell ⟨g, 2, none⟩ (.slice al (flP L).length cl1) = wa at n1_ n2_ n3_ n4_ ⊢
    have EB := n1_
    have GB := n2_
    have HRl := n3_
    have HFR := n4_
    have HNE := Aside0.mk hne
    clear n1_ n2_ n3_ n4_ hne
    refine hK.out _ _ ((blk_cell EB.out 2).trans rfl) (fun hHeld => ?_)
    clear hK K
    refine done_ (done_of HT_.out (by kernel_rfl)) ?_
    clear hHeld
    go_wp2
    have n1_ := Aside0.mk (blk_drew EB.out)
    have n2_ := Aside0.mk (blk_drew GB.out)
    have n3_ := Aside0.mk (Kd.R_drew HRl.out)
    have n4_ := Aside0.mk (HFR.out.trans (Fr.of_below (S := fun i => i = g) (below_drew1 (Below.refl _ wa))) (fun i _ hi => hi))
    clear EB GB HRl HFR
    have EB := n1_
    have GB := n2_
    have HRl := n3_
    have HFR := n4_
    clear n1_ n2_ n3_ n4_
    refine start_ (n := 17) (S := fun w' => w'.cell? ⟨g, 3, none⟩ = some (.int .i64 n) ∧ w'.cell? ⟨w.heap.size, 0, none⟩ = some (.int .i64 x) ∧ w'.cell? ⟨w.heap.size, 1, none⟩ = some (.int .i64 y) ∧ w'.cell? ⟨w.heap.size, 2, none⟩ = some (.string t)) (ds := [16]) #[false, false, false, false, false, false, false, false, false, false, false, false, false, false, false, false, false] (by kernel_rfl) rfl rfl ⟨(blk_cell GB.out 3).trans rfl, (blk_cell EB.out 0).trans rfl, (blk_cell EB.out 1).trans rfl, (blk_cell EB.out 2).trans rfl⟩ (fun hHeld => ?_); refine with_tabW sp4.tab sp4.bits (fun HT_ HW_ => ?_)
    generalize wa.drew = wb at EB GB HRl HFR hHeld ⊢
    refine pure_ (i := 0) (N := some 39) (v := ?_) (a' := ?_) #[true, false, false, false, false, false, false, false, false, false, false, false, false, false, false, false, false] rfl rfl (any_of HT_.out (by kernel_rfl)) (fun _ _ _ h => h) (Or.inl ⟨by rfl, ?_⟩) ?_ ?_
    rotate_left
    · intro w'
      go_simp
      try with_reducible rfl
    rotate_left
    · simp only [Act.put, List.setIfInBounds_toArray, List.set_cons_zero, List.set_cons_succ, i64_w, i32_w]
      rfl
    refine pure_ (i := 1) (N := some 40) (v := ?_) (a' := ?_) #[true, true, false, false, false, false, false, false, false, false, false, false, false, false, false, false, false] rfl rfl (any_of HT_.out (by kernel_rfl)) (fun _ _ _ h => h) (Or.inl ⟨by rfl, ?_⟩) ?_ ?_
    rotate_left
    · intro w'
      go_simp
      try with_reducible rfl
    rotate_left
    · simp only [Act.put, List.setIfInBounds_toArray, List.set_cons_zero, List.set_cons_succ, i64_w, i32_w]
      rfl
    refine pure_ (i := 2) (N := some 41) (v := ?_) (a' := ?_) #[true, true, true, false, false, false, false, false, false, false, false, false, false, false, false, false, false] rfl rfl (any_of HT_.out (by kernel_rfl)) (fun _ _ _ h => h) (Or.inl ⟨by rfl, ?_⟩) ?_ ?_
    rotate_left
    · intro w'
      go_simp
      try with_reducible rfl
    rotate_left
    · simp only [Act.put, List.setIfInBounds_toArray, List.set_cons_zero, List.set_cons_succ, i64_w, i32_w]
      rfl
    refine take_ (i := 3) (N := some 42) (v := ?_) (a' := ?_) #[true, true, true, true, false, false, false, false, false, false, false, false, false, false, false, false, false] rfl rfl (take_ofW HT_.out HW_.out (by kernel_rfl)) (fun _ _ _ h => h) (Or.inl ⟨by rfl, ?_⟩) hHeld ?_ ?_
    rotate_left
    · rintro w' ⟨s0, s1, s2, s3⟩
      go_simp
      try with_reducible rfl
    rotate_left
    · simp only [Act.put, List.setIfInBounds_toArray, List.set_cons_zero, List.set_cons_succ, i64_w, i32_w]
      rfl
    refine pure_ (i := 4) (N := some 43) (v := ?_) (a' := ?_) #[true, true, true, true, true, false, false, false, false, false, false, false, false, false, false, false, false] rfl rfl (any_of HT_.out (by kernel_rfl)) (fun _ _ _ h => h) (Or.inl ⟨by rfl, ?_⟩) ?_ ?_
    rotate_left
    · intro w'
      go_simp
      try with_reducible rfl
    rotate_left
    · simp only [Act.put, List.setIfInBounds_toArray, List.set_cons_zero, List.set_cons_succ, i64_w, i32_w]
      rfl
    refine take_ (i := 5) (N := some 44) (v := ?_) (a' := ?_) #[true, true, true, true, true, true, false, false, false, false, false, false, false, false, false, false, false] rfl rfl (take_ofW HT_.out HW_.out (by kernel_rfl)) (fun _ _ _ h => h) (Or.inl ⟨by rfl, ?_⟩) hHeld ?_ ?_
    rotate_left
    · rintro w' ⟨s0, s1, s2, s3⟩
      go_simp
      try with_reducible rfl
    rotate_left
    · simp only [Act.put, List.setIfInBounds_toArray, List.set_cons_zero, List.set_cons_succ, i64_w, i32_w]
      rfl
    refine pure_ (i := 6) (N := some 45) (v := ?_) (a' := ?_) #[true, true, true, true, true, true, true, false, false, false, false, false, false, false, false, false, false] rfl rfl (any_of HT_.out (by kernel_rfl)) (fun _ _ _ h => h) (Or.inl ⟨by rfl, ?_⟩) ?_ ?_
    rotate_left
    · intro w'
      go_simp
      try with_reducible rfl
    rotate_left
    · simp only [Act.put, List.setIfInBounds_toArray, List.set_cons_zero, List.set_cons_succ, i64_w, i32_w]
      rfl
    refine pure_ (i := 7) (N := some 46) (v := ?_) (a' := ?_) #[true, true, true, true, true, true, true, true, false, false, false, false, false, false, false, false, false] rfl rfl (any_of HT_.out (by kernel_rfl)) (fun _ _ _ h => h) (Or.inl ⟨by rfl, ?_⟩) ?_ ?_
    rotate_left
    · intro w'
      go_simp
      try with_reducible rfl
    rotate_left
    · simp only [Act.put, List.setIfInBounds_toArray, List.set_cons_zero, List.set_cons_succ, i64_w, i32_w]
      rfl
    refine take_ (i := 8) (N := some 47) (v := ?_) (a' := ?_) #[true, true, true, true, true, true, true, true, true, false, false, false, false, false, false, false, false] rfl rfl (take_ofW HT_.out HW_.out (by kernel_rfl)) (fun _ _ _ h => h) (Or.inl ⟨by rfl, ?_⟩) hHeld ?_ ?_
    rotate_left
    · rintro w' ⟨s0, s1, s2, s3⟩
      go_simp
      try with_reducible rfl
    rotate_left
    · simp only [Act.put, List.setIfInBounds_toArray, List.set_cons_zero, List.set_cons_succ, i64_w, i32_w]
      rfl
    refine pure_ (i := 9) (N := some 48) (v := ?_) (a' := ?_) #[true, true, true, true, true, true, true, true, true, true, false, false, false, false, false, false, false] rfl rfl (any_of HT_.out (by kernel_rfl)) (fun _ _ _ h => h) (Or.inl ⟨by rfl, ?_⟩) ?_ ?_
    rotate_left
    · intro w'
      go_simp
      try with_reducible rfl
    rotate_left
    · simp only [Act.put, List.setIfInBounds_toArray, List.set_cons_zero, List.set_cons_succ, i64_w, i32_w]
      rfl
    refine take_ (i := 10) (N := some 49) (v := ?_) (a' := ?_) #[true, true, true, true, true, true, true, true, true, true, true, false, false, false, false, false, false] rfl rfl (take_ofW HT_.out HW_.out (by kernel_rfl)) (fun _ _ _ h => h) (Or.inl ⟨by rfl, ?_⟩) hHeld ?_ ?_
    rotate_left
    · rintro w' ⟨s0, s1, s2, s3⟩
      go_simp
      try with_reducible rfl
    rotate_left
    · simp only [Act.put, List.setIfInBounds_toArray, List.set_cons_zero, List.set_cons_succ, i64_w, i32_w]
      rfl
    refine pure_ (i := 11) (N := some 50) (v := ?_) (a' := ?_) #[true, true, true, true, true, true, true, true, true, true, true, true, false, false, false, false, false] rfl rfl (any_of HT_.out (by kernel_rfl)) (fun _ _ _ h => h) (Or.inl ⟨by rfl, ?_⟩) ?_ ?_
    rotate_left
    · intro w'
      go_simp
      try with_reducible rfl
    rotate_left
    · simp only [Act.put, List.setIfInBounds_toArray, List.set_cons_zero, List.set_cons_succ, i64_w, i32_w]
      rfl
    refine pure_ (i := 12) (N := some 51) (v := ?_) (a' := ?_) #[true, true, true, true, true, true, true, true, true, true, true, true, true, false, false, false, false] rfl rfl (any_of HT_.out (by kernel_rfl)) (fun _ _ _ h => h) (Or.inl ⟨by rfl, ?_⟩) ?_ ?_
    rotate_left
    · intro w'
      go_simp
      try with_reducible rfl
    rotate_left
    · simp only [Act.put, List.setIfInBounds_toArray, List.set_cons_zero, List.set_cons_succ, i64_w, i32_w]
      rfl
    refine pure_ (i := 13) (N := some 52) (v := ?_) (a' := ?_) #[true, true, true, true, true, true, true, true, true, true, true, true, true, true, false, false, false] rfl rfl (any_of HT_.out (by kernel_rfl)) (fun _ _ _ h => h) (Or.inl ⟨by rfl, ?_⟩) ?_ ?_
    rotate_left
    · intro w'
      go_simp
      try with_reducible rfl
    rotate_left
    · simp only [Act.put, List.setIfInBounds_toArray, List.set_cons_zero, List.set_cons_succ, i64_w, i32_w]
      rfl
    refine pure_ (i := 14) (N := some 53) (v := ?_) (a' := ?_) #[true, true, true, true, true, true, true, true, true, true, true, true, true, true, true, false, false] rfl rfl (any_of HT_.out (by kernel_rfl)) (fun _ _ _ h => h) (Or.inl ⟨by rfl, ?_⟩) ?_ ?_
    rotate_left
    · intro w'
      go_simp
      try with_reducible rfl
    rotate_left
    · simp only [Act.put, List.setIfInBounds_toArray, List.set_cons_zero, List.set_cons_succ, i64_w, i32_w]
      rfl
    refine pure_ (i := 15) (N := some 54) (v := ?_) (a' := ?_) #[true, true, true, true, true, true, true, true, true, true, true, true, true, true, true, true, false] rfl rfl (any_of HT_.out (by kernel_rfl)) (fun _ _ _ h => h) (Or.inl ⟨by rfl, ?_⟩) ?_ ?_
    rotate_left
    · intro w'
      go_simp
      try with_reducible rfl
    rotate_left
    · simp only [Act.put, List.setIfInBounds_toArray, List.set_cons_zero, List.set_cons_succ, i64_w, i32_w]
      rfl
    refine last_ (i := 16) (N := none) #[true, true, true, true, true, true, true, true, true, true, true, true, true, true, true, true, true] rfl rfl (one_of HT_.out (by kernel_rfl)) (by decide) (fun K hK => ?_)
    have hs0 : wb.cell? ⟨g, 3, none⟩ = some (.int .i64 n) := (blk_cell GB.out 3).trans rfl
    have hfs0 := blk_frozen GB.out 3
    refine skip_ (w1 := ?_) (by rfl) rfl ?_ ?_
    rotate_left
    · go_simp
      rfl
    have n1_ := Aside0.mk (blk_far (p := ⟨g, 3, none⟩) EB.out HNE.out (.int .i64 (wrap64 (n + wrap64 ((t.size : Int) - wrap64 (y - x))))))
    have n2_ := Aside0.mk (blk_put GB.out 3 (.int .i64 (wrap64 (n + wrap64 ((t.size : Int) - wrap64 (y - x))))) rfl)
    have n3_ := Aside0.mk (Kd.R_mono (ok' := fun _ => True) (Kd.R_far (p := ⟨g, 3, none⟩) (Kd.R_types HRl.out GB.out (by rw [show kP.E = [] from rfl]; decide)) (fun _ hk => hk.2) (.int .i64 (wrap64 (n + wrap64 ((t.size : Int) - wrap64 (y - x)))))) (fun _ _ => trivial))
    have n4_ := Aside0.mk (HFR.out.trans (Fr.set ⟨g, 3, none⟩ (.int .i64 (wrap64 (n + wrap64 ((t.size : Int) - wrap64 (y - x))))) (S := fun i => i = g) rfl) (fun i _ hi => hi))
    clear EB GB HRl hs0 hfs0 HFR
    generalize wb.setCell ⟨g, 3, none⟩ (.int .i64 (wrap64 (n + wrap64 ((t.size : Int) - wrap64 (y - x))))) = wc at n1_ n2_ n3_ n4_ ⊢
    have EB := n1_
    have GB := n2_
    have HRl := n3_
    have HFR := n4_
    clear n1_ n2_ n3_ n4_
    refine hK.out _ _ ?_
    clear hK K
    refine done_ (done_of HT_.out (by kernel_rfl)) ?_
    clear hHeld
    go_end0
    have hN := HN.out
    have hS := HS.out
    have hX := HX.out
    have hT := HT.out
    have hsz : t.data.toList.length = t.size := by simp
    have hlt := blk_lt HBF.out.c
    have hg0 := HBF.out.g0
    refine ⟨rfl, _, _, HBF.out.upd HFR.out GB.out (by rw [EHT.out, EL.out]; exact Kd.R_lower HRl.out (by omega)) ?_ ?_, HFR.out⟩
    · rw [tx_sp, List.length_append, List.length_append, List.length_take, List.length_drop, hsz]; unfold wrap64; omega
    · intro he; have := (sp_len P x.toNat y.toNat t (by omega)).1; rw [he] at this; simp at this
  )
end Go.Proofs.Ytpghnadlekafpaa.PBuf
