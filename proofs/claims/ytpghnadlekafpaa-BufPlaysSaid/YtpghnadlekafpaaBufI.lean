/- The last step undone; done again. -/
import Derived.Test.YtpghnadlekafpaaBufG
namespace Go.Proofs.Ytpghnadlekafpaa.PBuf
open Go.RowKit Go.Proofs.YtpghnadlekafpaaW.PrintWords Go.Proofs.YtpghnadlekafpaaW.PrintLast Go.Proofs.YtpghnadlekafpaaW.PrintMore
set_option linter.unusedVariables false
set_option linter.unusedSimpArgs false
theorem Q_typ {base g : Nat} {ok ok' S : Nat → Prop} {w w' : World} {V : Value} {xs : List St} (h : Kd.Q kS 63 w base ok V xs) (hf : Fr S w w') (ht : Typed w S) (hV : ∀ k, V.ownBlock = some k → ¬ S k) (hok : ∀ k, k < w.heap.size → ok k → ok' k) : Kd.Q kS 63 w' base ok' V xs := by
  obtain ⟨h0, inn, hq, hr⟩ := Kd.Q_mono (ok' := fun k => ok' k ∧ k < w.heap.size) (Kd.Q_bound h) (fun k hk => ⟨hok k hk.2.2.1 hk.1, hk.2.2.1⟩)
  refine Kd.Q_mono (ok := fun k => ok' k ∧ k < w.heap.size) ⟨h0, inn, q_move hq (fun k hk => hf.block k (q_lt hq k hk) (hV k hk)), hr.imp_ (fun _ _ hp => kS.M_mono (fun k hk => hk.1) (kS.M_move (fun k hk => ?_) (kS.M_bound hp)))⟩ (fun _ hk => hk.1)
  obtain ⟨_, _, hlt, q, hqE, cells, hc⟩ := hk
  rw [show kS.E = [40, 40] from rfl] at hqE
  have : q = 40 := by simpa using hqE
  exact typ_stay hf ht hlt hc (by rw [this]; decide)
theorem Undo_bf1 {w w1 : World} {base g : Nat} {Va Vb Va1 Vl : Value} {n : Int} {P : List Pc} {ys zs : List St} {x : St} (hB : Bf w base g Va Vb Vl n P (ys ++ [x]) zs) (hc : w1.heap[g]? = some (.cells #[Va1, Vb, Vl, .int .i64 n] 61 (0, 0))) (hQ : Kd.Q kS 63 w1 base (fun k => some k ≠ Vb.ownBlock) Va1 ys) (ho : Va1.ownBlock = Va.ownBlock) (hf : Fr (fun i => i = g) w w1) : Bf w1 base g Va1 Vb Vl n P ys zs := by
  have ht : Typed w (fun i => i = g) := fun i hi => hB.foot_typed i (.inl hi)
  have hgt : ∀ {V : Value} {ok : Nat → Prop} {xs : List St}, Kd.Q kS 63 w base ok V xs → ∀ k, V.ownBlock = some k → ¬ (k = g) := fun h k hk he => Kd.Q_ne h hB.c (by decide) (by rw [hk, he])
  exact ⟨hc, hB.g0, hQ, Q_typ (g := g) hB.f hf ht (hgt hB.f) (fun k _ hk => by rw [ho]; exact hk), R_typ hB.l (by rw [show kP.E = [] from rfl]; decide) hf ht, hB.n, hB.ne⟩
theorem Undo_bf2 {w w1 : World} {base g : Nat} {Va Vb Vb1 Vl : Value} {n : Int} {P : List Pc} {ys zs zs' : List St} (hB : Bf w base g Va Vb Vl n P ys zs) (hc : w1.heap[g]? = some (.cells #[Va, Vb1, Vl, .int .i64 n] 61 (0, 0))) (hQ : Kd.Q kS 63 w1 base (fun k => some k ≠ Va.ownBlock) Vb1 zs') (hat : Vb1.ownBlock = Vb.ownBlock ∨ ∃ b, Vb1.ownBlock = some b ∧ w.heap.size ≤ b) (hf : Fr (fun i => i = g ∨ some i = Vb.ownBlock) w w1) : Bf w1 base g Va Vb1 Vl n P ys zs' := by
  have ht : Typed w (fun i => i = g ∨ some i = Vb.ownBlock) := fun i hi => hB.foot_typed i (hi.elim .inl (fun h => .inr (.inr h)))
  exact ⟨hc, hB.g0, Q_typ (g := g) hB.p hf ht (fun k hk he => he.elim (fun e => Kd.Q_ne hB.p hB.c (by decide) (by rw [hk, e])) (fun e => hB.p.1 k hk e)) (fun k hlt hk => by rcases hat with h | ⟨b, h, hle⟩; rw [h]; exact hk; rw [h]; intro e; injection e with e; omega), hQ, R_typ hB.l (by rw [show kP.E = [] from rfl]; decide) hf ht, hB.n, hB.ne⟩
def undo6.T : Bool × List (List Nat × List Nat) := (true, [([], []), ([0], [0]), ([1], [1]), ([2], [2]), ([], []), ([3, 4], [3, 4])])
def undo6.B : List Nat := [0, 1, 3, 7, 0, 31]
theorem undo6.tab : rtab .any (opsOf Try.f12 6) = undo6.T := by kernel_rfl
theorem undo6.bits : waitsOk undo6.T.2 undo6.B = true := by kernel_rfl
set_option maxHeartbeats 1600000 in
set_option maxRecDepth 100000 in
theorem Undo_none (w : World) : Calls Try.prog 12 #[.pointer none] w fun e w' => e = .returned (.tuple #[.slice none 0 0, .bool false]) ∧ Below w.heap.size w w' := by
  go_enter Try.func12, Try.ntmps12
  go_wp2
  all_goals go_ret2
  all_goals exact ⟨rfl, Below.refl _ _⟩
set_option maxHeartbeats 1600000 in
set_option maxRecDepth 100000 in
theorem Undo_no {w : World} {base g : Nat} {Va Vb Vl : Value} {n : Int} {P : List Pc} {zs : List St} (hB : Bf w base g Va Vb Vl n P [] zs) : Calls Try.prog 12 #[.pointer (some ⟨g, 0, none⟩)] w fun e w' => e = .returned (.tuple #[.slice none 0 0, .bool false]) ∧ Below w.heap.size w w' := by
  obtain ⟨A, c, rfl, -⟩ := Kd.Q_slice hB.p
  have HP := Aside0.mk (pop_none 0 hB.c rfl)
  clear hB
  go_enter Try.func12, Try.ntmps12
  go_wp2_with (go_at_call 24; refine HP.out.mono ?_; rintro e w1 ⟨rfl, hb⟩; have HB := Aside0.mk hb; clear hb HP)
  all_goals go_ret2
  all_goals exact ⟨rfl, below_alloc HB.out _⟩
set_option maxHeartbeats 1600000 in
set_option maxRecDepth 100000 in
theorem Undo_yes {w : World} {base g : Nat} {Va Vb Vl : Value} {n : Int} {P : List Pc} {ys zs : List St} {x : St} (hB : Bf w base g Va Vb Vl n P (ys ++ [x]) zs) (hb : base ≤ w.heap.size) (hl : ys.length ≤ 1000000) (hl2 : zs.length ≤ 1000000) (hx : x.f1.length ≤ 1000000) (hok : ∀ i, i < x.f1.length → okAt P x.f1 i) :
    Calls Try.prog 12 #[.pointer (some ⟨g, 0, none⟩)] w fun e w' => ∃ Vr Va' Vb' Vl' n', e = .returned (.tuple #[Vr, .bool true]) ∧ Kd.R kX 40 w' w.heap.size (fun _ => True) Vr x.f1 ∧ Bf w' base g Va' Vb' Vl' n' (dosP P x.f1) ys (trim (zs ++ [x])) ∧ Fr (foot g Va Vb) w w' ∧ (∀ i, foot g Va' Vb' i → foot g Va Vb i ∨ w.heap.size ≤ i) := by
  have HPO := Aside0.mk (pop_some 0 hB.c rfl (by decide) hB.p hl)
  have HBF := Aside0.mk hB
  have HBS := Aside0.mk hb
  have HL2 := Aside0.mk hl2
  have HX := Aside0.mk hx
  have HOK := Aside0.mk hok
  clear hB hb hl hl2 hx hok
  go_enter Try.func12, Try.ntmps12
  go_wp2_with (go_at_call 24; refine HPO.out.mono ?_; clear HPO; rintro e w1 ⟨va, vb, rfl, hM, Va1, hc, hQ, ho, hF⟩; have HB1 := Aside0.mk (Undo_bf1 HBF.out hc hQ ho hF); have HM := Aside0.mk hM; have HF := Aside0.mk hF; have HO := Aside0.mk ho; clear hM hc hQ ho hF; obtain ⟨v0, v1, hcs, r0, r1⟩ := k63_openM HM.out; obtain ⟨rfl, rfl⟩ : va = v0 ∧ vb = v1 := (by injection hcs with h1 h2; injection h2 with h2 _; exact ⟨h1, h2⟩); obtain ⟨a0, c0, rfl, -⟩ := R_slice0 r0; obtain ⟨a1, c1, rfl, -⟩ := R_slice0 r1; clear r0 r1 hcs)
  all_goals (
    have hbb : Below w1.heap.size w1 (w1.alloc (.cells #[.slice a0 x.f0.length c0, .slice a1 x.f1.length c1] 63)).drew := below_drew1 (below_alloc (Below.refl _ _) _)
    have XB := Aside0.mk (blk_drew (blk_new w1 (.cells #[.slice a0 x.f0.length c0, .slice a1 x.f1.length c1] 63)))
    have n0_ := Aside0.mk (HB1.out.below hbb)
    have n1_ := Aside0.mk (Kd.M_below HM.out hbb)
    have n2_ := Aside0.mk (HF.out.trans (Fr.of_below (S := fun i => i = g) hbb) (fun i _ hi => hi))
    have XLT := Aside0.mk (show g < w1.heap.size from blk_lt HB1.out.c)
    have XLV := Aside0.mk (fun (k : Nat) (hk : Vb.ownBlock = some k) => Kd.Q_lt HB1.out.f k hk)
    clear HB1 HM HF hbb
    have HB1 := n0_
    have HM := n1_
    have HF := n2_
    clear n0_ n1_ n2_
    refine start_ (n := 6) (S := fun w' => w'.cell? ⟨w1.heap.size, 0, none⟩ = some (.slice a0 x.f0.length c0) ∧ w'.cell? ⟨w1.heap.size, 1, none⟩ = some (.slice a1 x.f1.length c1)) (ds := [5]) #[false, false, false, false, false, false] (by kernel_rfl) rfl rfl ⟨(blk_cell XB.out 0).trans rfl, (blk_cell XB.out 1).trans rfl⟩ (fun hHeld => ?_); refine with_tabW undo6.tab undo6.bits (fun HT_ HW_ => ?_)
    generalize (w1.alloc (.cells #[.slice a0 x.f0.length c0, .slice a1 x.f1.length c1] 63)).drew = w5 at HB1 HM HF XB hHeld ⊢
    refine pure_ (i := 0) (N := some 18) (v := ?_) (a' := ?_) #[true, false, false, false, false, false] rfl rfl (any_of HT_.out (by kernel_rfl)) (fun _ _ _ h => h) (Or.inl ⟨by rfl, ?_⟩) ?_ ?_
    rotate_left
    · intro w'
      go_simp
      try with_reducible rfl
    rotate_left
    · simp only [Act.put, List.setIfInBounds_toArray, List.set_cons_zero, List.set_cons_succ, i64_w, i32_w]
      rfl
    refine pure_ (i := 1) (N := some 19) (v := ?_) (a' := ?_) #[true, true, false, false, false, false] rfl rfl (any_of HT_.out (by kernel_rfl)) (fun _ _ _ h => h) (Or.inl ⟨by rfl, ?_⟩) ?_ ?_
    rotate_left
    · intro w'
      go_simp
      try with_reducible rfl
    rotate_left
    · simp only [Act.put, List.setIfInBounds_toArray, List.set_cons_zero, List.set_cons_succ, i64_w, i32_w]
      rfl
    refine pure_ (i := 2) (N := some 20) (v := ?_) (a' := ?_) #[true, true, true, false, false, false] rfl rfl (any_of HT_.out (by kernel_rfl)) (fun _ _ _ h => h) (Or.inl ⟨by rfl, ?_⟩) ?_ ?_
    rotate_left
    · intro w'
      go_simp
      try with_reducible rfl
    rotate_left
    · simp only [Act.put, List.setIfInBounds_toArray, List.set_cons_zero, List.set_cons_succ, i64_w, i32_w]
      rfl
    refine pure_ (i := 3) (N := some 21) (v := ?_) (a' := ?_) #[true, true, true, true, false, false] rfl rfl (any_of HT_.out (by kernel_rfl)) (fun _ _ _ h => h) (Or.inl ⟨by rfl, ?_⟩) ?_ ?_
    rotate_left
    · intro w'
      go_simp
      try with_reducible rfl
    rotate_left
    · simp only [Act.put, List.setIfInBounds_toArray, List.set_cons_zero, List.set_cons_succ, i64_w, i32_w]
      rfl
    refine take_ (i := 4) (N := some 22) (v := ?_) (a' := ?_) #[true, true, true, true, true, false] rfl rfl (take_ofW HT_.out HW_.out (by kernel_rfl)) (fun _ _ _ h => h) (Or.inl ⟨by rfl, ?_⟩) hHeld ?_ ?_
    rotate_left
    · rintro w' ⟨s0, s1⟩
      go_simp
      try with_reducible rfl
    rotate_left
    · simp only [Act.put, List.setIfInBounds_toArray, List.set_cons_zero, List.set_cons_succ, i64_w, i32_w]
      rfl
    refine last_ (i := 5) (N := some 23) #[true, true, true, true, true, true] rfl rfl (one_of HT_.out (by kernel_rfl)) (by decide) (fun K hK => ?_)
    refine goes_ Try.func25 (by kernel_rfl) rfl #[.pointer (some ⟨g, 1, none⟩), .agg #[.slice a0 x.f0.length c0, .slice a1 x.f1.length c1], .int .i64 1000] (by rfl) rfl rfl (by (try simp only [List.map_toArray, List.map_cons, List.map_nil]); first | done | rfl) ?_
    refine (push 1 HB1.out.c rfl (by decide) HB1.out.f (fun k hk he => by have := Kd.Q_lt HB1.out.p k he.symm; omega) (Nat.le_trans HBS.out HF.out.size) HB1.out.g0 _ _ x HM.out (fun k hk => ⟨fun he => hk.2 (he.trans HO.out), hk.1⟩) HL2.out).mono ?_
    rintro e w6 ⟨rfl, Vb1, hc, hQ, hF6, hat⟩
    refine ⟨_, rfl, ?_⟩
    have HB6 := Aside0.mk (Undo_bf2 HB1.out hc hQ hat hF6)
    have HT6 : Typed w5 (fun i => i = g ∨ some i = Vb.ownBlock) := fun i hi => HB1.out.foot_typed i (hi.elim .inl (fun h => .inr (.inr h)))
    have HM6 := Aside0.mk (M_typ HM.out hF6 HT6)
    have HX6 := Aside0.mk ((hF6.block w1.heap.size (blk_lt XB.out) (fun hi => hi.elim (fun e => by have := XLT.out; omega) (fun e => by have := XLV.out _ e.symm; omega))).trans XB.out)
    have HF6 := Aside0.mk ((HF.out.mono (S' := foot g Va Vb) (fun i _ hi => .inl hi)).trans (hF6.mono (S' := foot g Va Vb) (fun i _ hi => hi.elim .inl (fun h => .inr (.inr h)))) (fun i _ hi => hi))
    have HA6 := Aside0.mk (show Vb1.ownBlock = Vb.ownBlock ∨ ∃ b, Vb1.ownBlock = some b ∧ w.heap.size ≤ b from hat.imp id (fun ⟨b, e, hle⟩ => ⟨b, e, Nat.le_trans HF.out.size hle⟩))
    clear hc hQ hF6 hat HT6 HB1 HM HF XB XLV
    refine hK.out _ _ ?_
    clear hK K
    refine done_ (done_of HT_.out (by kernel_rfl)) ?_
    clear hHeld
    have kx : w6.cell? ⟨w1.heap.size, 1, none⟩ = some (.slice a1 x.f1.length c1) := (blk_cell HX6.out 1).trans rfl
    obtain ⟨v0, v1, hcs, r0, r1⟩ := k63_openM HM6.out
    obtain ⟨rfl, rfl⟩ : Value.slice a0 x.f0.length c0 = v0 ∧ Value.slice a1 x.f1.length c1 = v1 := (by injection hcs with h1 h2; injection h2 with h2 _; exact ⟨h1, h2⟩)
    have HR6 := Aside0.mk r1
    clear r0 r1 hcs
    go_wp2_with (first | (go_at_call 26; refine (do_ HB6.out a1 c1 x.f1 HR6.out (by have := HX.out; omega) HOK.out).mono ?_; rintro e w7 ⟨rfl, Vl7, n7, hB7, hF7⟩; have HR7 := Aside0.mk (R_fr HR6.out HB6.out hF7); have HB7 := Aside0.mk hB7; have HX7 := Aside0.mk ((hF7.block w1.heap.size (blk_lt HX6.out) (fun e => by have := XLT.out; omega)).trans HX6.out); have HF7 := Aside0.mk (HF6.out.trans (hF7.mono (S' := foot g Va Vb) (fun i _ hi => .inl hi)) (fun i _ hi => hi)); clear hB7 hF7 HB6 HR6 HX6 HF6 HM6 kx; have kx : w7.cell? ⟨w1.heap.size, 1, none⟩ = some (.slice a1 x.f1.length c1) := (blk_cell HX7.out 1).trans rfl; obtain ⟨-, -, hC⟩ := Kd.Q_reads' (Kd.Q_of_R HR7.out); have HC7 := Aside0.mk hC; clear hC) | ((with_reducible refine gate_builtin (b := .append) (xs := #[.const (.slice none 0 0), .tmp 29]) rfl ?_); at_builtin; refine Kd.R_append_rows kX (Rr := kX.K w7) (w0 := w7) w.heap.size rfl (.const (.slice none 0 0)) (.tmp 29) 29 40 (.agg #[(.int .i64 0), (.int .i64 0), (.string ⟨#[]⟩)]) 32 rfl Try.underlying29 info40 rfl (by decide) (by omega) (.slice none 0 0) [] x.f1 a1 x.f1.length c1 (fun _ => True) (fun _ => False) rfl rfl (Kd.R_nil _ _ _ _ _) HC7.out (fun x cs h => by obtain rfl := k40_open h; exact k40_mkM _ _ _ x) (fun _ h => h.elim) (fun _ _ => trivial) (Below.refl _ _) HF7.out.size (by have := HX.out; simp only [List.length_nil]; omega) ?_; intro Vr w8 hR hb hg hat; rw [List.nil_append] at hR; have hbb : Below w7.heap.size w7 w8 := (Below.refl _ _).grown hg (Nat.le_refl _) (fun k hk => by simp [Value.ownBlock] at hk); have HRr := Aside0.mk hR; have HB8 := Aside0.mk (HB7.out.below hbb); have HF8 := Aside0.mk (HF7.out.trans (Fr.of_below (S := foot g Va Vb) hbb) (fun i _ hi => hi)); clear hR hb hg hat hbb HR7 HB7 HX7 HF7 HC7 kx))
    all_goals go_ret2
    all_goals refine ⟨_, _, _, _, _, rfl, HRr.out, HB8.out, HF8.out, ?_⟩
    all_goals (
      intro i hi
      rcases hi with hi | hi | hi
      · exact .inl (.inl hi)
      · exact .inl (.inr (.inl (hi.trans HO.out)))
      · exact HA6.out.elim (fun h => .inl (.inr (.inr (hi.trans h)))) (fun ⟨b, h, hle⟩ => .inr (by rw [h] at hi; injection hi with hi; omega)))
    )
theorem Redo_bf1 {w w1 : World} {base g : Nat} {Va Vb Va1 Vl : Value} {n : Int} {P : List Pc} {ys zs : List St} {x : St} (hB : Bf w base g Vb Va Vl n P zs (ys ++ [x])) (hc : w1.heap[g]? = some (.cells #[Vb, Va1, Vl, .int .i64 n] 61 (0, 0))) (hQ : Kd.Q kS 63 w1 base (fun k => some k ≠ Vb.ownBlock) Va1 ys) (ho : Va1.ownBlock = Va.ownBlock) (hf : Fr (fun i => i = g) w w1) : Bf w1 base g Vb Va1 Vl n P zs ys := by
  have ht : Typed w (fun i => i = g) := fun i hi => hB.foot_typed i (.inl hi)
  have hgt : ∀ {V : Value} {ok : Nat → Prop} {xs : List St}, Kd.Q kS 63 w base ok V xs → ∀ k, V.ownBlock = some k → ¬ (k = g) := fun h k hk he => Kd.Q_ne h hB.c (by decide) (by rw [hk, he])
  exact ⟨hc, hB.g0, Q_typ (g := g) hB.p hf ht (hgt hB.p) (fun k _ hk => by rw [ho]; exact hk), hQ, R_typ hB.l (by rw [show kP.E = [] from rfl]; decide) hf ht, hB.n, hB.ne⟩
theorem Redo_bf2 {w w1 : World} {base g : Nat} {Va Vb Vb1 Vl : Value} {n : Int} {P : List Pc} {ys zs zs' : List St} (hB : Bf w base g Vb Va Vl n P zs ys) (hc : w1.heap[g]? = some (.cells #[Vb1, Va, Vl, .int .i64 n] 61 (0, 0))) (hQ : Kd.Q kS 63 w1 base (fun k => some k ≠ Va.ownBlock) Vb1 zs') (hat : Vb1.ownBlock = Vb.ownBlock ∨ ∃ b, Vb1.ownBlock = some b ∧ w.heap.size ≤ b) (hf : Fr (fun i => i = g ∨ some i = Vb.ownBlock) w w1) : Bf w1 base g Vb1 Va Vl n P zs' ys := by
  have ht : Typed w (fun i => i = g ∨ some i = Vb.ownBlock) := fun i hi => hB.foot_typed i (hi.elim .inl (fun h => .inr (.inl h)))
  exact ⟨hc, hB.g0, hQ, Q_typ (g := g) hB.f hf ht (fun k hk he => he.elim (fun e => Kd.Q_ne hB.f hB.c (by decide) (by rw [hk, e])) (fun e => hB.f.1 k hk e)) (fun k hlt hk => by rcases hat with h | ⟨b, h, hle⟩; rw [h]; exact hk; rw [h]; intro e; injection e with e; omega), R_typ hB.l (by rw [show kP.E = [] from rfl]; decide) hf ht, hB.n, hB.ne⟩
def redo6.T : Bool × List (List Nat × List Nat) := (true, [([], []), ([0], [0]), ([1], [1]), ([2], [2]), ([], []), ([3, 4], [3, 4])])
def redo6.B : List Nat := [0, 1, 3, 7, 0, 31]
theorem redo6.tab : rtab .any (opsOf Try.f22 6) = redo6.T := by kernel_rfl
theorem redo6.bits : waitsOk redo6.T.2 redo6.B = true := by kernel_rfl
set_option maxHeartbeats 1600000 in
set_option maxRecDepth 100000 in
theorem Redo_none (w : World) : Calls Try.prog 22 #[.pointer none] w fun e w' => e = .returned (.tuple #[.slice none 0 0, .bool false]) ∧ Below w.heap.size w w' := by
  go_enter Try.func22, Try.ntmps22
  go_wp2
  all_goals go_ret2
  all_goals exact ⟨rfl, Below.refl _ _⟩
set_option maxHeartbeats 1600000 in
set_option maxRecDepth 100000 in
theorem Redo_no {w : World} {base g : Nat} {Va Vb Vl : Value} {n : Int} {P : List Pc} {zs : List St} (hB : Bf w base g Vb Va Vl n P zs []) : Calls Try.prog 22 #[.pointer (some ⟨g, 0, none⟩)] w fun e w' => e = .returned (.tuple #[.slice none 0 0, .bool false]) ∧ Below w.heap.size w w' := by
  obtain ⟨A, c, rfl, -⟩ := Kd.Q_slice hB.f
  have HP := Aside0.mk (pop_none 1 hB.c rfl)
  clear hB
  go_enter Try.func22, Try.ntmps22
  go_wp2_with (go_at_call 24; refine HP.out.mono ?_; rintro e w1 ⟨rfl, hb⟩; have HB := Aside0.mk hb; clear hb HP)
  all_goals go_ret2
  all_goals exact ⟨rfl, below_alloc HB.out _⟩
set_option maxHeartbeats 1600000 in
set_option maxRecDepth 100000 in
theorem Redo_yes {w : World} {base g : Nat} {Va Vb Vl : Value} {n : Int} {P : List Pc} {ys zs : List St} {x : St} (hB : Bf w base g Vb Va Vl n P zs (ys ++ [x])) (hb : base ≤ w.heap.size) (hl : ys.length ≤ 1000000) (hl2 : zs.length ≤ 1000000) (hx : x.f0.length ≤ 1000000) (hok : ∀ i, i < x.f0.length → okAt P x.f0 i) :
    Calls Try.prog 22 #[.pointer (some ⟨g, 0, none⟩)] w fun e w' => ∃ Vr Va' Vb' Vl' n', e = .returned (.tuple #[Vr, .bool true]) ∧ Kd.R kX 40 w' w.heap.size (fun _ => True) Vr x.f0 ∧ Bf w' base g Vb' Va' Vl' n' (dosP P x.f0) (trim (zs ++ [x])) ys ∧ Fr (foot g Vb Va) w w' ∧ (∀ i, foot g Vb' Va' i → foot g Vb Va i ∨ w.heap.size ≤ i) := by
  have HPO := Aside0.mk (pop_some 1 hB.c rfl (by decide) hB.f hl)
  have HBF := Aside0.mk hB
  have HBS := Aside0.mk hb
  have HL2 := Aside0.mk hl2
  have HX := Aside0.mk hx
  have HOK := Aside0.mk hok
  clear hB hb hl hl2 hx hok
  go_enter Try.func22, Try.ntmps22
  go_wp2_with (go_at_call 24; refine HPO.out.mono ?_; clear HPO; rintro e w1 ⟨va, vb, rfl, hM, Va1, hc, hQ, ho, hF⟩; have HB1 := Aside0.mk (Redo_bf1 HBF.out hc hQ ho hF); have HM := Aside0.mk hM; have HF := Aside0.mk hF; have HO := Aside0.mk ho; clear hM hc hQ ho hF; obtain ⟨v0, v1, hcs, r0, r1⟩ := k63_openM HM.out; obtain ⟨rfl, rfl⟩ : va = v0 ∧ vb = v1 := (by injection hcs with h1 h2; injection h2 with h2 _; exact ⟨h1, h2⟩); obtain ⟨a0, c0, rfl, -⟩ := R_slice0 r0; obtain ⟨a1, c1, rfl, -⟩ := R_slice0 r1; clear r0 r1 hcs)
  all_goals (
    have hbb : Below w1.heap.size w1 (w1.alloc (.cells #[.slice a0 x.f0.length c0, .slice a1 x.f1.length c1] 63)).drew := below_drew1 (below_alloc (Below.refl _ _) _)
    have XB := Aside0.mk (blk_drew (blk_new w1 (.cells #[.slice a0 x.f0.length c0, .slice a1 x.f1.length c1] 63)))
    have n0_ := Aside0.mk (HB1.out.below hbb)
    have n1_ := Aside0.mk (Kd.M_below HM.out hbb)
    have n2_ := Aside0.mk (HF.out.trans (Fr.of_below (S := fun i => i = g) hbb) (fun i _ hi => hi))
    have XLT := Aside0.mk (show g < w1.heap.size from blk_lt HB1.out.c)
    have XLV := Aside0.mk (fun (k : Nat) (hk : Vb.ownBlock = some k) => Kd.Q_lt HB1.out.p k hk)
    clear HB1 HM HF hbb
    have HB1 := n0_
    have HM := n1_
    have HF := n2_
    clear n0_ n1_ n2_
    refine start_ (n := 6) (S := fun w' => w'.cell? ⟨w1.heap.size, 0, none⟩ = some (.slice a0 x.f0.length c0) ∧ w'.cell? ⟨w1.heap.size, 1, none⟩ = some (.slice a1 x.f1.length c1)) (ds := [5]) #[false, false, false, false, false, false] (by kernel_rfl) rfl rfl ⟨(blk_cell XB.out 0).trans rfl, (blk_cell XB.out 1).trans rfl⟩ (fun hHeld => ?_); refine with_tabW redo6.tab redo6.bits (fun HT_ HW_ => ?_)
    generalize (w1.alloc (.cells #[.slice a0 x.f0.length c0, .slice a1 x.f1.length c1] 63)).drew = w5 at HB1 HM HF XB hHeld ⊢
    refine pure_ (i := 0) (N := some 18) (v := ?_) (a' := ?_) #[true, false, false, false, false, false] rfl rfl (any_of HT_.out (by kernel_rfl)) (fun _ _ _ h => h) (Or.inl ⟨by rfl, ?_⟩) ?_ ?_
    rotate_left
    · intro w'
      go_simp
      try with_reducible rfl
    rotate_left
    · simp only [Act.put, List.setIfInBounds_toArray, List.set_cons_zero, List.set_cons_succ, i64_w, i32_w]
      rfl
    refine pure_ (i := 1) (N := some 19) (v := ?_) (a' := ?_) #[true, true, false, false, false, false] rfl rfl (any_of HT_.out (by kernel_rfl)) (fun _ _ _ h => h) (Or.inl ⟨by rfl, ?_⟩) ?_ ?_
    rotate_left
    · intro w'
      go_simp
      try with_reducible rfl
    rotate_left
    · simp only [Act.put, List.setIfInBounds_toArray, List.set_cons_zero, List.set_cons_succ, i64_w, i32_w]
      rfl
    refine pure_ (i := 2) (N := some 20) (v := ?_) (a' := ?_) #[true, true, true, false, false, false] rfl rfl (any_of HT_.out (by kernel_rfl)) (fun _ _ _ h => h) (Or.inl ⟨by rfl, ?_⟩) ?_ ?_
    rotate_left
    · intro w'
      go_simp
      try with_reducible rfl
    rotate_left
    · simp only [Act.put, List.setIfInBounds_toArray, List.set_cons_zero, List.set_cons_succ, i64_w, i32_w]
      rfl
    refine pure_ (i := 3) (N := some 21) (v := ?_) (a' := ?_) #[true, true, true, true, false, false] rfl rfl (any_of HT_.out (by kernel_rfl)) (fun _ _ _ h => h) (Or.inl ⟨by rfl, ?_⟩) ?_ ?_
    rotate_left
    · intro w'
      go_simp
      try with_reducible rfl
    rotate_left
    · simp only [Act.put, List.setIfInBounds_toArray, List.set_cons_zero, List.set_cons_succ, i64_w, i32_w]
      rfl
    refine take_ (i := 4) (N := some 22) (v := ?_) (a' := ?_) #[true, true, true, true, true, false] rfl rfl (take_ofW HT_.out HW_.out (by kernel_rfl)) (fun _ _ _ h => h) (Or.inl ⟨by rfl, ?_⟩) hHeld ?_ ?_
    rotate_left
    · rintro w' ⟨s0, s1⟩
      go_simp
      try with_reducible rfl
    rotate_left
    · simp only [Act.put, List.setIfInBounds_toArray, List.set_cons_zero, List.set_cons_succ, i64_w, i32_w]
      rfl
    refine last_ (i := 5) (N := some 23) #[true, true, true, true, true, true] rfl rfl (one_of HT_.out (by kernel_rfl)) (by decide) (fun K hK => ?_)
    refine goes_ Try.func25 (by kernel_rfl) rfl #[.pointer (some ⟨g, 0, none⟩), .agg #[.slice a0 x.f0.length c0, .slice a1 x.f1.length c1], .int .i64 1000] (by rfl) rfl rfl (by (try simp only [List.map_toArray, List.map_cons, List.map_nil]); first | done | rfl) ?_
    refine (push 0 HB1.out.c rfl (by decide) HB1.out.p (fun k hk he => by have := Kd.Q_lt HB1.out.f k he.symm; omega) (Nat.le_trans HBS.out HF.out.size) HB1.out.g0 _ _ x HM.out (fun k hk => ⟨fun he => hk.2 (he.trans HO.out), hk.1⟩) HL2.out).mono ?_
    rintro e w6 ⟨rfl, Vb1, hc, hQ, hF6, hat⟩
    refine ⟨_, rfl, ?_⟩
    have HB6 := Aside0.mk (Redo_bf2 HB1.out hc hQ hat hF6)
    have HT6 : Typed w5 (fun i => i = g ∨ some i = Vb.ownBlock) := fun i hi => HB1.out.foot_typed i (hi.elim .inl (fun h => .inr (.inl h)))
    have HM6 := Aside0.mk (M_typ HM.out hF6 HT6)
    have HX6 := Aside0.mk ((hF6.block w1.heap.size (blk_lt XB.out) (fun hi => hi.elim (fun e => by have := XLT.out; omega) (fun e => by have := XLV.out _ e.symm; omega))).trans XB.out)
    have HF6 := Aside0.mk ((HF.out.mono (S' := foot g Vb Va) (fun i _ hi => .inl hi)).trans (hF6.mono (S' := foot g Vb Va) (fun i _ hi => hi.elim .inl (fun h => .inr (.inl h)))) (fun i _ hi => hi))
    have HA6 := Aside0.mk (show Vb1.ownBlock = Vb.ownBlock ∨ ∃ b, Vb1.ownBlock = some b ∧ w.heap.size ≤ b from hat.imp id (fun ⟨b, e, hle⟩ => ⟨b, e, Nat.le_trans HF.out.size hle⟩))
    clear hc hQ hF6 hat HT6 HB1 HM HF XB XLV
    refine hK.out _ _ ?_
    clear hK K
    refine done_ (done_of HT_.out (by kernel_rfl)) ?_
    clear hHeld
    have kx : w6.cell? ⟨w1.heap.size, 0, none⟩ = some (.slice a0 x.f0.length c0) := (blk_cell HX6.out 0).trans rfl
    obtain ⟨v0, v1, hcs, r0, r1⟩ := k63_openM HM6.out
    obtain ⟨rfl, rfl⟩ : Value.slice a0 x.f0.length c0 = v0 ∧ Value.slice a1 x.f1.length c1 = v1 := (by injection hcs with h1 h2; injection h2 with h2 _; exact ⟨h1, h2⟩)
    have HR6 := Aside0.mk r0
    clear r0 r1 hcs
    go_wp2_with (first | (go_at_call 26; refine (do_ HB6.out a0 c0 x.f0 HR6.out (by have := HX.out; omega) HOK.out).mono ?_; rintro e w7 ⟨rfl, Vl7, n7, hB7, hF7⟩; have HR7 := Aside0.mk (R_fr HR6.out HB6.out hF7); have HB7 := Aside0.mk hB7; have HX7 := Aside0.mk ((hF7.block w1.heap.size (blk_lt HX6.out) (fun e => by have := XLT.out; omega)).trans HX6.out); have HF7 := Aside0.mk (HF6.out.trans (hF7.mono (S' := foot g Vb Va) (fun i _ hi => .inl hi)) (fun i _ hi => hi)); clear hB7 hF7 HB6 HR6 HX6 HF6 HM6 kx; have kx : w7.cell? ⟨w1.heap.size, 0, none⟩ = some (.slice a0 x.f0.length c0) := (blk_cell HX7.out 0).trans rfl; obtain ⟨-, -, hC⟩ := Kd.Q_reads' (Kd.Q_of_R HR7.out); have HC7 := Aside0.mk hC; clear hC) | ((with_reducible refine gate_builtin (b := .append) (xs := #[.const (.slice none 0 0), .tmp 29]) rfl ?_); at_builtin; refine Kd.R_append_rows kX (Rr := kX.K w7) (w0 := w7) w.heap.size rfl (.const (.slice none 0 0)) (.tmp 29) 29 40 (.agg #[(.int .i64 0), (.int .i64 0), (.string ⟨#[]⟩)]) 32 rfl Try.underlying29 info40 rfl (by decide) (by omega) (.slice none 0 0) [] x.f0 a0 x.f0.length c0 (fun _ => True) (fun _ => False) rfl rfl (Kd.R_nil _ _ _ _ _) HC7.out (fun x cs h => by obtain rfl := k40_open h; exact k40_mkM _ _ _ x) (fun _ h => h.elim) (fun _ _ => trivial) (Below.refl _ _) HF7.out.size (by have := HX.out; simp only [List.length_nil]; omega) ?_; intro Vr w8 hR hb hg hat; rw [List.nil_append] at hR; have hbb : Below w7.heap.size w7 w8 := (Below.refl _ _).grown hg (Nat.le_refl _) (fun k hk => by simp [Value.ownBlock] at hk); have HRr := Aside0.mk hR; have HB8 := Aside0.mk (HB7.out.below hbb); have HF8 := Aside0.mk (HF7.out.trans (Fr.of_below (S := foot g Vb Va) hbb) (fun i _ hi => hi)); clear hR hb hg hat hbb HR7 HB7 HX7 HF7 HC7 kx))
    all_goals go_ret2
    all_goals refine ⟨_, _, _, _, _, rfl, HRr.out, HB8.out, HF8.out, ?_⟩
    all_goals (
      intro i hi
      rcases hi with hi | hi | hi
      · exact .inl (.inl hi)
      · exact HA6.out.elim (fun h => .inl (.inr (.inl (hi.trans h)))) (fun ⟨b, h, hle⟩ => .inr (by rw [h] at hi; injection hi with hi; omega))
      · exact .inl (.inr (.inr (hi.trans HO.out))))
    )
end Go.Proofs.Ytpghnadlekafpaa.PBuf
