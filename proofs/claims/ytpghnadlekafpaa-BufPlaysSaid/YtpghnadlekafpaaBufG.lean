/- A new buffer; a step added to a buffer's history. -/
import Derived.Test.YtpghnadlekafpaaBufA
namespace Go.Proofs.Ytpghnadlekafpaa.PBuf
open Go.RowKit Go.Proofs.YtpghnadlekafpaaW.PrintWords Go.Proofs.YtpghnadlekafpaaW.PrintLast Go.Proofs.YtpghnadlekafpaaW.PrintMore
set_option linter.unusedVariables false
set_option linter.unusedSimpArgs false
abbrev Typed (w : World) (S : Nat → Prop) : Prop := ∀ i, S i → ∃ cs t, w.heap[i]? = some (.cells cs t (0, 0)) ∧ (t = 61 ∨ t = 63)
theorem typ_stay {S : Nat → Prop} {w w' : World} (hf : Fr S w w') (ht : Typed w S) {k q : Nat} {cells : Array Value} (hlt : k < w.heap.size) (hc : w.heap[k]? = some (.cells cells q (0, 0))) (hq : q ≠ 61 ∧ q ≠ 63) : w'.heap[k]? = w.heap[k]? := by
  refine hf.block k hlt (fun hS => ?_)
  obtain ⟨cs, t, hc2, ht2⟩ := ht k hS
  rw [hc] at hc2
  injection hc2 with hc2
  injection hc2 with _ hc2
  subst hc2
  exact ht2.elim hq.1 hq.2
theorem R_typ {α : Type} {d : Kd α} {e base : Nat} {ok S : Nat → Prop} {w w' : World} {v : Value} {xs : List α} (h : d.R e w base ok v xs) (hE : ∀ q, q ∈ e :: d.E → q ≠ 61 ∧ q ≠ 63) (hf : Fr S w w') (ht : Typed w S) : d.R e w' base ok v xs :=
  Kd.R_mono (Kd.R_step (Kd.R_bound h) (fun k hk hlt => by obtain ⟨_, _, _, q, hq, cells, hc⟩ := hk; exact typ_stay hf ht hlt hc (hE q hq))) (fun _ hk => hk.1)
theorem M_typ {base : Nat} {ok S : Nat → Prop} {w w' : World} {x : St} {cx : List Value} (h : kS.M w base ok x cx) (hf : Fr S w w') (ht : Typed w S) : kS.M w' base ok x cx :=
  kS.M_mono (fun _ hk => hk.1) (Kd.M_step (kS.M_bound h) (fun k hk hlt => by
    obtain ⟨_, _, _, q, hq, cells, hc⟩ := hk
    rw [show kS.E = [40, 40] from rfl] at hq
    have : q = 40 := by simpa using hq
    exact typ_stay hf ht hlt hc (by rw [this]; decide)))
set_option maxHeartbeats 2000000 in
set_option maxRecDepth 100000 in
theorem New_long (s : ByteArray) (h : 1048576 < s.size) (w : World) : Calls Try.prog 9 #[.string s] w fun e w' => e = .returned (.tuple #[.pointer none, .int .i64 3]) ∧ Below w.heap.size w w' := by
  have d1 : decide ((s.size : Int) > 1048576) = true := decide_eq_true (by omega)
  have d1b : decide (1048576 < (s.size : Int)) = true := d1
  clear h
  go_enter Try.func9, Try.ntmps9
  go_wp2
  go_ret2
  exact ⟨rfl, Below.refl _ _⟩
set_option maxHeartbeats 2000000 in
set_option maxRecDepth 100000 in
theorem New (s : ByteArray) (h : s.size ≤ 1048576) (w : World) : Calls Try.prog 9 #[.string s] w fun e w' => ∃ g Vl, e = .returned (.tuple #[.pointer (some ⟨g, 0, none⟩), .int .i64 0]) ∧ Bf w' w.heap.size g (.slice none 0 0) (.slice none 0 0) Vl (s.size : Int) [⟨s⟩] [] [] ∧ Below w.heap.size w w' := by
  have d1 : decide ((s.size : Int) > 1048576) = false := decide_eq_false (by omega)
  have d1b : decide (1048576 < (s.size : Int)) = false := d1
  clear h
  go_enter Try.func9, Try.ntmps9
  go_wp2
  go_ret2
  have hb1 : Below w.heap.size w (w.alloc (.cells #[.string s] 53)) := below_alloc (Below.refl _ _) _
  have hsz : (w.alloc (.cells #[.string s] 53)).heap.size = w.heap.size + 1 := by simp
  refine ⟨w.heap.size + 1, .slice (some ⟨w.heap.size, 0, none⟩) 1 1, rfl, ⟨?_, by omega, Kd.Q_nil _ _ _ _ _, Kd.Q_nil _ _ _ _ _, ?_, ?_, by simp⟩, below_alloc hb1 _⟩
  · rw [← hsz]; exact blk_new _ _
  · refine Kd.R_alloc ?_ _
    have h2 := World.ownsRow_lit (base := w.heap.size) (e := 53) (size := 1) w #[.string s] 1 (Nat.le_refl _) (by simp [maxLen]) (by simp)
    exact R_of_own (H := [⟨s⟩]) h2
  · simp [tx, tP, Bu.jn]
def ad1.T : Bool × List (List Nat × List Nat) := (true, [([], []), ([0], [0]), ([1], [1]), ([], []), ([2, 3], [2, 3])])
def ad1.B : List Nat := [0, 1, 3, 0, 15]
theorem ad1.tab : rtab .any (opsOf Try.f31 1) = ad1.T := by kernel_rfl
theorem ad1.bits : waitsOk ad1.T.2 ad1.B = true := by kernel_rfl
set_option maxHeartbeats 4000000 in
set_option maxRecDepth 100000 in
theorem add_ {w : World} {base g : Nat} {Vp Vf Vl : Value} {n : Int} {P : List Pc} {past fut : List St} (hB : Bf w base g Vp Vf Vl n P past fut) (hb : base ≤ w.heap.size) (va vb : Value) (x : St) {okp : Nat → Prop} (hM : kS.M w base okp x [va, vb]) (hokp : ∀ k, okp k → some k ≠ Vf.ownBlock ∧ some k ≠ Vp.ownBlock) (hl : past.length ≤ 1000000) :
    Calls Try.prog 31 #[.pointer (some ⟨g, 0, none⟩), .agg #[va, vb]] w fun e w' => e = .returned (.tuple #[]) ∧ ∃ Vp', Bf w' base g Vp' (.slice none 0 0) Vl n P (trim (past ++ [x])) [] ∧ Fr (foot g Vp Vf) w w' ∧ (∀ i, foot g Vp' (.slice none 0 0) i → foot g Vp Vf i ∨ w.heap.size ≤ i) := by
  have hba : Below w.heap.size w (w.alloc (.cells #[va, vb] 63)) := below_alloc (Below.refl _ _) _
  have hone := kS.K_one (kS.K_of_M hM)
  have ho0 := hone va (by simp)
  have ho1 := hone vb (by simp)
  have HBS := Aside0.mk hb
  have HF0 := Aside0.mk (hB.foot_lt)
  have HB := Aside0.mk (hB.below (below_drew1 hba))
  have EB := Aside0.mk (blk_drew (blk_new w (.cells #[va, vb] 63)))
  have MX := Aside0.mk (Kd.M_below hM (below_drew1 hba))
  have HBW := Aside0.mk (below_drew1 hba)
  have HOK := Aside0.mk hokp
  have HL := Aside0.mk hl
  clear hB hb hM hokp hl hone hba
  go_enter Try.func31, Try.ntmps31
  go_wp2
  refine start_ (n := 5) (S := fun w' => w'.cell? ⟨w.heap.size, 0, none⟩ = some va ∧ w'.cell? ⟨w.heap.size, 1, none⟩ = some vb) (ds := [4]) #[false, false, false, false, false] (by kernel_rfl) rfl rfl ⟨(blk_cell EB.out 0).trans rfl, (blk_cell EB.out 1).trans rfl⟩ (fun hHeld => ?_); refine with_tabW ad1.tab ad1.bits (fun HT_ HW_ => ?_)
  generalize (w.alloc (.cells #[va, vb] 63)).drew = w5 at HB EB MX HBW hHeld ⊢
  refine pure_ (i := 0) (N := some 4) (v := ?_) (a' := ?_) #[true, false, false, false, false] rfl rfl (any_of HT_.out (by kernel_rfl)) (fun _ _ _ h => h) (Or.inl ⟨by rfl, ?_⟩) ?_ ?_
  rotate_left
  · intro w'
    go_simp
    try with_reducible rfl
  rotate_left
  · simp only [Act.put, List.setIfInBounds_toArray, List.set_cons_zero, List.set_cons_succ, i64_w, i32_w]
    rfl
  refine pure_ (i := 1) (N := some 5) (v := ?_) (a' := ?_) #[true, true, false, false, false] rfl rfl (any_of HT_.out (by kernel_rfl)) (fun _ _ _ h => h) (Or.inl ⟨by rfl, ?_⟩) ?_ ?_
  rotate_left
  · intro w'
    go_simp
    try with_reducible rfl
  rotate_left
  · simp only [Act.put, List.setIfInBounds_toArray, List.set_cons_zero, List.set_cons_succ, i64_w, i32_w]
    rfl
  refine pure_ (i := 2) (N := some 6) (v := ?_) (a' := ?_) #[true, true, true, false, false] rfl rfl (any_of HT_.out (by kernel_rfl)) (fun _ _ _ h => h) (Or.inl ⟨by rfl, ?_⟩) ?_ ?_
  rotate_left
  · intro w'
    go_simp
    try with_reducible rfl
  rotate_left
  · simp only [Act.put, List.setIfInBounds_toArray, List.set_cons_zero, List.set_cons_succ, i64_w, i32_w]
    rfl
  refine take_ (i := 3) (N := some 7) (v := ?_) (a' := ?_) #[true, true, true, true, false] rfl rfl (take_ofW HT_.out HW_.out (by kernel_rfl)) (fun _ _ _ h => h) (Or.inl ⟨by rfl, ?_⟩) hHeld ?_ ?_
  rotate_left
  · rintro w' ⟨s0, s1⟩
    go_simp
    try with_reducible rfl
  rotate_left
  · simp only [Act.put, List.setIfInBounds_toArray, List.set_cons_zero, List.set_cons_succ, i64_w, i32_w]
    rfl
  refine last_ (i := 4) (N := some 8) #[true, true, true, true, true] rfl rfl (one_of HT_.out (by kernel_rfl)) (by decide) (fun K hK => ?_)
  refine goes_ Try.func25 (by kernel_rfl) rfl #[.pointer (some ⟨g, 0, none⟩), .agg #[va, vb], .int .i64 1000] (by rfl) rfl rfl (by (try simp only [List.map_toArray, List.map_cons, List.map_nil]); first | done | rfl) ?_
  refine (push 0 HB.out.c rfl (by decide) HB.out.p (fun k hk he => by have := Kd.Q_lt HB.out.f k he.symm; omega) (Nat.le_trans HBS.out HBW.out.size) HB.out.g0 va vb x MX.out HOK.out HL.out).mono ?_
  rintro e w6 ⟨rfl, Vp1, hc, hQ, hF, hat⟩
  refine ⟨_, rfl, ?_⟩
  have n0_ := Aside0.mk hc
  have n1_ := Aside0.mk hQ
  have n2_ := Aside0.mk hF
  have n3_ := Aside0.mk hat
  clear hc hQ hF hat
  refine hK.out _ _ ?_
  clear hK K
  refine done_ (done_of HT_.out (by kernel_rfl)) ?_
  clear hHeld
  have cg1 : w6.cell? ⟨g, 1, none⟩ = some Vf := (blk_cell n0_.out 1).trans rfl
  have cf1 := blk_frozen n0_.out 1
  obtain ⟨af, cf, rfl, -⟩ := Kd.Q_slice HB.out.f
  go_wp2
  go_end0
  have hg := HB.out.g0
  have hFt : Typed w5 (fun i => i = g ∨ some i = Vp.ownBlock) := fun i hi => HB.out.foot_typed i (hi.elim .inl (fun h => .inr (.inl h)))
  have hGs : ∀ q, q ∈ 63 :: kS.E → q ≠ 61 := by rw [show kS.E = [40, 40] from rfl]; decide
  have hl1 := R_typ HB.out.l (by rw [show kP.E = [] from rfl]; decide) n2_.out hFt
  refine ⟨rfl, Vp1, ⟨blk_put n0_.out 1 (.slice none 0 0) rfl, hg, ?_, Kd.Q_nil _ _ _ _ _, ?_, HB.out.n, HB.out.ne⟩, ?_, ?_⟩
  · exact Kd.Q_mono (Kd.Q_set n1_.out n0_.out hGs 1 (.slice none 0 0)) (fun k _ => by simp [Value.ownBlock])
  · exact Kd.R_mono (Kd.R_far (p := ⟨g, 1, none⟩) (Kd.R_types hl1 n0_.out (by rw [show kP.E = [] from rfl]; decide)) (fun _ hk => hk.2) (.slice none 0 0)) (fun _ _ => trivial)
  · exact ((Fr.of_below (S := foot g Vp (.slice af fut.length cf)) HBW.out).trans (n2_.out.mono (S' := foot g Vp (.slice af fut.length cf)) (fun i _ hi => hi.elim .inl (fun h => .inr (.inl h)))) (fun i _ hi => hi)).trans (Fr.set (S := foot g Vp (.slice af fut.length cf)) ⟨g, 1, none⟩ (.slice none 0 0) (.inl rfl)) (fun i _ hi => hi)
  · intro i hi
    rcases hi with hi | hi | hi
    · exact .inl (.inl hi)
    · rcases n3_.out with h | ⟨b, h, hle⟩
      · exact .inl (.inr (.inl (hi.trans h)))
      · right
        rw [h] at hi
        injection hi with hi
        have := HBW.out.size
        omega
    · simp [Value.ownBlock] at hi
end Go.Proofs.Ytpghnadlekafpaa.PBuf
