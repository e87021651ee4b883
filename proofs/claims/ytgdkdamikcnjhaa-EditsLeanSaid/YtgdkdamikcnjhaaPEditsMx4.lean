-- WRITTEN by given.py of this claim's repo over the kit's printer, with functions walked by hand
import Derived.Test.YtgdkdamikcnjhaaPEditsMx0
import Derived.Test.YtgdkdamikcnjhaaBuilder
import Derived.StillTailTactics
import Derived.Outline
import Derived.Deep.DeepMust
import Derived.Deep.RegionHeld3
namespace Go.Proofs.Ytgdkdamikcnjhaa.PEditsM
open Go.RowKit Go.Proofs.YtgdkdamikcnjhaaW.PrintWords Go.Proofs.YtgdkdamikcnjhaaW.PrintLast Go.Proofs.YtgdkdamikcnjhaaW.PrintMore
attribute [local go_sem] max2_int min2_int max_two min_two max_three min_three max_four min_four   -- for this text's walks alone
set_option linter.unusedVariables false
set_option linter.unusedSimpArgs false

/-! ### edits_lean: function 23 -/
-- WALKED BY HAND (given)
def edits_lean.pre : List UInt8 → List UInt8 → Nat
  | a :: x, b :: y => if a = b then edits_lean.pre x y + 1 else 0
  | _, _ => 0
theorem edits_lean.pre_step (x y : List UInt8) (n : Nat) (hx : n < x.length) (hy : n < y.length) (h : x[n] = y[n]) : edits_lean.pre (x.drop n) (y.drop n) = edits_lean.pre (x.drop (n + 1)) (y.drop (n + 1)) + 1 := by
  rw [List.drop_eq_getElem_cons hx, List.drop_eq_getElem_cons hy]
  simp [edits_lean.pre, h]
theorem edits_lean.pre_stop (x y : List UInt8) (n : Nat) (hx : n < x.length) (hy : n < y.length) (h : x[n] ≠ y[n]) : edits_lean.pre (x.drop n) (y.drop n) = 0 := by
  rw [List.drop_eq_getElem_cons hx, List.drop_eq_getElem_cons hy]
  simp [edits_lean.pre, h]
theorem edits_lean.pre_end (x y : List UInt8) (n : Nat) (h : x.length ≤ n ∨ y.length ≤ n) : edits_lean.pre (x.drop n) (y.drop n) = 0 := by
  rcases h with h | h
  · rw [List.drop_eq_nil_of_le h]; simp [edits_lean.pre]
  · rw [List.drop_eq_nil_of_le h]; cases x.drop n <;> simp [edits_lean.pre]
theorem edits_lean.back_at (a : ByteArray) (x : Int) (h0 : 0 ≤ x) (h : x < (a.size : Int)) (hi : ((a.size : Int) - 1 - x).toNat < a.size) (hj : x.toNat < a.data.toList.reverse.length := by simp; omega) : a.data.toList.reverse[x.toNat] = a[((a.size : Int) - 1 - x).toNat] := by
  have e : ((a.size : Int) - 1 - x).toNat = a.data.toList.length - 1 - x.toNat := by
    have : a.data.toList.length = a.size := by simp
    omega
  simp only [List.getElem_reverse, e]
  rfl
theorem edits_lean.pre_le (x y : List UInt8) : edits_lean.pre x y ≤ x.length ∧ edits_lean.pre x y ≤ y.length := by
  induction x generalizing y with
  | nil => simp [edits_lean.pre]
  | cons a x ih =>
    cases y with
    | nil => simp [edits_lean.pre]
    | cons b y =>
      have := ih y
      simp only [edits_lean.pre, List.length_cons]
      split <;> omega
set_option maxHeartbeats 1000000 in
set_option maxRecDepth 100000 in
theorem edits_lean.same_front (a b : ByteArray) (w : World) (ha : a.size ≤ 140737488355328) (hb : b.size ≤ 140737488355328) :
    Calls Try.prog 30 #[.string a, .string b, .func (.func 31) #[] #[]] w fun e w' => e = .returned (.int .i64 (edits_lean.pre a.data.toList b.data.toList)) ∧ Drawn0 w w' := by
  go_enter Try.func30, Try.ntmps30
  go_wp2
  go_loopg [7] (a.size + 1) (fun kq v7 w' => ∃ (x7 : Int), v7 = .int .i64 x7 ∧ Aside0 (0 ≤ x7 ∧ kq + x7.toNat = a.size + 1 ∧ x7.toNat ≤ a.size ∧ x7.toNat ≤ b.size ∧ x7.toNat + edits_lean.pre (a.data.toList.drop x7.toNat) (b.data.toList.drop x7.toNat) = edits_lean.pre a.data.toList b.data.toList) ∧ Drawn0 w w')
  case atStart => exact ⟨0, rfl, ⟨by omega, by simp, by omega, by omega, by simp⟩, by repeat (first | exact Drawn0.refl _ | apply Drawn0.step)⟩
  case round =>
    obtain ⟨x7, rfl, HI, ⟨m1, rfl⟩⟩ := hrel
    have p1 : 0 ≤ x7 := HI.out.1
    have hsa : a.data.toList.length = a.size := by simp
    have hsb : b.data.toList.length = b.size := by simp
    have HA := Aside0.mk hsa
    have HBb := Aside0.mk hsb
    clear hsa hsb
    by_cases c1 : x7 < (a.size : Int)
    · have d1 : decide (x7 < (a.size : Int)) = true := decide_eq_true c1
      by_cases c2 : x7 < (b.size : Int)
      · have d2 : decide (x7 < (b.size : Int)) = true := decide_eq_true c2
        skip
        go_wp2
        · go_roundg (gk - 1)
          case measure => have := HI.out; omega
          case rel =>
            obtain ⟨h1, h2, h3, h4, h5⟩ := HI.out
            have hb0 := ‹(_ == _) = true›
            have e2 : (x7 + 1).toNat = x7.toNat + 1 := by omega
            have hs := edits_lean.pre_step a.data.toList b.data.toList x7.toNat (by have := HA.out; omega) (by have := HBb.out; omega) (by
              have hq := beq_iff_eq.1 hb0
              apply UInt8.toNat_inj.1; exact Int.ofNat.inj hq)
            exact ⟨x7 + 1, rfl, ⟨by omega, by omega, by omega, by omega, by rw [e2]; omega⟩, by repeat (first | exact Drawn0.refl _ | apply Drawn0.step)⟩
        · go_ret
          obtain ⟨h1, h2, h3, h4, h5⟩ := HI.out
          have hb0 := ‹(_ == _) = false›
          have hs := edits_lean.pre_stop a.data.toList b.data.toList x7.toNat (by have := HA.out; omega) (by have := HBb.out; omega) (by
              intro hq2
              have hq := beq_eq_false_iff_ne.1 hb0
              apply hq
              exact congrArg (fun z : UInt8 => (z.toNat : Int)) hq2)
          have he : x7 = ((edits_lean.pre a.data.toList b.data.toList : Nat) : Int) := by omega
          exact ⟨by rw [← he]; rfl, by repeat (first | exact Drawn0.refl _ | apply Drawn0.step)⟩
      · have d2 : decide (x7 < (b.size : Int)) = false := decide_eq_false c2
        have hs := edits_lean.pre_end a.data.toList b.data.toList x7.toNat (Or.inr (by have := HBb.out; omega))
        have HS := Aside0.mk hs
        clear hs
        go_wp2
        go_ret
        obtain ⟨h1, h2, h3, h4, h5⟩ := HI.out
        have hs := HS.out
        have he : x7 = ((edits_lean.pre a.data.toList b.data.toList : Nat) : Int) := by omega
        exact ⟨by rw [← he]; rfl, by repeat (first | exact Drawn0.refl _ | apply Drawn0.step)⟩
    · have d1 : decide (x7 < (a.size : Int)) = false := decide_eq_false c1
      have hs := edits_lean.pre_end a.data.toList b.data.toList x7.toNat (Or.inl (by have := HA.out; omega))
      have HS := Aside0.mk hs
      clear hs
      go_wp2
      go_ret
      obtain ⟨h1, h2, h3, h4, h5⟩ := HI.out
      have hs := HS.out
      have he : x7 = ((edits_lean.pre a.data.toList b.data.toList : Nat) : Int) := by omega
      exact ⟨by rw [← he]; rfl, by repeat (first | exact Drawn0.refl _ | apply Drawn0.step)⟩
set_option maxHeartbeats 1000000 in
set_option maxRecDepth 100000 in
theorem edits_lean.same_back (a b : ByteArray) (w : World) (ha : a.size ≤ 140737488355328) (hb : b.size ≤ 140737488355328) :
    Calls Try.prog 30 #[.string a, .string b, .func (.func 32) #[] #[]] w fun e w' => e = .returned (.int .i64 (edits_lean.pre a.data.toList.reverse b.data.toList.reverse)) ∧ Drawn0 w w' := by
  go_enter Try.func30, Try.ntmps30
  go_wp2
  go_loopg [7] (a.size + 1) (fun kq v7 w' => ∃ (x7 : Int), v7 = .int .i64 x7 ∧ Aside0 (0 ≤ x7 ∧ kq + x7.toNat = a.size + 1 ∧ x7.toNat ≤ a.size ∧ x7.toNat ≤ b.size ∧ x7.toNat + edits_lean.pre (a.data.toList.reverse.drop x7.toNat) (b.data.toList.reverse.drop x7.toNat) = edits_lean.pre a.data.toList.reverse b.data.toList.reverse) ∧ Drawn0 w w')
  case atStart => exact ⟨0, rfl, ⟨by omega, by simp, by omega, by omega, by simp⟩, by repeat (first | exact Drawn0.refl _ | apply Drawn0.step)⟩
  case round =>
    obtain ⟨x7, rfl, HI, ⟨m1, rfl⟩⟩ := hrel
    have p1 : 0 ≤ x7 := HI.out.1
    have hsa : a.data.toList.reverse.length = a.size := by simp
    have hsb : b.data.toList.reverse.length = b.size := by simp
    have HA := Aside0.mk hsa
    have HBb := Aside0.mk hsb
    clear hsa hsb
    by_cases c1 : x7 < (a.size : Int)
    · have d1 : decide (x7 < (a.size : Int)) = true := decide_eq_true c1
      by_cases c2 : x7 < (b.size : Int)
      · have d2 : decide (x7 < (b.size : Int)) = true := decide_eq_true c2
        have e1 : wrap64 (wrap64 ((a.size : Int) - 1) - x7) = (a.size : Int) - 1 - x7 := by unfold wrap64; omega
        have q1 : 0 ≤ (a.size : Int) - 1 - x7 := by omega
        have q2 : 0 ≤ (b.size : Int) - 1 - x7 := by omega
        go_wp2
        · go_roundg (gk - 1)
          case measure => have := HI.out; omega
          case rel =>
            obtain ⟨h1, h2, h3, h4, h5⟩ := HI.out
            have hb0 := ‹(_ == _) = true›
            have e2 : (x7 + 1).toNat = x7.toNat + 1 := by omega
            have hs := edits_lean.pre_step a.data.toList.reverse b.data.toList.reverse x7.toNat (by have := HA.out; omega) (by have := HBb.out; omega) (by
              have hq := beq_iff_eq.1 hb0
              rw [edits_lean.back_at a x7 (by omega) (by omega) (by omega), edits_lean.back_at b x7 (by omega) (by omega) (by omega)]; apply UInt8.toNat_inj.1; exact Int.ofNat.inj hq)
            exact ⟨x7 + 1, rfl, ⟨by omega, by omega, by omega, by omega, by rw [e2]; omega⟩, by repeat (first | exact Drawn0.refl _ | apply Drawn0.step)⟩
        · go_ret
          obtain ⟨h1, h2, h3, h4, h5⟩ := HI.out
          have hb0 := ‹(_ == _) = false›
          have hs := edits_lean.pre_stop a.data.toList.reverse b.data.toList.reverse x7.toNat (by have := HA.out; omega) (by have := HBb.out; omega) (by
              intro hq2
              have hq := beq_eq_false_iff_ne.1 hb0
              apply hq
              rw [edits_lean.back_at a x7 (by omega) (by omega) (by omega), edits_lean.back_at b x7 (by omega) (by omega) (by omega)] at hq2; exact congrArg (fun z : UInt8 => (z.toNat : Int)) hq2)
          have he : x7 = ((edits_lean.pre a.data.toList.reverse b.data.toList.reverse : Nat) : Int) := by omega
          exact ⟨by rw [← he]; rfl, by repeat (first | exact Drawn0.refl _ | apply Drawn0.step)⟩
      · have d2 : decide (x7 < (b.size : Int)) = false := decide_eq_false c2
        have hs := edits_lean.pre_end a.data.toList.reverse b.data.toList.reverse x7.toNat (Or.inr (by have := HBb.out; omega))
        have HS := Aside0.mk hs
        clear hs
        go_wp2
        go_ret
        obtain ⟨h1, h2, h3, h4, h5⟩ := HI.out
        have hs := HS.out
        have he : x7 = ((edits_lean.pre a.data.toList.reverse b.data.toList.reverse : Nat) : Int) := by omega
        exact ⟨by rw [← he]; rfl, by repeat (first | exact Drawn0.refl _ | apply Drawn0.step)⟩
    · have d1 : decide (x7 < (a.size : Int)) = false := decide_eq_false c1
      have hs := edits_lean.pre_end a.data.toList.reverse b.data.toList.reverse x7.toNat (Or.inl (by have := HA.out; omega))
      have HS := Aside0.mk hs
      clear hs
      go_wp2
      go_ret
      obtain ⟨h1, h2, h3, h4, h5⟩ := HI.out
      have hs := HS.out
      have he : x7 = ((edits_lean.pre a.data.toList.reverse b.data.toList.reverse : Nat) : Int) := by omega
      exact ⟨by rw [← he]; rfl, by repeat (first | exact Drawn0.refl _ | apply Drawn0.step)⟩
def edits_lean.n (a0_2 a1 : ByteArray) : Nat := edits_lean.pre a1.data.toList a0_2.data.toList
def edits_lean.k (a0_2 a1 : ByteArray) : Nat := edits_lean.pre (a1.extract (edits_lean.n a0_2 a1) a1.size).data.toList.reverse (a0_2.extract (edits_lean.n a0_2 a1) a0_2.size).data.toList.reverse
def edits_lean.f (a0_0 : Int) (a0_1 : Int) (a0_2 : ByteArray) (a1 : ByteArray) : Option (Int × Int × ByteArray) :=
  if a1.size ≤ 140737488355328 ∧ a0_2.size ≤ 140737488355328 then
    some (wrap64 (a0_0 + (edits_lean.n a0_2 a1 : Int)), wrap64 (a0_1 - (edits_lean.k a0_2 a1 : Int)), (a0_2.extract (edits_lean.n a0_2 a1) a0_2.size).extract 0 ((a0_2.extract (edits_lean.n a0_2 a1) a0_2.size).size - edits_lean.k a0_2 a1))
  else none
set_option maxHeartbeats 1000000 in
set_option maxRecDepth 100000 in
theorem edits_lean.calls (a0_0 : Int) (a0_1 : Int) (a0_2 : ByteArray) (a1 : ByteArray) (r1 : Int) (r2 : Int) (r3 : ByteArray) (w : World) (h : edits_lean.f a0_0 a0_1 a0_2 a1 = some (r1, r2, r3)) :
    Calls Try.prog 23 #[.agg #[.int .i64 a0_0, .int .i64 a0_1, .string a0_2], .string a1] w fun e w' => e = .returned (.agg #[.int .i64 r1, .int .i64 r2, .string r3]) ∧ Below w.heap.size w w' := by
  unfold edits_lean.f at h
  by_cases hs : a1.size ≤ 140737488355328 ∧ a0_2.size ≤ 140737488355328
  case neg => rw [if_neg hs] at h; exact absurd h (by simp)
  rw [if_pos hs] at h
  obtain ⟨hs1, hs2⟩ := hs
  have cF := fun w => edits_lean.same_front a1 a0_2 w hs1 hs2
  have hn := edits_lean.pre_le a1.data.toList a0_2.data.toList
  have hk := edits_lean.pre_le (a1.extract (edits_lean.n a0_2 a1) a1.size).data.toList.reverse (a0_2.extract (edits_lean.n a0_2 a1) a0_2.size).data.toList.reverse
  have cB := fun w => edits_lean.same_back (a1.extract (edits_lean.n a0_2 a1) a1.size) (a0_2.extract (edits_lean.n a0_2 a1) a0_2.size) w (by rw [ByteArray.size_extract]; omega) (by rw [ByteArray.size_extract]; omega)
  rw [show edits_lean.pre (a1.extract (edits_lean.n a0_2 a1) a1.size).data.toList.reverse (a0_2.extract (edits_lean.n a0_2 a1) a0_2.size).data.toList.reverse = edits_lean.k a0_2 a1 from rfl] at hk cB
  rw [show edits_lean.pre a1.data.toList a0_2.data.toList = edits_lean.n a0_2 a1 from rfl] at hn cF
  generalize edits_lean.k a0_2 a1 = k at *
  generalize edits_lean.n a0_2 a1 = n at *
  have hn1 : n ≤ a1.size := by have := hn.1; simpa using this
  have hn2 : n ≤ a0_2.size := by have := hn.2; simpa using this
  have hk2 : k ≤ a0_2.size - n := by have := hk.2; simpa using this
  have H := Aside0.mk h
  have CF := Aside0.mk cF
  have CB := Aside0.mk cB
  clear h cF cB hn hk
  have i1 : ((n : Nat) : Int) ≤ (a1.size : Int) := by omega
  have i2 : ((n : Nat) : Int) ≤ (a0_2.size : Int) := by omega
  have i3 : (0 : Int) ≤ (n : Int) := by omega
  clear hn1 hn2
  go_enter Try.func23, Try.ntmps23
  go_wp2_with (go_at_call 30; refine (CF.out _).mono ?_)
  rintro e w1 ⟨rfl, m1, rfl⟩
  go_wp2
  obtain ⟨w2, hw2⟩ : ∃ w2 : World, w2 = (((w.alloc (.cells #[.int .i64 a0_0, .int .i64 a0_1, .string a0_2] 36)).alloc (.cells #[.int .i64 0, .int .i64 0, .string ⟨#[]⟩] 36)).drewN m1).drew := ⟨_, rfl⟩
  have k2 : w2.cell? ⟨w.heap.size, 2, none⟩ = some (.string a0_2) := by rw [hw2]; go_simp
  have HW2 := Aside0.mk hw2
  clear hw2
  refine Try.still_tail_any 9 (by kernel_rfl) (by kernel_rfl) w2 HW2.out ?_
  simp only [List.take_succ_cons, List.take_zero, List.drop_succ_cons, List.drop_zero]
  repeat (refine wpStill_step (fun K hK => ?_); go_simp; refine hK _ ?_; clear hK K)
  refine wpStill_nil ?_
  rw [HW2.out]
  go_wp2_with (go_at_call 30; refine (CB.out _).mono ?_)
  rintro e w3 ⟨rfl, m3, rfl⟩
  go_wp2
  obtain ⟨w4, hw4⟩ : ∃ w4 : World, w4 = (((((w.alloc (.cells #[.int .i64 a0_0, .int .i64 a0_1, .string a0_2] 36)).alloc (.cells #[.int .i64 0, .int .i64 0, .string ⟨#[]⟩] 36)).drewN (m1 + 1)).setCell ⟨w.heap.size, 2, none⟩ (.string (a0_2.extract n a0_2.size))).drewN m3).drew := ⟨_, rfl⟩
  have j0 : w4.cell? ⟨w.heap.size, 0, none⟩ = some (.int .i64 a0_0) := by rw [hw4]; go_simp
  have j1 : w4.cell? ⟨w.heap.size, 1, none⟩ = some (.int .i64 a0_1) := by rw [hw4]; go_simp
  have j2 : w4.cell? ⟨w.heap.size, 2, none⟩ = some (.string (a0_2.extract n a0_2.size)) := by rw [hw4]; go_simp
  have HW4 := Aside0.mk hw4
  clear hw4
  have i4 : ((k : Nat) : Int) ≤ ((a0_2.size - n : Nat) : Int) := by omega
  have i5 : (0 : Int) ≤ (k : Int) := by omega
  obtain ⟨d, hd⟩ : ∃ d : Nat, d = a0_2.size - n - k := ⟨_, rfl⟩
  have ew : IntKind.i64.wrap (((a0_2.size - n : Nat) : Int) - (k : Int)) = (d : Int) := by rw [IntKind.wrap_i64]; omega
  have i6 : (0 : Int) ≤ (d : Int) := by omega
  have i7 : (d : Int) ≤ ((a0_2.size - n : Nat) : Int) := by omega
  have HD := Aside0.mk hd
  clear hd
  refine Try.still_tail_any 17 (by kernel_rfl) (by kernel_rfl) w4 ?_ ?_
  · rw [HW4.out]
  simp only [List.take_succ_cons, List.take_zero, List.drop_succ_cons, List.drop_zero]
  repeat (refine wpStill_step (fun K hK => ?_); go_simp; refine hK _ ?_; clear hK K)
  refine wpStill_nil ?_
  rw [HW4.out]
  clear j0 j1 j2 ew
  go_wp2
  have hR := H.out
  have hsz : (a0_2.extract n a0_2.size).size - k = d := by rw [ByteArray.size_extract]; have := HD.out; omega
  rw [hsz] at hR
  simp only [Option.some.injEq, Prod.mk.injEq] at hR
  obtain ⟨rfl, rfl, rfl⟩ := hR
  refine bodyPost_ret (v := .agg #[.int .i64 (wrap64 (a0_0 + (n : Int))), .int .i64 (wrap64 (a0_1 - (k : Int))), .string ((a0_2.extract n a0_2.size).extract 0 d)]) (by simp [results, Try.results23, go_sem]) rfl ⟨rfl, ?_⟩
  repeat (first | exact Below.refl _ _ | (refine Below.setCell ?_ (by simp) _) | (refine below_alloc ?_ _) | apply pw_below_drewN | apply below_drew1)

/-! ### edits_bare: function 24 -/
def edits_bare.f (a0_0 : Int) (a0_1 : Int) (a0_2 : ByteArray) : Option (Bool) := if a0_0 = a0_1 then (some (a0_2.toList == ([] : List UInt8))) else (some false)
set_option maxHeartbeats 8000000 in
set_option maxRecDepth 100000 in
theorem edits_bare.calls (a0_0 : Int) (a0_1 : Int) (a0_2 : ByteArray) (r : Bool) (w : World) (h : edits_bare.f a0_0 a0_1 a0_2 = some r) :
    Calls Try.prog 24 #[.agg #[.int .i64 a0_0, .int .i64 a0_1, .string a0_2]] w fun e w' => e = .returned (.bool r) ∧ Below w.heap.size w w' := by
  have hu36 := Try.underlying36
  have HB := Aside0.mk (Below.refl w.heap.size w)
  have H : (if a0_0 = a0_1 then (some (a0_2.toList == ([] : List UInt8))) else (some false)) = some r := h
  clear h
  by_cases c2 : a0_0 = a0_1
  · rw [if_pos c2] at H
    have c2b0 : (a0_0 == a0_1) = true := beq_iff_eq.mpr c2
    have c2b1 : (a0_0 != a0_1) = false := bne_eq_false_iff_eq.mpr c2
    clear c2
    obtain rfl := Option.some.inj H
    go_enter Try.func24, Try.ntmps24
    go_wp2_with (first | ((with_reducible refine gate_dst (N := 1) rfl ?_); refine box_event ?hg (N := 1) ?hd (cs := #[.int .i64 a0_0, .int .i64 a0_1, .string a0_2]) (t := 36) ?hr ?_; (case hd => rfl); (case hg => rfl); (case hr => first | (go_simp; done) | (go_simp; rfl)); intro gb139 hg w3 hbox hb; have n0_ := Aside0.mk (below_step (by repeat (first | (with_reducible first | exact HB.out | apply below_alloc | apply pw_below_drewN | apply below_drew1) | exact HB.out)) hb); have n1_ := Aside0.mk (hbox); have n2_ := Aside0.mk ((by rw [hg]; exact (below_size (by repeat (first | (with_reducible first | exact HB.out | apply below_alloc | apply pw_below_drewN | apply below_drew1) | exact HB.out))) : w.heap.size ≤ gb139)); have n3_ := Aside0.mk ((by rw [hg]; exact (below_size (by repeat (first | (with_reducible first | exact HB.out | apply below_alloc | apply pw_below_drewN | apply below_drew1) | exact HB.out))) : w.heap.size ≤ gb139)); clear HB; have HB := n0_; have BK139 := n1_; have GW139 := n2_; have GE139 := n3_; clear n0_ n1_ n2_ n3_; clear hb hbox hg; have hcz4_0 : w3.cell? ⟨gb139, 0, none⟩ = some (.int .i64 a0_0) := (blk_cell BK139.out 0).trans rfl; have hcz4_1 : w3.cell? ⟨gb139, 1, none⟩ = some (.int .i64 a0_1) := (blk_cell BK139.out 1).trans rfl; have hcz4_2 : w3.cell? ⟨gb139, 2, none⟩ = some (.string a0_2) := (blk_cell BK139.out 2).trans rfl; have hfz4_0 := blk_frozen BK139.out 0; have hfz4_1 := blk_frozen BK139.out 1; have hfz4_2 := blk_frozen BK139.out 2))
    go_ret
    exact ⟨by first | rfl | (simp [errW_none, errW_some] <;> rfl) | (simp [*, errW_none, errW_some] <;> rfl), by repeat (first | (with_reducible first | exact HB.out | apply below_alloc | apply pw_below_drewN | apply below_drew1 | refine below_set ?_ GE139.out) | exact HB.out)⟩
  · rw [if_neg c2] at H
    have c2b0 : (a0_0 == a0_1) = false := beq_eq_false_iff_ne.mpr c2
    have c2b1 : (a0_0 != a0_1) = true := bne_iff_ne.mpr c2
    obtain rfl := Option.some.inj H
    go_enter Try.func24, Try.ntmps24
    go_wp2_with (first | ((with_reducible refine gate_dst (N := 1) rfl ?_); refine box_event ?hg (N := 1) ?hd (cs := #[.int .i64 a0_0, .int .i64 a0_1, .string a0_2]) (t := 36) ?hr ?_; (case hd => rfl); (case hg => rfl); (case hr => first | (go_simp; done) | (go_simp; rfl)); intro gb139 hg w5 hbox hb; have n0_ := Aside0.mk (below_step (by repeat (first | (with_reducible first | exact HB.out | apply below_alloc | apply pw_below_drewN | apply below_drew1) | exact HB.out)) hb); have n1_ := Aside0.mk (hbox); have n2_ := Aside0.mk ((by rw [hg]; exact (below_size (by repeat (first | (with_reducible first | exact HB.out | apply below_alloc | apply pw_below_drewN | apply below_drew1) | exact HB.out))) : w.heap.size ≤ gb139)); have n3_ := Aside0.mk ((by rw [hg]; exact (below_size (by repeat (first | (with_reducible first | exact HB.out | apply below_alloc | apply pw_below_drewN | apply below_drew1) | exact HB.out))) : w.heap.size ≤ gb139)); clear HB; have HB := n0_; have BK139 := n1_; have GW139 := n2_; have GE139 := n3_; clear n0_ n1_ n2_ n3_; clear hb hbox hg; have hcz6_0 : w5.cell? ⟨gb139, 0, none⟩ = some (.int .i64 a0_0) := (blk_cell BK139.out 0).trans rfl; have hcz6_1 : w5.cell? ⟨gb139, 1, none⟩ = some (.int .i64 a0_1) := (blk_cell BK139.out 1).trans rfl; have hcz6_2 : w5.cell? ⟨gb139, 2, none⟩ = some (.string a0_2) := (blk_cell BK139.out 2).trans rfl; have hfz6_0 := blk_frozen BK139.out 0; have hfz6_1 := blk_frozen BK139.out 1; have hfz6_2 := blk_frozen BK139.out 2))
    go_ret
    exact ⟨by first | rfl | (simp [errW_none, errW_some] <;> rfl) | (simp [*, errW_none, errW_some] <;> rfl), by repeat (first | (with_reducible first | exact HB.out | apply below_alloc | apply pw_below_drewN | apply below_drew1 | refine below_set ?_ GE139.out) | exact HB.out)⟩

end Go.Proofs.Ytgdkdamikcnjhaa.PEditsM
