-- WRITTEN by given.py of this claim's repo over the kit's printer, with functions walked by hand
import Derived.Test.YtgdkdamikcnjhaaPEditsCx0
import Derived.Test.YtgdkdamikcnjhaaBuilder
import Derived.StillTailTactics
import Derived.Outline
import Derived.Deep.DeepMust
import Derived.Deep.RegionHeld3
namespace Go.Proofs.Ytgdkdamikcnjhaa.PEditsC
open Go.RowKit Go.Proofs.YtgdkdamikcnjhaaW.PrintWords Go.Proofs.YtgdkdamikcnjhaaW.PrintLast Go.Proofs.YtgdkdamikcnjhaaW.PrintMore
attribute [local go_sem] max2_int min2_int max_two min_two max_three min_three max_four min_four   -- for this text's walks alone
set_option linter.unusedVariables false
set_option linter.unusedSimpArgs false

/-! ### edits_lean: function 23 -/
-- WALKED BY HAND (given)
def edits_lean.pre : List UInt8 → List UInt8 → Nat
  | a :: x, b :: y => if a = b then edits_lean.pre x y + 1 else 0
  | _, _ => 0
theorem edits_lean.pre_step (x y : List UInt8) (n : Nat) (hx : n < x.length) (hy : n < y.length) (h : x[n] = y[n]) : edits_lean.pre (x.drop n) (y.drop n) = edits_lean.pre (x.drop (n + 1)) (y.drop (n + 1)) + 1 := by
  rw [List.drop_eq_getElem_cons hx, List.drop_eq_getElem_cons hy]
  simp [edits_lean.pre, h]
theorem edits_lean.pre_stop (x y : List UInt8) (n : Nat) (hx : n < x.length) (hy : n < y.length) (h : x[n] ≠ y[n]) : edits_lean.pre (x.drop n) (y.drop n) = 0 := by
  rw [List.drop_eq_getElem_cons hx, List.drop_eq_getElem_cons hy]
  simp [edits_lean.pre, h]
theorem edits_lean.pre_end (x y : List UInt8) (n : Nat) (h : x.length ≤ n ∨ y.length ≤ n) : edits_lean.pre (x.drop n) (y.drop n) = 0 := by
  rcases h with h | h
  · rw [List.drop_eq_nil_of_le h]; simp [edits_lean.pre]
  · rw [List.drop_eq_nil_of_le h]; cases x.drop n <;> simp [edits_lean.pre]
theorem edits_lean.back_at (a : ByteArray) (x : Int) (h0 : 0 ≤ x) (h : x < (a.size : Int)) (hi : ((a.size : Int) - 1 - x).toNat < a.size) (hj : x.toNat < a.data.toList.reverse.length := by simp; omega) : a.data.toList.reverse[x.toNat] = a[((a.size : Int) - 1 - x).toNat] := by
  have e : ((a.size : Int) - 1 - x).toNat = a.data.toList.length - 1 - x.toNat := by
    have : a.data.toList.length = a.size := by simp
    omega
  simp only [List.getElem_reverse, e]
  rfl
theorem edits_lean.pre_le (x y : List UInt8) : edits_lean.pre x y ≤ x.length ∧ edits_lean.pre x y ≤ y.length := by
  induction x generalizing y with
  | nil => simp [edits_lean.pre]
  | cons a x ih =>
    cases y with
    | nil => simp [edits_lean.pre]
    | cons b y =>
      have := ih y
      simp only [edits_lean.pre, List.length_cons]
      split <;> omega
set_option maxHeartbeats 1000000 in
set_option maxRecDepth 100000 in
theorem edits_lean.same_front (a b : ByteArray) (w : World) (ha : a.size ≤ 140737488355328) (hb : b.size ≤ 140737488355328) :
    Calls Try.prog 30 #[.string a, .string b, .func (.func 31) #[] #[]] w fun e w' => e = .returned (.int .i64 (edits_lean.pre a.data.toList b.data.toList)) ∧ Drawn0 w w' := by
  go_enter Try.func30, Try.ntmps30
  go_wp2
  go_loopg [7] (a.size + 1) (fun kq v7 w' => ∃ (x7 : Int), v7 = .int .i64 x7 ∧ Aside0 (0 ≤ x7 ∧ kq + x7.toNat = a.size + 1 ∧ x7.toNat ≤ a.size ∧ x7.toNat ≤ b.size ∧ x7.toNat + edits_lean.pre (a.data.toList.drop x7.toNat) (b.data.toList.drop x7.toNat) = edits_lean.pre a.data.toList b.data.toList) ∧ Drawn0 w w')
  case atStart => exact ⟨0, rfl, ⟨by omega, by simp, by omega, by omega, by simp⟩, by repeat (first | exact Drawn0.refl _ | apply Drawn0.step)⟩
  case round =>
    obtain ⟨x7, rfl, HI, ⟨m1, rfl⟩⟩ := hrel
    have p1 : 0 ≤ x7 := HI.out.1
    have hsa : a.data.toList.length = a.size := by simp
    have hsb : b.data.toList.length = b.size := by simp
    have HA := Aside0.mk hsa
    have HBb := Aside0.mk hsb
    clear hsa hsb
    by_cases c1 : x7 < (a.size : Int)
    · have d1 : decide (x7 < (a.size : Int)) = true := decide_eq_true c1
      by_cases c2 : x7 < (b.size : Int)
      · have d2 : decide (x7 < (b.size : Int)) = true := decide_eq_true c2
        skip
        go_wp2
        · go_roundg (gk - 1)
          case measure => have := HI.out; omega
          case rel =>
            obtain ⟨h1, h2, h3, h4, h5⟩ := HI.out
            have hb0 := ‹(_ == _) = true›
            have e2 : (x7 + 1).toNat = x7.toNat + 1 := by omega
            have hs := edits_lean.pre_step a.data.toList b.data.toList x7.toNat (by have := HA.out; omega) (by have := HBb.out; omega) (by
              have hq := beq_iff_eq.1 hb0
              apply UInt8.toNat_inj.1; exact Int.ofNat.inj hq)
            exact ⟨x7 + 1, rfl, ⟨by omega, by omega, by omega, by omega, by rw [e2]; omega⟩, by repeat (first | exact Drawn0.refl _ | apply Drawn0.step)⟩
        · go_ret
          obtain ⟨h1, h2, h3, h4, h5⟩ := HI.out
          have hb0 := ‹(_ == _) = false›
          have hs := edits_lean.pre_stop a.data.toList b.data.toList x7.toNat (by have := HA.out; omega) (by have := HBb.out; omega) (by
              intro hq2
              have hq := beq_eq_false_iff_ne.1 hb0
              apply hq
              exact congrArg (fun z : UInt8 => (z.toNat : Int)) hq2)
          have he : x7 = ((edits_lean.pre a.data.toList b.data.toList : Nat) : Int) := by omega
          exact ⟨by rw [← he]; rfl, by repeat (first | exact Drawn0.refl _ | apply Drawn0.step)⟩
      · have d2 : decide (x7 < (b.size : Int)) = false := decide_eq_false c2
        have hs := edits_lean.pre_end a.data.toList b.data.toList x7.toNat (Or.inr (by have := HBb.out; omega))
        have HS := Aside0.mk hs
        clear hs
        go_wp2
        go_ret
        obtain ⟨h1, h2, h3, h4, h5⟩ := HI.out
        have hs := HS.out
        have he : x7 = ((edits_lean.pre a.data.toList b.data.toList : Nat) : Int) := by omega
        exact ⟨by rw [← he]; rfl, by repeat (first | exact Drawn0.refl _ | apply Drawn0.step)⟩
    · have d1 : decide (x7 < (a.size : Int)) = false := decide_eq_false c1
      have hs := edits_lean.pre_end a.data.toList b.data.toList x7.toNat (Or.inl (by have := HA.out; omega))
      have HS := Aside0.mk hs
      clear hs
      go_wp2
      go_ret
      obtain ⟨h1, h2, h3, h4, h5⟩ := HI.out
      have hs := HS.out
      have he : x7 = ((edits_lean.pre a.data.toList b.data.toList : Nat) : Int) := by omega
      exact ⟨by rw [← he]; rfl, by repeat (first | exact Drawn0.refl _ | apply Drawn0.step)⟩
set_option maxHeartbeats 1000000 in
set_option maxRecDepth 100000 in
theorem edits_lean.same_back (a b : ByteArray) (w : World) (ha : a.size ≤ 140737488355328) (hb : b.size ≤ 140737488355328) :
    Calls Try.prog 30 #[.string a, .string b, .func (.func 32) #[] #[]] w fun e w' => e = .returned (.int .i64 (edits_lean.pre a.data.toList.reverse b.data.toList.reverse)) ∧ Drawn0 w w' := by
  go_enter Try.func30, Try.ntmps30
  go_wp2
  go_loopg [7] (a.size + 1) (fun kq v7 w' => ∃ (x7 : Int), v7 = .int .i64 x7 ∧ Aside0 (0 ≤ x7 ∧ kq + x7.toNat = a.size + 1 ∧ x7.toNat ≤ a.size ∧ x7.toNat ≤ b.size ∧ x7.toNat + edits_lean.pre (a.data.toList.reverse.drop x7.toNat) (b.data.toList.reverse.drop x7.toNat) = edits_lean.pre a.data.toList.reverse b.data.toList.reverse) ∧ Drawn0 w w')
  case atStart => exact ⟨0, rfl, ⟨by omega, by simp, by omega, by omega, by simp⟩, by repeat (first | exact Drawn0.refl _ | apply Drawn0.step)⟩
  case round =>
    obtain ⟨x7, rfl, HI, ⟨m1, rfl⟩⟩ := hrel
    have p1 : 0 ≤ x7 := HI.out.1
    have hsa : a.data.toList.reverse.length = a.size := by simp
    have hsb : b.data.toList.reverse.length = b.size := by simp
    have HA := Aside0.mk hsa
    have HBb := Aside0.mk hsb
    clear hsa hsb
    by_cases c1 : x7 < (a.size : Int)
    · have d1 : decide (x7 < (a.size : Int)) = true := decide_eq_true c1
      by_cases c2 : x7 < (b.size : Int)
      · have d2 : decide (x7 < (b.size : Int)) = true := decide_eq_true c2
        have e1 : wrap64 (wrap64 ((a.size : Int) - 1) - x7) = (a.size : Int) - 1 - x7 := by unfold wrap64; omega
        have q1 : 0 ≤ (a.size : Int) - 1 - x7 := by omega
        have q2 : 0 ≤ (b.size : Int) - 1 - x7 := by omega
        go_wp2
        · go_roundg (gk - 1)
          case measure => have := HI.out; omega
          case rel =>
            obtain ⟨h1, h2, h3, h4, h5⟩ := HI.out
            have hb0 := ‹(_ == _) = true›
            have e2 : (x7 + 1).toNat = x7.toNat + 1 := by omega
            have hs := edits_lean.pre_step a.data.toList.reverse b.data.toList.reverse x7.toNat (by have := HA.out; omega) (by have := HBb.out; omega) (by
              have hq := beq_iff_eq.1 hb0
              rw [edits_lean.back_at a x7 (by omega) (by omega) (by omega), edits_lean.back_at b x7 (by omega) (by omega) (by omega)]; apply UInt8.toNat_inj.1; exact Int.ofNat.inj hq)
            exact ⟨x7 + 1, rfl, ⟨by omega, by omega, by omega, by omega, by rw [e2]; omega⟩, by repeat (first | exact Drawn0.refl _ | apply Drawn0.step)⟩
        · go_ret
          obtain ⟨h1, h2, h3, h4, h5⟩ := HI.out
          have hb0 := ‹(_ == _) = false›
          have hs := edits_lean.pre_stop a.data.toList.reverse b.data.toList.reverse x7.toNat (by have := HA.out; omega) (by have := HBb.out; omega) (by
              intro hq2
              have hq := beq_eq_false_iff_ne.1 hb0
              apply hq
              rw [edits_lean.back_at a x7 (by omega) (by omega) (by omega), edits_lean.back_at b x7 (by omega) (by omega) (by omega)] at hq2; exact congrArg (fun z : UInt8 => (z.toNat : Int)) hq2)
          have he : x7 = ((edits_lean.pre a.data.toList.reverse b.data.toList.reverse : Nat) : Int) := by omega
          exact ⟨by rw [← he]; rfl, by repeat (first | exact Drawn0.refl _ | apply Drawn0.step)⟩
      · have d2 : decide (x7 < (b.size : Int)) = false := decide_eq_false c2
        have hs := edits_lean.pre_end a.data.toList.reverse b.data.toList.reverse x7.toNat (Or.inr (by have := HBb.out; omega))
        have HS := Aside0.mk hs
        clear hs
        go_wp2
        go_ret
        obtain ⟨h1, h2, h3, h4, h5⟩ := HI.out
        have hs := HS.out
        have he : x7 = ((edits_lean.pre a.data.toList.reverse b.data.toList.reverse : Nat) : Int) := by omega
        exact ⟨by rw [← he]; rfl, by repeat (first | exact Drawn0.refl _ | apply Drawn0.step)⟩
    · have d1 : decide (x7 < (a.size : Int)) = false := decide_eq_false c1
      have hs := edits_lean.pre_end a.data.toList.reverse b.data.toList.reverse x7.toNat (Or.inl (by have := HA.out; omega))
      have HS := Aside0.mk hs
      clear hs
      go_wp2
      go_ret
      obtain ⟨h1, h2, h3, h4, h5⟩ := HI.out
      have hs := HS.out
      have he : x7 = ((edits_lean.pre a.data.toList.reverse b.data.toList.reverse : Nat) : Int) := by omega
      exact ⟨by rw [← he]; rfl, by repeat (first | exact Drawn0.refl _ | apply Drawn0.step)⟩
def edits_lean.n (a0_2 a1 : ByteArray) : Nat := edits_lean.pre a1.data.toList a0_2.data.toList
def edits_lean.k (a0_2 a1 : ByteArray) : Nat := edits_lean.pre (a1.extract (edits_lean.n a0_2 a1) a1.size).data.toList.reverse (a0_2.extract (edits_lean.n a0_2 a1) a0_2.size).data.toList.reverse
def edits_lean.f (a0_0 : Int) (a0_1 : Int) (a0_2 : ByteArray) (a1 : ByteArray) : Option (Int × Int × ByteArray) :=
  if a1.size ≤ 140737488355328 ∧ a0_2.size ≤ 140737488355328 then
    some (wrap64 (a0_0 + (edits_lean.n a0_2 a1 : Int)), wrap64 (a0_1 - (edits_lean.k a0_2 a1 : Int)), (a0_2.extract (edits_lean.n a0_2 a1) a0_2.size).extract 0 ((a0_2.extract (edits_lean.n a0_2 a1) a0_2.size).size - edits_lean.k a0_2 a1))
  else none
set_option maxHeartbeats 1000000 in
set_option maxRecDepth 100000 in
theorem edits_lean.calls (a0_0 : Int) (a0_1 : Int) (a0_2 : ByteArray) (a1 : ByteArray) (r1 : Int) (r2 : Int) (r3 : ByteArray) (w : World) (h : edits_lean.f a0_0 a0_1 a0_2 a1 = some (r1, r2, r3)) :
    Calls Try.prog 23 #[.agg #[.int .i64 a0_0, .int .i64 a0_1, .string a0_2], .string a1] w fun e w' => e = .returned (.agg #[.int .i64 r1, .int .i64 r2, .string r3]) ∧ Below w.heap.size w w' := by
  unfold edits_lean.f at h
  by_cases hs : a1.size ≤ 140737488355328 ∧ a0_2.size ≤ 140737488355328
  case neg => rw [if_neg hs] at h; exact absurd h (by simp)
  rw [if_pos hs] at h
  obtain ⟨hs1, hs2⟩ := hs
  have cF := fun w => edits_lean.same_front a1 a0_2 w hs1 hs2
  have hn := edits_lean.pre_le a1.data.toList a0_2.data.toList
  have hk := edits_lean.pre_le (a1.extract (edits_lean.n a0_2 a1) a1.size).data.toList.reverse (a0_2.extract (edits_lean.n a0_2 a1) a0_2.size).data.toList.reverse
  have cB := fun w => edits_lean.same_back (a1.extract (edits_lean.n a0_2 a1) a1.size) (a0_2.extract (edits_lean.n a0_2 a1) a0_2.size) w (by rw [ByteArray.size_extract]; omega) (by rw [ByteArray.size_extract]; omega)
  rw [show edits_lean.pre (a1.extract (edits_lean.n a0_2 a1) a1.size).data.toList.reverse (a0_2.extract (edits_lean.n a0_2 a1) a0_2.size).data.toList.reverse = edits_lean.k a0_2 a1 from rfl] at hk cB
  rw [show edits_lean.pre a1.data.toList a0_2.data.toList = edits_lean.n a0_2 a1 from rfl] at hn cF
  generalize edits_lean.k a0_2 a1 = k at *
  generalize edits_lean.n a0_2 a1 = n at *
  have hn1 : n ≤ a1.size := by have := hn.1; simpa using this
  have hn2 : n ≤ a0_2.size := by have := hn.2; simpa using this
  have hk2 : k ≤ a0_2.size - n := by have := hk.2; simpa using this
  have H := Aside0.mk h
  have CF := Aside0.mk cF
  have CB := Aside0.mk cB
  clear h cF cB hn hk
  have i1 : ((n : Nat) : Int) ≤ (a1.size : Int) := by omega
  have i2 : ((n : Nat) : Int) ≤ (a0_2.size : Int) := by omega
  have i3 : (0 : Int) ≤ (n : Int) := by omega
  clear hn1 hn2
  go_enter Try.func23, Try.ntmps23
  go_wp2_with (go_at_call 30; refine (CF.out _).mono ?_)
  rintro e w1 ⟨rfl, m1, rfl⟩
  go_wp2
  obtain ⟨w2, hw2⟩ : ∃ w2 : World, w2 = (((w.alloc (.cells #[.int .i64 a0_0, .int .i64 a0_1, .string a0_2] 36)).alloc (.cells #[.int .i64 0, .int .i64 0, .string ⟨#[]⟩] 36)).drewN m1).drew := ⟨_, rfl⟩
  have k2 : w2.cell? ⟨w.heap.size, 2, none⟩ = some (.string a0_2) := by rw [hw2]; go_simp
  have HW2 := Aside0.mk hw2
  clear hw2
  refine Try.still_tail_any 9 (by kernel_rfl) (by kernel_rfl) w2 HW2.out ?_
  simp only [List.take_succ_cons, List.take_zero, List.drop_succ_cons, List.drop_zero]
  repeat (refine wpStill_step (fun K hK => ?_); go_simp; refine hK _ ?_; clear hK K)
  refine wpStill_nil ?_
  rw [HW2.out]
  go_wp2_with (go_at_call 30; refine (CB.out _).mono ?_)
  rintro e w3 ⟨rfl, m3, rfl⟩
  go_wp2
  obtain ⟨w4, hw4⟩ : ∃ w4 : World, w4 = (((((w.alloc (.cells #[.int .i64 a0_0, .int .i64 a0_1, .string a0_2] 36)).alloc (.cells #[.int .i64 0, .int .i64 0, .string ⟨#[]⟩] 36)).drewN (m1 + 1)).setCell ⟨w.heap.size, 2, none⟩ (.string (a0_2.extract n a0_2.size))).drewN m3).drew := ⟨_, rfl⟩
  have j0 : w4.cell? ⟨w.heap.size, 0, none⟩ = some (.int .i64 a0_0) := by rw [hw4]; go_simp
  have j1 : w4.cell? ⟨w.heap.size, 1, none⟩ = some (.int .i64 a0_1) := by rw [hw4]; go_simp
  have j2 : w4.cell? ⟨w.heap.size, 2, none⟩ = some (.string (a0_2.extract n a0_2.size)) := by rw [hw4]; go_simp
  have HW4 := Aside0.mk hw4
  clear hw4
  have i4 : ((k : Nat) : Int) ≤ ((a0_2.size - n : Nat) : Int) := by omega
  have i5 : (0 : Int) ≤ (k : Int) := by omega
  obtain ⟨d, hd⟩ : ∃ d : Nat, d = a0_2.size - n - k := ⟨_, rfl⟩
  have ew : IntKind.i64.wrap (((a0_2.size - n : Nat) : Int) - (k : Int)) = (d : Int) := by rw [IntKind.wrap_i64]; omega
  have i6 : (0 : Int) ≤ (d : Int) := by omega
  have i7 : (d : Int) ≤ ((a0_2.size - n : Nat) : Int) := by omega
  have HD := Aside0.mk hd
  clear hd
  refine Try.still_tail_any 17 (by kernel_rfl) (by kernel_rfl) w4 ?_ ?_
  · rw [HW4.out]
  simp only [List.take_succ_cons, List.take_zero, List.drop_succ_cons, List.drop_zero]
  repeat (refine wpStill_step (fun K hK => ?_); go_simp; refine hK _ ?_; clear hK K)
  refine wpStill_nil ?_
  rw [HW4.out]
  clear j0 j1 j2 ew
  go_wp2
  have hR := H.out
  have hsz : (a0_2.extract n a0_2.size).size - k = d := by rw [ByteArray.size_extract]; have := HD.out; omega
  rw [hsz] at hR
  simp only [Option.some.injEq, Prod.mk.injEq] at hR
  obtain ⟨rfl, rfl, rfl⟩ := hR
  refine bodyPost_ret (v := .agg #[.int .i64 (wrap64 (a0_0 + (n : Int))), .int .i64 (wrap64 (a0_1 - (k : Int))), .string ((a0_2.extract n a0_2.size).extract 0 d)]) (by simp [results, Try.results23, go_sem]) rfl ⟨rfl, ?_⟩
  repeat (first | exact Below.refl _ _ | (refine Below.setCell ?_ (by simp) _) | (refine below_alloc ?_ _) | apply pw_below_drewN | apply below_drew1)

/-! ### edits_bare: function 24 -/
def edits_bare.f (a0_0 : Int) (a0_1 : Int) (a0_2 : ByteArray) : Option (Bool) := if a0_0 = a0_1 then (some (a0_2.toList == ([] : List UInt8))) else (some false)
set_option maxHeartbeats 8000000 in
set_option maxRecDepth 100000 in
theorem edits_bare.calls (a0_0 : Int) (a0_1 : Int) (a0_2 : ByteArray) (r : Bool) (w : World) (h : edits_bare.f a0_0 a0_1 a0_2 = some r) :
    Calls Try.prog 24 #[.agg #[.int .i64 a0_0, .int .i64 a0_1, .string a0_2]] w fun e w' => e = .returned (.bool r) ∧ Below w.heap.size w w' := by
  have hu36 := Try.underlying36
  have HB := Aside0.mk (Below.refl w.heap.size w)
  have H : (if a0_0 = a0_1 then (some (a0_2.toList == ([] : List UInt8))) else (some false)) = some r := h
  clear h
  by_cases c2 : a0_0 = a0_1
  · rw [if_pos c2] at H
    have c2b0 : (a0_0 == a0_1) = true := beq_iff_eq.mpr c2
    have c2b1 : (a0_0 != a0_1) = false := bne_eq_false_iff_eq.mpr c2
    clear c2
    obtain rfl := Option.some.inj H
    go_enter Try.func24, Try.ntmps24
    go_wp2_with (first | ((with_reducible refine gate_dst (N := 1) rfl ?_); refine box_event ?hg (N := 1) ?hd (cs := #[.int .i64 a0_0, .int .i64 a0_1, .string a0_2]) (t := 36) ?hr ?_; (case hd => rfl); (case hg => rfl); (case hr => first | (go_simp; done) | (go_simp; rfl)); intro gb159 hg w3 hbox hb; have n0_ := Aside0.mk (below_step (by repeat (first | (with_reducible first | exact HB.out | apply below_alloc | apply pw_below_drewN | apply below_drew1) | exact HB.out)) hb); have n1_ := Aside0.mk (hbox); have n2_ := Aside0.mk ((by rw [hg]; exact (below_size (by repeat (first | (with_reducible first | exact HB.out | apply below_alloc | apply pw_below_drewN | apply below_drew1) | exact HB.out))) : w.heap.size ≤ gb159)); have n3_ := Aside0.mk ((by rw [hg]; exact (below_size (by repeat (first | (with_reducible first | exact HB.out | apply below_alloc | apply pw_below_drewN | apply below_drew1) | exact HB.out))) : w.heap.size ≤ gb159)); clear HB; have HB := n0_; have BK159 := n1_; have GW159 := n2_; have GE159 := n3_; clear n0_ n1_ n2_ n3_; clear hb hbox hg; have hcz4_0 : w3.cell? ⟨gb159, 0, none⟩ = some (.int .i64 a0_0) := (blk_cell BK159.out 0).trans rfl; have hcz4_1 : w3.cell? ⟨gb159, 1, none⟩ = some (.int .i64 a0_1) := (blk_cell BK159.out 1).trans rfl; have hcz4_2 : w3.cell? ⟨gb159, 2, none⟩ = some (.string a0_2) := (blk_cell BK159.out 2).trans rfl; have hfz4_0 := blk_frozen BK159.out 0; have hfz4_1 := blk_frozen BK159.out 1; have hfz4_2 := blk_frozen BK159.out 2))
    go_ret
    exact ⟨by first | rfl | (simp [errW_none, errW_some] <;> rfl) | (simp [*, errW_none, errW_some] <;> rfl), by repeat (first | (with_reducible first | exact HB.out | apply below_alloc | apply pw_below_drewN | apply below_drew1 | refine below_set ?_ GE159.out) | exact HB.out)⟩
  · rw [if_neg c2] at H
    have c2b0 : (a0_0 == a0_1) = false := beq_eq_false_iff_ne.mpr c2
    have c2b1 : (a0_0 != a0_1) = true := bne_iff_ne.mpr c2
    obtain rfl := Option.some.inj H
    go_enter Try.func24, Try.ntmps24
    go_wp2_with (first | ((with_reducible refine gate_dst (N := 1) rfl ?_); refine box_event ?hg (N := 1) ?hd (cs := #[.int .i64 a0_0, .int .i64 a0_1, .string a0_2]) (t := 36) ?hr ?_; (case hd => rfl); (case hg => rfl); (case hr => first | (go_simp; done) | (go_simp; rfl)); intro gb159 hg w5 hbox hb; have n0_ := Aside0.mk (below_step (by repeat (first | (with_reducible first | exact HB.out | apply below_alloc | apply pw_below_drewN | apply below_drew1) | exact HB.out)) hb); have n1_ := Aside0.mk (hbox); have n2_ := Aside0.mk ((by rw [hg]; exact (below_size (by repeat (first | (with_reducible first | exact HB.out | apply below_alloc | apply pw_below_drewN | apply below_drew1) | exact HB.out))) : w.heap.size ≤ gb159)); have n3_ := Aside0.mk ((by rw [hg]; exact (below_size (by repeat (first | (with_reducible first | exact HB.out | apply below_alloc | apply pw_below_drewN | apply below_drew1) | exact HB.out))) : w.heap.size ≤ gb159)); clear HB; have HB := n0_; have BK159 := n1_; have GW159 := n2_; have GE159 := n3_; clear n0_ n1_ n2_ n3_; clear hb hbox hg; have hcz6_0 : w5.cell? ⟨gb159, 0, none⟩ = some (.int .i64 a0_0) := (blk_cell BK159.out 0).trans rfl; have hcz6_1 : w5.cell? ⟨gb159, 1, none⟩ = some (.int .i64 a0_1) := (blk_cell BK159.out 1).trans rfl; have hcz6_2 : w5.cell? ⟨gb159, 2, none⟩ = some (.string a0_2) := (blk_cell BK159.out 2).trans rfl; have hfz6_0 := blk_frozen BK159.out 0; have hfz6_1 := blk_frozen BK159.out 1; have hfz6_2 := blk_frozen BK159.out 2))
    go_ret
    exact ⟨by first | rfl | (simp [errW_none, errW_some] <;> rfl) | (simp [*, errW_none, errW_some] <;> rfl), by repeat (first | (with_reducible first | exact HB.out | apply below_alloc | apply pw_below_drewN | apply below_drew1 | refine below_set ?_ GE159.out) | exact HB.out)⟩

/-! ### edits_edits: function 27 -/
-- WALKED BY HAND (given)
def edits_edits.fl (s : ByteArray) (a tt : Int) (wi : ByteArray) (out : List (S36)) : Option (List (S36)) :=
  if 0 ≤ a ∧ a ≤ tt ∧ tt ≤ (s.size : Int) ∧ out.length < 4398046511104 then
    (edits_lean.f a tt wi (s.extract a.toNat tt.toNat)).bind fun e => (edits_bare.f e.1 e.2.1 e.2.2).bind fun b => some (if b = true then out else out ++ [(⟨e.1, e.2.1, e.2.2⟩ : S36)])
  else none
/-- The four variables that the closure holds, and the row that is made. -/
structure edits_edits.I (w0 : World) (s : ByteArray) (V : Value) (a : Int) (wi : ByteArray) (out : List (S36)) (pb : Nat) (w : World) : Prop where
  hs : w.heap[w0.heap.size]? = some (.cells #[.string s] 9 (0, 0))
  ho : w.heap[w0.heap.size + 1]? = some (.cells #[V] 22 (0, 0))
  ha : w.heap[w0.heap.size + 2]? = some (.cells #[.int .i64 a] 3 (0, 0))
  hw : w.heap[w0.heap.size + 3]? = some (.cells #[.string wi] 9 (0, 0))
  hr : Kd.R k36 36 w w0.heap.size (fun k => w0.heap.size + 4 ≤ k ∧ k ≠ pb) V out
  hb : Below w0.heap.size w0 w
  hp : pb < w.heap.size
theorem edits_edits.I.below {w0 : World} {s : ByteArray} {V : Value} {a : Int} {wi : ByteArray} {out : List (S36)} {pb : Nat} {w w' : World} (h : edits_edits.I w0 s V a wi out pb w) (hb : Below w.heap.size w w') : edits_edits.I w0 s V a wi out pb w' :=
  ⟨blk_below h.hs hb, blk_below h.ho hb, blk_below h.ha hb, blk_below h.hw hb, Kd.R_below h.hr hb, below_step h.hb hb, Nat.lt_of_lt_of_le h.hp hb.size⟩
theorem edits_edits.I.drew {w0 : World} {s : ByteArray} {V : Value} {a : Int} {wi : ByteArray} {out : List (S36)} {pb : Nat} {w : World} (h : edits_edits.I w0 s V a wi out pb w) : edits_edits.I w0 s V a wi out pb w.drew :=
  ⟨h.hs, h.ho, h.ha, h.hw, Kd.R_drew h.hr, below_drew1 h.hb, h.hp⟩

structure edits_edits.J (w0 : World) (s : ByteArray) (V : Value) (a : Int) (wi : ByteArray) (pb : Nat) (w : World) : Prop where
  hs : w.heap[w0.heap.size]? = some (.cells #[.string s] 9 (0, 0))
  ho : w.heap[w0.heap.size + 1]? = some (.cells #[V] 22 (0, 0))
  ha : w.heap[w0.heap.size + 2]? = some (.cells #[.int .i64 a] 3 (0, 0))
  hw : w.heap[w0.heap.size + 3]? = some (.cells #[.string wi] 9 (0, 0))
  hb : Below w0.heap.size w0 w
  hp : pb < w.heap.size

theorem edits_edits.I.put {w0 : World} {s : ByteArray} {V : Value} {a : Int} {wi : ByteArray} {out : List (S36)} {pb b : Nat} {w : World} (h : edits_edits.I w0 s V a wi out pb w) (hb : w0.heap.size + 4 ≤ b) (hp : b ≠ pb) (e0 e1 : Int) (e2 : ByteArray) (hn : Kd.R k36 36 w w0.heap.size (fun k => (w0.heap.size + 4 ≤ k ∧ k ≠ pb) ∧ k ≠ b) V out) :
    edits_edits.I w0 s V a wi out pb (((w.setCell ⟨b, 0, none⟩ (.int .i64 e0)).setCell ⟨b, 1, none⟩ (.int .i64 e1)).setCell ⟨b, 2, none⟩ (.string e2)) := by
  have e (g : Nat) (hg : g ≠ b) : (((w.setCell ⟨b, 0, none⟩ (.int .i64 e0)).setCell ⟨b, 1, none⟩ (.int .i64 e1)).setCell ⟨b, 2, none⟩ (.string e2)).heap[g]? = w.heap[g]? := (Below.heap_setCell _ _ _ g hg).trans ((Below.heap_setCell _ _ _ g hg).trans (Below.heap_setCell _ _ _ g hg))
  refine ⟨(e _ (by omega)).trans h.hs, (e _ (by omega)).trans h.ho, (e _ (by omega)).trans h.ha, (e _ (by omega)).trans h.hw, ?_, ?_, ?_⟩
  · exact Kd.R_mono (Kd.R_far (p := ⟨b, 2, none⟩) (Kd.R_far (p := ⟨b, 1, none⟩) (Kd.R_far (p := ⟨b, 0, none⟩) hn (fun _ hk => hk.2) _) (fun _ hk => hk.2) _) (fun _ hk => hk.2) _) (fun _ hk => hk.1)
  · exact below_set (below_set (below_set (g := b) h.hb (by omega)) (by omega)) (by omega)
  · have := h.hp
    simpa [World.setCell] using this
/-- Behind an append: the row is the new one's, the variable still holds the old one. -/
theorem edits_edits.I.grown {w0 : World} {s : ByteArray} {V V1 : Value} {a : Int} {wi : ByteArray} {out r : List (S36)} {pb : Nat} {w w' : World} (h : edits_edits.I w0 s V a wi out pb w) (hr : Kd.R k36 36 w' w0.heap.size (fun k => w0.heap.size + 4 ≤ k ∧ k ≠ pb) V1 r) (hb : Below w0.heap.size w0 w') (hg : w.grownBy w' V.ownBlock) :
    Kd.R k36 36 w' w0.heap.size (fun k => w0.heap.size + 4 ≤ k ∧ k ≠ pb) V1 r ∧ edits_edits.J w0 s V a wi pb w' := by
  have ne (g : Nat) (hgt : g < w0.heap.size + 4) : some g ≠ V.ownBlock := Kd.R_away h.hr (fun k hk => by have := hk.1; omega)
  exact ⟨hr, blk_grown h.hs hg (ne _ (by omega)), blk_grown h.ho hg (ne _ (by omega)), blk_grown h.ha hg (ne _ (by omega)), blk_grown h.hw hg (ne _ (by omega)), hb, Nat.lt_of_lt_of_le h.hp hg.size⟩
theorem edits_edits.J.out_ {w0 : World} {s : ByteArray} {V V1 : Value} {a : Int} {wi : ByteArray} {r : List (S36)} {pb : Nat} {w : World} (h : edits_edits.J w0 s V a wi pb w) (hr : Kd.R k36 36 w w0.heap.size (fun k => w0.heap.size + 4 ≤ k ∧ k ≠ pb) V1 r) :
    edits_edits.I w0 s V1 a wi r pb (w.setCell ⟨w0.heap.size + 1, 0, none⟩ V1) :=
  ⟨blk_far h.hs (by simp) _, blk_put h.ho 0 _ rfl, blk_far h.ha (by simp) _, blk_far h.hw (by simp) _, Kd.R_far (p := ⟨w0.heap.size + 1, 0, none⟩) hr (fun k hk => by have := hk.1; show k ≠ w0.heap.size + 1; omega) _, below_set (g := w0.heap.size + 1) h.hb (by omega), by have := h.hp; simpa [World.setCell] using this⟩
theorem edits_edits.I.with_ {w0 : World} {s : ByteArray} {V : Value} {a : Int} {wi : ByteArray} {r : List (S36)} {pb : Nat} {w : World} (h : edits_edits.I w0 s V a wi r pb w) (u : ByteArray) :
    edits_edits.I w0 s V a u r pb (w.setCell ⟨w0.heap.size + 3, 0, none⟩ (.string u)) :=
  ⟨blk_far h.hs (by simp) _, blk_far h.ho (by simp) _, blk_far h.ha (by simp) _, blk_put h.hw 0 _ rfl, Kd.R_far (p := ⟨w0.heap.size + 3, 0, none⟩) h.hr (fun k hk => by have := hk.1; show k ≠ w0.heap.size + 3; omega) _, below_set (g := w0.heap.size + 3) h.hb (by omega), by have := h.hp; simpa [World.setCell] using this⟩
theorem edits_edits.I.at_ {w0 : World} {s : ByteArray} {V : Value} {a : Int} {wi : ByteArray} {r : List (S36)} {pb : Nat} {w : World} (h : edits_edits.I w0 s V a wi r pb w) (u : Int) :
    edits_edits.I w0 s V u wi r pb (w.setCell ⟨w0.heap.size + 2, 0, none⟩ (.int .i64 u)) :=
  ⟨blk_far h.hs (by simp) _, blk_far h.ho (by simp) _, blk_put h.ha 0 _ rfl, blk_far h.hw (by simp) _, Kd.R_far (p := ⟨w0.heap.size + 2, 0, none⟩) h.hr (fun k hk => by have := hk.1; show k ≠ w0.heap.size + 2; omega) _, below_set (g := w0.heap.size + 2) h.hb (by omega), by have := h.hp; simpa [World.setCell] using this⟩
def edits_edits.T0 : Bool × List (List Nat × List Nat) := (true, [([], []), ([], []), ([], []), ([0, 1, 2], [0, 1, 2]), ([], []), ([], []), ([], []), ([4, 5, 6], [4, 5, 6]), ([3, 7], [3, 7]), ([], []), ([9, 8, 8, 0, 1, 2, 3, 4, 5, 6, 7, 8, 9], [8, 9])])
def edits_edits.B0 : List Nat := [0, 0, 0, 7, 0, 0, 0, 112, 255, 0, 1023]
theorem edits_edits.tab0 : rtab .any (opsOf Try.f33 0) = edits_edits.T0 := by kernel_rfl
theorem edits_edits.bits0 : waitsOk edits_edits.T0.2 edits_edits.B0 = true := by kernel_rfl
set_option maxHeartbeats 4000000 in
set_option maxRecDepth 100000 in
theorem edits_edits.flush (s : ByteArray) (w0 w : World) (a tt : Int) (wi : ByteArray) (V : Value) (out r : List (S36)) (pb : Nat) (hI : edits_edits.I w0 s V a wi out pb w) (h : edits_edits.fl s a tt wi out = some r) :
    Calls Try.prog 33 #[.int .i64 tt, .pointer (some ⟨w0.heap.size + 2, 0, none⟩), .pointer (some ⟨w0.heap.size + 3, 0, none⟩), .pointer (some ⟨w0.heap.size, 0, none⟩), .pointer (some ⟨w0.heap.size + 1, 0, none⟩)] w fun e w' => e = .returned (.tuple #[]) ∧ ∃ V', edits_edits.I w0 s V' a ⟨#[]⟩ r pb w' ∧ (w0.heap.size + 4 ≤ pb → w'.heap[pb]? = w.heap[pb]?) := by
  have hu36 := Try.underlying36
  unfold edits_edits.fl at h
  by_cases hg : 0 ≤ a ∧ a ≤ tt ∧ tt ≤ (s.size : Int) ∧ out.length < 4398046511104
  case neg => rw [if_neg hg] at h; exact absurd h (by simp)
  rw [if_pos hg] at h
  obtain ⟨g0, g1, g2, g3⟩ := hg
  obtain ⟨⟨e0, e1, e2⟩, A12, h⟩ := Option.bind_eq_some_iff.mp h
  obtain ⟨bb, A13, h⟩ := Option.bind_eq_some_iff.mp h
  replace h := Option.some.inj h
  replace A12 := Aside0.mk A12
  replace A13 := Aside0.mk A13
  have H := Aside0.mk h
  have LM := Aside0.mk g3
  clear h g3
  have gb0 := eq_true g0
  have gb1 := eq_true g1
  have gb2 := eq_true g2
  have gd0 : decide (0 ≤ a) = true := decide_eq_true g0
  have gd1 : decide (a ≤ tt) = true := decide_eq_true g1
  have gd2 : decide (tt ≤ (s.size : Int)) = true := decide_eq_true g2
  clear g0 g1 g2
  have HI := Aside0.mk hI
  have HP := Aside0.mk (fun (_ : w0.heap.size + 4 ≤ pb) => (rfl : w.heap[pb]? = w.heap[pb]?))
  clear hI
  go_enter Try.func33, Try.ntmps33
  go_wp2
  have n0_ := Aside0.mk HI.out.drew
  clear HI
  have HI := n0_
  clear n0_
  refine start_ (n := 11) (S := fun w' => w'.cell? ⟨w0.heap.size + 2, 0, none⟩ = some (.int .i64 a) ∧ w'.cell? ⟨w0.heap.size + 3, 0, none⟩ = some (.string wi) ∧ w'.cell? ⟨w0.heap.size, 0, none⟩ = some (.string s)) (ds := []) #[false, false, false, false, false, false, false, false, false, false, false] (by kernel_rfl) rfl rfl ⟨(blk_cell HI.out.ha 0).trans rfl, (blk_cell HI.out.hw 0).trans rfl, (blk_cell HI.out.hs 0).trans rfl⟩ (fun hHeld => ?_); refine with_tabW edits_edits.tab0 edits_edits.bits0 (fun HT_ HW_ => ?_)
  have HP := Aside0.mk (fun (_ : w0.heap.size + 4 ≤ pb) => (show w.drew.heap[pb]? = w.heap[pb]? from rfl))
  generalize w.drew = w1 at HI HP hHeld ⊢
  refine pure_ (i := 1) (N := some 8) (v := ?_) (a' := ?_) #[false, true, false, false, false, false, false, false, false, false, false] rfl rfl (any_of HT_.out (by kernel_rfl)) (fun _ _ _ h => h) (Or.inl ⟨by rfl, ?_⟩) ?_ ?_
  rotate_left
  · intro w'
    go_simp
    with_reducible rfl
  rotate_left
  · simp only [Act.put, List.setIfInBounds_toArray, List.set_cons_zero, List.set_cons_succ, i64_w, i32_w]
    rfl
  refine pure_ (i := 6) (N := some 13) (v := ?_) (a' := ?_) #[false, true, false, false, false, false, true, false, false, false, false] rfl rfl (any_of HT_.out (by kernel_rfl)) (fun _ _ _ h => h) (Or.inl ⟨by rfl, ?_⟩) ?_ ?_
  rotate_left
  · intro w'
    go_simp
    with_reducible rfl
  rotate_left
  · simp only [Act.put, List.setIfInBounds_toArray, List.set_cons_zero, List.set_cons_succ, i64_w, i32_w]
    rfl
  refine take_ (i := 0) (N := some 7) (v := ?_) (a' := ?_) #[true, true, false, false, false, false, true, false, false, false, false] rfl rfl (take_ofW HT_.out HW_.out (by kernel_rfl)) (fun _ _ _ h => h) (Or.inl ⟨by rfl, ?_⟩) hHeld ?_ ?_
  rotate_left
  · rintro w' ⟨s0, s1, s2⟩
    go_simp
    with_reducible rfl
  rotate_left
  · simp only [Act.put, List.setIfInBounds_toArray, List.set_cons_zero, List.set_cons_succ, i64_w, i32_w]
    rfl
  refine take_ (i := 2) (N := some 9) (v := ?_) (a' := ?_) #[true, true, true, false, false, false, true, false, false, false, false] rfl rfl (take_ofW HT_.out HW_.out (by kernel_rfl)) (fun _ _ _ h => h) (Or.inl ⟨by rfl, ?_⟩) hHeld ?_ ?_
  rotate_left
  · rintro w' ⟨s0, s1, s2⟩
    go_simp
    with_reducible rfl
  rotate_left
  · simp only [Act.put, List.setIfInBounds_toArray, List.set_cons_zero, List.set_cons_succ, i64_w, i32_w]
    rfl
  refine take_ (i := 4) (N := some 11) (v := ?_) (a' := ?_) #[true, true, true, false, true, false, true, false, false, false, false] rfl rfl (take_ofW HT_.out HW_.out (by kernel_rfl)) (fun _ _ _ h => h) (Or.inl ⟨by rfl, ?_⟩) hHeld ?_ ?_
  rotate_left
  · rintro w' ⟨s0, s1, s2⟩
    go_simp
    with_reducible rfl
  rotate_left
  · simp only [Act.put, List.setIfInBounds_toArray, List.set_cons_zero, List.set_cons_succ, i64_w, i32_w]
    rfl
  refine take_ (i := 5) (N := some 12) (v := ?_) (a' := ?_) #[true, true, true, false, true, true, true, false, false, false, false] rfl rfl (take_ofW HT_.out HW_.out (by kernel_rfl)) (fun _ _ _ h => h) (Or.inl ⟨by rfl, ?_⟩) hHeld ?_ ?_
  rotate_left
  · rintro w' ⟨s0, s1, s2⟩
    go_simp
    with_reducible rfl
  rotate_left
  · simp only [Act.put, List.setIfInBounds_toArray, List.set_cons_zero, List.set_cons_succ, i64_w, i32_w]
    rfl
  refine pure_ (i := 3) (N := some 10) (v := ?_) (a' := ?_) #[true, true, true, true, true, true, true, false, false, false, false] rfl rfl (any_of HT_.out (by kernel_rfl)) (fun _ _ _ h => h) (Or.inl ⟨by rfl, ?_⟩) ?_ ?_
  rotate_left
  · intro w'
    go_simp
    with_reducible rfl
  rotate_left
  · simp only [Act.put, List.setIfInBounds_toArray, List.set_cons_zero, List.set_cons_succ, i64_w, i32_w]
    rfl
  refine pure_ (i := 7) (N := some 14) (v := ?_) (a' := ?_) #[true, true, true, true, true, true, true, true, false, false, false] rfl rfl (any_of HT_.out (by kernel_rfl)) (fun _ _ _ h => h) (Or.inl ⟨by rfl, ?_⟩) ?_ ?_
  rotate_left
  · intro w'
    go_simp
    with_reducible rfl
  rotate_left
  · simp only [Act.put, List.setIfInBounds_toArray, List.set_cons_zero, List.set_cons_succ, i64_w, i32_w]
    rfl
  refine join_ (σ := Nat) 1 #[true, true, true, true, true, true, true, true, true, true, false] (fun s_ => [(15, .agg #[.int .i64 e0, .int .i64 e1, .string e2]), (6, .pointer (some ⟨s_, 0, none⟩))]) (fun s_ w' => (w'.cell? ⟨w0.heap.size + 2, 0, none⟩ = some (.int .i64 a) ∧ w'.cell? ⟨w0.heap.size + 3, 0, none⟩ = some (.string wi) ∧ w'.cell? ⟨w0.heap.size, 0, none⟩ = some (.string s)) ∧ edits_edits.I w0 s V a wi out pb w' ∧ Kd.R k36 36 w' w0.heap.size (fun k => (w0.heap.size + 4 ≤ k ∧ k ≠ pb) ∧ k ≠ s_) V out ∧ w'.heap[s_]? = some (.cells #[.int .i64 0, .int .i64 0, .string (⟨#[]⟩ : ByteArray)] 36 (0, 0)) ∧ w0.heap.size + 4 ≤ s_ ∧ s_ ≠ pb ∧ (w0.heap.size + 4 ≤ pb → w'.heap[pb]? = w.heap[pb]?)) ?_ ?_
  rotate_left
  · intro hCont
    refine two_ (i := 8) (j := 9) (Ni := some 15) (Nj := some 6) #[true, true, true, true, true, true, true, true, true, false, false] #[true, true, true, true, true, true, true, true, false, true, false] rfl rfl rfl rfl (two_of HT_.out (by kernel_rfl)) (by decide) (by decide) (fun K hK => ?_) (fun K hK => ?_)
    · skip
      refine goes_ Try.func23 (by kernel_rfl) rfl #[.agg #[.int .i64 a, .int .i64 tt, .string wi], .string (s.extract (a : Int).toNat (tt : Int).toNat)] (by rfl) rfl rfl (by (try simp only [List.map_toArray, List.map_cons, List.map_nil]); first | done | rfl) ?_
      with_reducible refine (edits_lean.calls a tt wi (s.extract (a : Int).toNat (tt : Int).toNat) e0 e1 e2 _ A12.out).mono ?_
      rintro e w3 ⟨rfl, hb⟩
      refine ⟨_, rfl, ?_⟩
      have n0_ := Aside0.mk (HI.out.below hb)
      have n1_ := Aside0.mk (fun hh => (hb.block pb HI.out.hp).trans (HP.out hh))
      clear HI HP
      have HI := n0_
      have HP := n1_
      clear n0_ n1_ hb
      refine hK.out _ _ ⟨(blk_cell HI.out.ha 0).trans rfl, (blk_cell HI.out.hw 0).trans rfl, (blk_cell HI.out.hs 0).trans rfl⟩ (fun hHeld => ?_)
      clear hK K
      refine norm_ (a' := ?_) ?_ ?_
      rotate_left
      · show Act.put _ (some 15) _ = _
        simp only [Act.put, List.setIfInBounds_toArray, List.set_cons_zero, List.set_cons_succ, i64_w, i32_w]
        rfl
      refine one_ (i := 9) (N := some 6) #[true, true, true, true, true, true, true, true, true, true, false] rfl rfl (one_of HT_.out (by kernel_rfl)) (by decide) (fun K hK => ?_)
      refine box_step ?hg (N := 6) ?hd (cs := #[.int .i64 0, .int .i64 0, .string (⟨#[]⟩ : ByteArray)]) (t := 36) ?hr ?_; (case hd => rfl); (case hg => rfl); (case hr => first | (go_simp; done) | (go_simp; rfl))
      intro gb hg w4 hbox hb
      have n3_ := Aside0.mk (show w0.heap.size + 4 ≤ gb from by rw [hg]; have := blk_lt HI.out.hw; omega)
      have n4_ := Aside0.mk (show gb ≠ pb from by rw [hg]; have := HI.out.hp; omega)
      have n0_ := Aside0.mk (HI.out.below hb)
      have n1_ := Aside0.mk (fun hh => (hb.block pb HI.out.hp).trans (HP.out hh))
      have NX := Aside0.mk (Kd.R_below (Kd.R_elderB HI.out.hr gb (Nat.le_of_eq hg.symm)) hb)
      clear HI HP
      have HI := n0_
      have HP := n1_
      have BX := Aside0.mk hbox
      clear n0_ n1_ hb hbox hg
      refine hK.out _ _ ⟨(blk_cell HI.out.ha 0).trans rfl, (blk_cell HI.out.hw 0).trans rfl, (blk_cell HI.out.hs 0).trans rfl⟩ (fun hHeld => ?_)
      clear hK K
      refine norm_ (a' := ?_) ?_ ?_
      rotate_left
      · show Act.put _ (some 6) _ = _
        simp only [Act.put, List.setIfInBounds_toArray, List.set_cons_zero, List.set_cons_succ, i64_w, i32_w]
        rfl
      exact norm_ (by simp only [putAll, Act.put, List.setIfInBounds_toArray, List.set_cons_zero, List.set_cons_succ]) (hCont gb _ ⟨hHeld, HI.out, NX.out, BX.out, n3_.out, n4_.out, HP.out⟩)
    · skip
      refine box_step ?hg (N := 6) ?hd (cs := #[.int .i64 0, .int .i64 0, .string (⟨#[]⟩ : ByteArray)]) (t := 36) ?hr ?_; (case hd => rfl); (case hg => rfl); (case hr => first | (go_simp; done) | (go_simp; rfl))
      intro gb hg w4 hbox hb
      have n3_ := Aside0.mk (show w0.heap.size + 4 ≤ gb from by rw [hg]; have := blk_lt HI.out.hw; omega)
      have n4_ := Aside0.mk (show gb ≠ pb from by rw [hg]; have := HI.out.hp; omega)
      have n0_ := Aside0.mk (HI.out.below hb)
      have n1_ := Aside0.mk (fun hh => (hb.block pb HI.out.hp).trans (HP.out hh))
      have NX := Aside0.mk (Kd.R_below (Kd.R_elderB HI.out.hr gb (Nat.le_of_eq hg.symm)) hb)
      clear HI HP
      have HI := n0_
      have HP := n1_
      have BX := Aside0.mk hbox
      clear n0_ n1_ hb hbox hg
      refine hK.out _ _ ⟨(blk_cell HI.out.ha 0).trans rfl, (blk_cell HI.out.hw 0).trans rfl, (blk_cell HI.out.hs 0).trans rfl⟩ (fun hHeld => ?_)
      clear hK K
      refine norm_ (a' := ?_) ?_ ?_
      rotate_left
      · show Act.put _ (some 6) _ = _
        simp only [Act.put, List.setIfInBounds_toArray, List.set_cons_zero, List.set_cons_succ, i64_w, i32_w]
        rfl
      refine one_ (i := 8) (N := some 15) #[true, true, true, true, true, true, true, true, true, true, false] rfl rfl (one_of HT_.out (by kernel_rfl)) (by decide) (fun K hK => ?_)
      refine goes_ Try.func23 (by kernel_rfl) rfl #[.agg #[.int .i64 a, .int .i64 tt, .string wi], .string (s.extract (a : Int).toNat (tt : Int).toNat)] (by rfl) rfl rfl (by (try simp only [List.map_toArray, List.map_cons, List.map_nil]); first | done | rfl) ?_
      with_reducible refine (edits_lean.calls a tt wi (s.extract (a : Int).toNat (tt : Int).toNat) e0 e1 e2 _ A12.out).mono ?_
      rintro e w3 ⟨rfl, hb⟩
      refine ⟨_, rfl, ?_⟩
      have n0_ := Aside0.mk (HI.out.below hb)
      have n1_ := Aside0.mk (fun hh => (hb.block pb HI.out.hp).trans (HP.out hh))
      have n2_ := Aside0.mk (blk_below BX.out hb)
      have n5_ := Aside0.mk (Kd.R_below NX.out hb)
      clear BX NX
      have NX := n5_
      clear n5_
      clear HI HP
      have HI := n0_
      have HP := n1_
      have BX := n2_
      clear n0_ n1_ n2_ hb
      refine hK.out _ _ ⟨(blk_cell HI.out.ha 0).trans rfl, (blk_cell HI.out.hw 0).trans rfl, (blk_cell HI.out.hs 0).trans rfl⟩ (fun hHeld => ?_)
      clear hK K
      refine norm_ (a' := ?_) ?_ ?_
      rotate_left
      · show Act.put _ (some 15) _ = _
        simp only [Act.put, List.setIfInBounds_toArray, List.set_cons_zero, List.set_cons_succ, i64_w, i32_w]
        rfl
      exact norm_ (by simp only [putAll, Act.put, List.setIfInBounds_toArray, List.set_cons_zero, List.set_cons_succ]) (hCont gb _ ⟨hHeld, HI.out, NX.out, BX.out, n3_.out, n4_.out, HP.out⟩)
  rintro gb w5 ⟨hHeld, hI, hN, hX, hX1, hX2, hP⟩
  clear HI HP
  have HI := Aside0.mk hI
  have HP := Aside0.mk hP
  have HX := Aside0.mk hX
  have HX1 := Aside0.mk hX1
  have HX2 := Aside0.mk hX2
  have HN := Aside0.mk hN
  clear hN
  clear hI hP hX hX1 hX2
  refine norm_ (a' := ?_) ?_ ?_
  rotate_left
  · simp only [putAll, Act.put, List.setIfInBounds_toArray, List.set_cons_zero, List.set_cons_succ]
    rfl
  refine one_ (i := 10) (N := none) #[true, true, true, true, true, true, true, true, true, true, true] rfl rfl (one_of HT_.out (by kernel_rfl)) (by decide) (fun K hK => ?_)
  have hs0 : w5.cell? ⟨gb, 0, none⟩ = some (.int .i64 0) := (blk_cell HX.out 0).trans rfl
  have hfs0 := blk_frozen HX.out 0
  have hs1 : w5.cell? ⟨gb, 1, none⟩ = some (.int .i64 0) := (blk_cell HX.out 1).trans rfl
  have hfs1 := blk_frozen HX.out 1
  have hs2 : w5.cell? ⟨gb, 2, none⟩ = some (.string (⟨#[]⟩ : ByteArray)) := (blk_cell HX.out 2).trans rfl
  have hfs2 := blk_frozen HX.out 2
  refine skip_ (w1 := ?_) (by rfl) rfl ?_ ?_
  rotate_left
  · go_simp
    rfl
  obtain ⟨w6, hw6⟩ : ∃ w6, w6 = (((w5.setCell ⟨gb, 0, none⟩ (.int .i64 e0)).setCell ⟨gb, 1, none⟩ (.int .i64 e1)).setCell ⟨gb, 2, none⟩ (.string e2)) := ⟨_, rfl⟩
  rw [← hw6]
  have n0_ := Aside0.mk (edits_edits.I.put HI.out HX1.out HX2.out e0 e1 e2 HN.out)
  have n1_ := Aside0.mk (show w6.heap[gb]? = some (.cells #[.int .i64 e0, .int .i64 e1, .string e2] 36 (0, 0)) from by rw [hw6]; exact blk_put (blk_put (blk_put HX.out 0 _ rfl) 1 _ rfl) 2 _ rfl)
  have n2_ := Aside0.mk (show w0.heap.size + 4 ≤ pb → w6.heap[pb]? = w.heap[pb]? from fun hh => by rw [hw6]; exact (Below.heap_setCell _ _ _ pb (Ne.symm HX2.out)).trans ((Below.heap_setCell _ _ _ pb (Ne.symm HX2.out)).trans ((Below.heap_setCell _ _ _ pb (Ne.symm HX2.out)).trans (HP.out hh))))
  rw [← hw6] at n0_
  clear HI HP HX hs0 hs1 hs2 hfs0 hfs1 hfs2 hw6
  have HI := n0_
  have HX := n1_
  have HP := n2_
  clear n0_ n1_ n2_
  refine hK.out _ _ ⟨(blk_cell HI.out.ha 0).trans rfl, (blk_cell HI.out.hw 0).trans rfl, (blk_cell HI.out.hs 0).trans rfl⟩ (fun hHeld => ?_)
  clear hK K
  refine done_ (done_of HT_.out (by kernel_rfl)) ?_
  have k0 := (blk_cell HX.out 0).trans rfl
  have k1 := (blk_cell HX.out 1).trans rfl
  have k2 := (blk_cell HX.out 2).trans rfl
  cases bb with
  | true =>
    obtain rfl : out = r := by have := H.out; simpa using this
    have cw : w6.cell? ⟨w0.heap.size + 3, 0, none⟩ = some (.string wi) := (blk_cell HI.out.hw 0).trans rfl
    have fw := blk_frozen HI.out.hw 0
    go_wp2_with (refine goesL_ (some 17) rfl rfl Try.func24 (by kernel_rfl) rfl #[.agg #[.int .i64 e0, .int .i64 e1, .string e2]] rfl (by (try simp only [List.map_toArray, List.map_cons, List.map_nil]); first | done | rfl) ?_; (with_reducible refine (edits_bare.calls e0 e1 e2 true _ A13.out).mono ?_); rintro e w7 ⟨rfl, hb⟩; refine ⟨_, rfl, ?_⟩; have n0_ := Aside0.mk (HI.out.below hb); have n1_ := Aside0.mk (fun hh => (hb.block pb HI.out.hp).trans (HP.out hh)); clear HI HP HX k0 k1 k2 cw fw hHeld; have HI := n0_; have HP := n1_; clear n0_ n1_ hb; have cw : w7.cell? ⟨w0.heap.size + 3, 0, none⟩ = some (.string wi) := (blk_cell HI.out.hw 0).trans rfl; have fw := blk_frozen HI.out.hw 0)
    go_end0
    exact ⟨rfl, ⟨V, HI.out.with_ ⟨#[]⟩⟩, fun hh => (Below.heap_setCell _ ⟨w0.heap.size + 3, 0, none⟩ _ pb (show pb ≠ w0.heap.size + 3 by omega)).trans (HP.out hh)⟩
  | false =>
    obtain rfl : out ++ [(⟨e0, e1, e2⟩ : S36)] = r := by have := H.out; simpa using this
    go_wp2_with (first | (refine goesL_ (some 17) rfl rfl Try.func24 (by kernel_rfl) rfl #[.agg #[.int .i64 e0, .int .i64 e1, .string e2]] rfl (by (try simp only [List.map_toArray, List.map_cons, List.map_nil]); first | done | rfl) ?_; (with_reducible refine (edits_bare.calls e0 e1 e2 false _ A13.out).mono ?_); rintro e w7 ⟨rfl, hb⟩; refine ⟨_, rfl, ?_⟩; have n0_ := Aside0.mk (HI.out.below hb); have n1_ := Aside0.mk (fun hh => (hb.block pb HI.out.hp).trans (HP.out hh)); have n2_ := Aside0.mk (blk_below HX.out hb); clear HI HP HX k0 k1 k2 hHeld; have HI := n0_; have HP := n1_; have HX := n2_; clear n0_ n1_ n2_ hb; have k0 := (blk_cell HX.out 0).trans rfl; have k1 := (blk_cell HX.out 1).trans rfl; have k2 := (blk_cell HX.out 2).trans rfl; have co : w7.cell? ⟨w0.heap.size + 1, 0, none⟩ = some V := (blk_cell HI.out.ho 0).trans rfl) | ((with_reducible refine gate_builtin (b := .append) (xs := #[.tmp 19, .tmp 21]) rfl ?_); at_builtin; refine Kd.R_append k36 (w0 := w0) w0.heap.size rfl (.tmp 19) (.tmp 21) 22 36 (.agg #[(.int .i64 0), (.int .i64 0), (.string ⟨#[]⟩)]) 32 rfl Try.underlying22 info36 rfl (by decide) (by omega) V out (⟨e0, e1, e2⟩ : S36) [.int .i64 e0, .int .i64 e1, .string e2] (fun k => w0.heap.size + 4 ≤ k ∧ k ≠ pb) (fun _ => False) rfl rfl (k36_mkM _ _ _ (⟨e0, e1, e2⟩ : S36)) (fun _ hk => hk.elim) (fun k hk => ⟨by have := blk_lt HI.out.hw; omega, by have := HI.out.hp; omega⟩) HI.out.hr HI.out.hb HI.out.hb.size (by have := LM.out; omega) ?_; intro V1 w8 ho hb hg hat; obtain ⟨g8, c8, hV8, -⟩ := Kd.R_form ho (by simp); rw [List.length_append, List.length_singleton] at hV8; subst hV8; have n0_ := Aside0.mk (edits_edits.I.grown HI.out ho hb hg); have n1_ := Aside0.mk (fun hh => (hg.block pb HI.out.hp (Kd.R_away HI.out.hr (fun _ hk => hk.2))).trans (HP.out hh)); clear HI HP HX k0 k1 k2 co ho hb hg hat; have HI := n0_; have HP := n1_; clear n0_ n1_; have co : w8.cell? ⟨w0.heap.size + 1, 0, none⟩ = some V := (blk_cell HI.out.2.ho 0).trans rfl; have fo := blk_frozen HI.out.2.ho 0; have cw : w8.cell? ⟨w0.heap.size + 3, 0, none⟩ = some (.string wi) := (blk_cell HI.out.2.hw 0).trans rfl; have fw := blk_frozen HI.out.2.hw 0))
    go_end0
    exact ⟨rfl, _, (HI.out.2.out_ HI.out.1).with_ ⟨#[]⟩, fun hh => (Below.heap_setCell _ ⟨w0.heap.size + 3, 0, none⟩ _ pb (show pb ≠ w0.heap.size + 3 by omega)).trans ((Below.heap_setCell _ ⟨w0.heap.size + 1, 0, none⟩ _ pb (show pb ≠ w0.heap.size + 1 by omega)).trans (HP.out hh))⟩

theorem edits_edits.I.re {w0 : World} {s : ByteArray} {V : Value} {a : Int} {wi : ByteArray} {out : List (S36)} {pb gb : Nat} {w w' : World} (h : edits_edits.I w0 s V a wi out pb w) (hg : gb = w.heap.size) (hb : Below w.heap.size w w') (hl : gb < w'.heap.size) : edits_edits.I w0 s V a wi out gb w' :=
  ⟨blk_below h.hs hb, blk_below h.ho hb, blk_below h.ha hb, blk_below h.hw hb, Kd.R_below (Kd.R_mono (Kd.R_elderB h.hr gb (Nat.le_of_eq hg.symm)) (fun _ hk => ⟨hk.1.1, hk.2⟩)) hb, below_step h.hb hb, hl⟩
theorem edits_edits.I.base {w0 : World} {s : ByteArray} {V : Value} {a : Int} {wi : ByteArray} {out : List (S36)} {pb : Nat} {w : World} (h : edits_edits.I w0 s V a wi out pb w) : edits_edits.I w0 s V a wi out w0.heap.size w :=
  ⟨h.hs, h.ho, h.ha, h.hw, Kd.R_mono h.hr (fun k hk => ⟨hk.1, by have := hk.1; omega⟩), h.hb, blk_lt h.hs⟩
theorem edits_edits.I.at3 {w0 : World} {s : ByteArray} {V : Value} {a : Int} {wi : ByteArray} {out : List (S36)} {b : Nat} {w : World} (h : edits_edits.I w0 s V a wi out b w) (hb : w0.heap.size + 4 ≤ b) (e0 e1 e2 : Value) :
    edits_edits.I w0 s V a wi out b (((w.setCell ⟨b, 0, none⟩ e0).setCell ⟨b, 1, none⟩ e1).setCell ⟨b, 2, none⟩ e2) := by
  have e (g : Nat) (hg : g ≠ b) : (((w.setCell ⟨b, 0, none⟩ e0).setCell ⟨b, 1, none⟩ e1).setCell ⟨b, 2, none⟩ e2).heap[g]? = w.heap[g]? := (Below.heap_setCell _ _ _ g hg).trans ((Below.heap_setCell _ _ _ g hg).trans (Below.heap_setCell _ _ _ g hg))
  refine ⟨(e _ (by omega)).trans h.hs, (e _ (by omega)).trans h.ho, (e _ (by omega)).trans h.ha, (e _ (by omega)).trans h.hw, ?_, ?_, ?_⟩
  · exact (Kd.R_far (p := ⟨b, 2, none⟩) (Kd.R_far (p := ⟨b, 1, none⟩) (Kd.R_far (p := ⟨b, 0, none⟩) h.hr (fun _ hk => hk.2) _) (fun _ hk => hk.2) _) (fun _ hk => hk.2) _)
  · exact below_set (below_set (below_set h.hb (by omega)) (by omega)) (by omega)
  · have := h.hp
    simpa [World.setCell] using this
theorem edits_edits.I.first (w : World) (s : ByteArray) : edits_edits.I w s (.slice none 0 0) 0 ⟨#[]⟩ [] w.heap.size ((((w.alloc (.cells #[.string s] 9)).alloc (.cells #[.slice none 0 0] 22)).alloc (.cells #[.int .i64 0] 3)).alloc (.cells #[.string ⟨#[]⟩] 9)) := by
  have h1 : (w.alloc (.cells #[.string s] 9)).heap.size = w.heap.size + 1 := by simp
  have h2 : ((w.alloc (.cells #[.string s] 9)).alloc (.cells #[.slice none 0 0] 22)).heap.size = w.heap.size + 2 := by simp
  have h3 : (((w.alloc (.cells #[.string s] 9)).alloc (.cells #[.slice none 0 0] 22)).alloc (.cells #[.int .i64 0] 3)).heap.size = w.heap.size + 3 := by simp
  exact ⟨blk_alloc (blk_alloc (blk_alloc (blk_new _ _) _) _) _, blk_alloc (blk_alloc (h1 ▸ blk_new (w.alloc _) _) _) _, blk_alloc (h2 ▸ blk_new ((w.alloc _).alloc _) _) _, h3 ▸ blk_new (((w.alloc _).alloc _).alloc _) _, Kd.R_nil _ _ _ _ _, below_alloc (below_alloc (below_alloc (below_alloc (Below.refl _ _) _) _) _) _, by simp; omega⟩
def edits_edits.g (s : ByteArray) : List (S52) → Int → ByteArray → List (S36) → Option (List (S36))
  | [], a, wi, out => edits_edits.fl s a (s.size : Int) wi out
  | p :: q, a, wi, out => if p.f0 = true then (edits_edits.fl s a p.f1 wi out).bind fun o => edits_edits.g s q (wrap64 (p.f1 + (p.f2.size : Int))) ⟨#[]⟩ o else if wi.size + p.f2.size ≤ 140737488355328 then edits_edits.g s q a (wi ++ p.f2) out else none
def edits_edits.f (a0 : ByteArray) (l1 : List (S52)) : Option (List (S36)) := if l1.length ≤ 4398046511104 then edits_edits.g a0 l1 0 ⟨#[]⟩ [] else none
set_option maxHeartbeats 4000000 in
set_option maxRecDepth 100000 in
theorem edits_edits.calls (a0 : ByteArray) (A1 : Option Addr) (c1 : Nat) (l1 : List (S52)) (r : List (S36)) (w : World) (hr1 : Kd.C k52 w A1 l1.length l1) (hc1 : l1.length ≤ c1) (h : edits_edits.f a0 l1 = some r) :
    Calls Try.prog 27 #[.string a0, .slice A1 l1.length c1] w fun e w' => ∃ v0_ : Value, e = .returned (v0_) ∧ Kd.R k36 36 w' w.heap.size (fun _ => True) v0_ r ∧ Below w.heap.size w w' := by
  have hu36 := Try.underlying36
  have hu52 := Try.underlying52
  have HR1 := Aside0.mk hr1
  clear hr1 hc1
  unfold edits_edits.f at h
  by_cases hlen : l1.length ≤ 4398046511104
  case neg => rw [if_neg hlen] at h; exact absurd h (by simp)
  rw [if_pos hlen] at h
  have HL := Aside0.mk hlen
  have H := Aside0.mk h
  clear h hlen
  have hmf : ∀ (fn : Fn) (first cap : Array Value) (w : World), (Instr.makeFunc fn first cap).run Try.prog w = .ok (.func fn first cap) w := fun _ _ _ _ => rfl
  go_enter Try.func27, Try.ntmps27
  go_wp2
  rw [show w.heap.size + 1 + 1 + 1 = w.heap.size + 3 from rfl, show w.heap.size + 1 + 1 = w.heap.size + 2 from rfl]
  go_loopg [14] (l1.length + 1) (fun kq v14 w' => ∃ (x14 : Int) (a : Int) (wi : ByteArray) (out : List (S36)) (V : Value), v14 = .int .i64 x14 ∧ Aside0 (edits_edits.g a0 (l1.drop x14.toNat) a wi out = some r) ∧ Aside0 (0 ≤ x14 ∧ x14.toNat ≤ l1.length ∧ kq + x14.toNat = l1.length + 1) ∧ Aside0 (edits_edits.I w a0 V a wi out w.heap.size w'))
  case atStart => exact ⟨0, 0, ⟨#[]⟩, [], .slice none 0 0, rfl, H, ⟨by omega, Nat.zero_le _, by simp⟩, ⟨edits_edits.I.first w a0⟩⟩
  case round =>
    obtain ⟨x14, a, wi, out, V, rfl, HA, HX, HI⟩ := hrel
    clear H
    have p1 : 0 ≤ x14 := HX.out.1
    by_cases c1 : x14 < (l1.length : Int)
    · have c1n : x14.toNat < l1.length := by omega
      have d1 : decide (x14 < (l1.length : Int)) = true := decide_eq_true c1
      have hE := HA.out
      rw [List.drop_eq_getElem_cons c1n] at hE
      have hrd : l1[x14.toNat] = rd_T52 l1 x14 := by simp [rd_T52, List.getD, c1n]
      rw [hrd] at hE
      clear hrd
      obtain ⟨ad, e1, hx0, hx1, hx2⟩ := at_T52 HR1.out x14 p1 c1
      cases e1
      replace hx0 := (HI.out.hb.cell (World.block_lt_of_cell? w _ hx0)).trans hx0
      replace hx1 := (HI.out.hb.cell (World.block_lt_of_cell? w _ hx1)).trans hx1
      replace hx2 := (HI.out.hb.cell (World.block_lt_of_cell? w _ hx2)).trans hx2
      generalize rd_T52 l1 x14 = p at hE hx0 hx1 hx2
      obtain ⟨f0, f1, f2⟩ := p
      simp only [edits_edits.g] at hE
      dsimp only at hx0 hx1 hx2
      clear c1n HA
      replace p1 := eq_true p1
      replace c1 := eq_true c1
      have e2 : (x14 + 1).toNat = x14.toNat + 1 := by have := HX.out.1; omega
      have E2 := Aside0.mk e2
      clear e2
      cases f0 with
      | true =>
        rw [if_pos rfl] at hE
        obtain ⟨o, hfl, hE⟩ := Option.bind_eq_some_iff.mp hE
        have HF := Aside0.mk hfl
        have HA2 := Aside0.mk hE
        clear hfl hE
        go_wp2_with (((with_reducible refine gate_dst (N := 10) rfl ?_); refine box_event ?hg (N := 10) ?hd (cs := #[.bool false, .int .i64 0, .string (⟨#[]⟩ : ByteArray)]) (t := 52) ?hr ?_; (case hd => rfl); (case hg => rfl); (case hr => first | (go_simp; done) | (go_simp; rfl)); intro gb hg w4 hbox hb; have n0_ := Aside0.mk (HI.out.re hg hb (blk_lt hbox)); have n1_ := Aside0.mk (show w.heap.size + 4 ≤ gb from by rw [hg]; have := blk_lt HI.out.hw; omega); clear HI; have HI := n0_; have HG := n1_; have HB := Aside0.mk hbox; clear n0_ n1_ hb hbox hg; have hz0 : w4.cell? ⟨gb, 0, none⟩ = some (.bool false) := (blk_cell HB.out 0).trans rfl; have hz1 : w4.cell? ⟨gb, 1, none⟩ = some (.int .i64 0) := (blk_cell HB.out 1).trans rfl; have hz2 : w4.cell? ⟨gb, 2, none⟩ = some (.string (⟨#[]⟩ : ByteArray)) := (blk_cell HB.out 2).trans rfl; have hf0 := blk_frozen HB.out 0; have hf1 := blk_frozen HB.out 1; have hf2 := blk_frozen HB.out 2))
        have n0_ := Aside0.mk (edits_edits.I.at3 HI.out HG.out (.bool true) (.int .i64 f1) (.string f2))
        have n1_ : Aside0 ((((w4.setCell ⟨gb, 0, none⟩ (.bool true)).setCell ⟨gb, 1, none⟩ (.int .i64 f1)).setCell ⟨gb, 2, none⟩ (.string f2)).heap[gb]? = some (.cells #[.bool true, .int .i64 f1, .string f2] 52 (0, 0))) := ⟨blk_put (blk_put (blk_put HB.out 0 _ rfl) 1 _ rfl) 2 _ rfl⟩
        generalize (((w4.setCell ⟨gb, 0, none⟩ (.bool true)).setCell ⟨gb, 1, none⟩ (.int .i64 f1)).setCell ⟨gb, 2, none⟩ (.string f2)) = w6 at n0_ n1_ ⊢
        clear HI HB hz0 hz1 hz2 hf0 hf1 hf2
        have HI := n0_
        have HB := n1_
        clear n0_ n1_
        go_wp2_with (go_at_call 33; refine (edits_edits.flush a0 w w6 a f1 wi V out o gb HI.out HF.out).mono ?_; rintro e w7 ⟨rfl, V7, hI, hP⟩; have HB7 := Aside0.mk ((hP HG.out).trans HB.out); have HI7 := Aside0.mk hI; clear HI HB hI hP; have k1 : w7.cell? ⟨gb, 1, none⟩ = some (.int .i64 f1) := (blk_cell HB7.out 1).trans rfl; have k2 : w7.cell? ⟨gb, 2, none⟩ = some (.string f2) := (blk_cell HB7.out 2).trans rfl; have ca : w7.cell? ⟨w.heap.size + 2, 0, none⟩ = some (.int .i64 a) := (blk_cell HI7.out.ha 0).trans rfl; have fa := blk_frozen HI7.out.ha 0)
        go_roundg (gk - 1)
        case measure => have := HX.out; omega
        case rel =>
          have hi := HX.out
          have hm := HL.out
          have hlt : x14 < (l1.length : Int) := of_eq_true c1
          have ew : wrap64 (x14 + 1) = x14 + 1 := by unfold wrap64; omega
          exact ⟨_, _, _, _, _, rfl, by rw [ew, E2.out]; exact HA2, ⟨by omega, by omega, by omega⟩, ⟨(HI7.out.at_ _).base⟩⟩
      | false =>
        rw [if_neg (by simp)] at hE
        by_cases c2 : wi.size + f2.size ≤ 140737488355328
        case neg => rw [if_neg c2] at hE; exact absurd hE (by simp)
        rw [if_pos c2] at hE
        have HA2 := Aside0.mk hE
        have g4b : (9223372036854775807 < wi.size + f2.size) = False := eq_false (by omega)
        clear hE c2
        have cw : wr.cell? ⟨w.heap.size + 3, 0, none⟩ = some (.string wi) := (blk_cell HI.out.hw 0).trans rfl
        go_wp2_with (((with_reducible refine gate_dst (N := 10) rfl ?_); refine box_event ?hg (N := 10) ?hd (cs := #[.bool false, .int .i64 0, .string (⟨#[]⟩ : ByteArray)]) (t := 52) ?hr ?_; (case hd => rfl); (case hg => rfl); (case hr => first | (go_simp; done) | (go_simp; rfl)); intro gb hg w4 hbox hb; have n0_ := Aside0.mk (HI.out.re hg hb (blk_lt hbox)); have n1_ := Aside0.mk (show w.heap.size + 4 ≤ gb from by rw [hg]; have := blk_lt HI.out.hw; omega); clear HI; have HI := n0_; have HG := n1_; have HB := Aside0.mk hbox; clear n0_ n1_ hb hbox hg; have hz0 : w4.cell? ⟨gb, 0, none⟩ = some (.bool false) := (blk_cell HB.out 0).trans rfl; have hz1 : w4.cell? ⟨gb, 1, none⟩ = some (.int .i64 0) := (blk_cell HB.out 1).trans rfl; have hz2 : w4.cell? ⟨gb, 2, none⟩ = some (.string (⟨#[]⟩ : ByteArray)) := (blk_cell HB.out 2).trans rfl; have hf0 := blk_frozen HB.out 0; have hf1 := blk_frozen HB.out 1; have hf2 := blk_frozen HB.out 2); have cw : w4.cell? ⟨w.heap.size + 3, 0, none⟩ = some (.string wi) := (blk_cell HI.out.hw 0).trans rfl; have fw := blk_frozen HI.out.hw 0; have ng : (w.heap.size + 3 = gb) = False := eq_false (by have := HG.out; omega); have ng2 : (gb = w.heap.size + 3) = False := eq_false (by have := HG.out; omega))
        go_roundg (gk - 1)
        case measure => have := HX.out; omega
        case rel =>
          have hi := HX.out
          have hm := HL.out
          have hlt : x14 < (l1.length : Int) := of_eq_true c1
          have ew : wrap64 (x14 + 1) = x14 + 1 := by unfold wrap64; omega
          exact ⟨_, _, _, _, _, rfl, by rw [ew, E2.out]; exact HA2, ⟨by omega, by omega, by omega⟩, ⟨((edits_edits.I.at3 HI.out HG.out (.bool false) (.int .i64 f1) (.string f2)).with_ _).base⟩⟩
    · have d1 : decide (x14 < (l1.length : Int)) = false := decide_eq_false c1
      have hE := HA.out
      have hdr : l1.drop x14.toNat = [] := List.drop_eq_nil_of_le (by omega)
      rw [hdr] at hE
      simp only [edits_edits.g] at hE
      have HF := Aside0.mk hE
      clear hE HA hdr c1
      have cs : wr.cell? ⟨w.heap.size, 0, none⟩ = some (.string a0) := (blk_cell HI.out.hs 0).trans rfl
      go_wp2_with (go_at_call 33; refine (edits_edits.flush a0 w wr a (a0.size : Int) wi V out r w.heap.size HI.out HF.out).mono ?_; rintro e w7 ⟨rfl, V7, hI, -⟩; have HI7 := Aside0.mk hI; clear HI cs hI; have co : w7.cell? ⟨w.heap.size + 1, 0, none⟩ = some V7 := (blk_cell HI7.out.ho 0).trans rfl)
      go_ret
      exact ⟨_, rfl, Kd.R_mono HI7.out.hr (fun _ _ => trivial), HI7.out.hb⟩

end Go.Proofs.Ytgdkdamikcnjhaa.PEditsC
