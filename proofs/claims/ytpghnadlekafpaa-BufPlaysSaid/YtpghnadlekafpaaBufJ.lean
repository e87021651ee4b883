/- One splice as a step; what turns a step; the document's example. -/
import Derived.Test.YtpghnadlekafpaaBufH
import Derived.Test.YtpghnadlekafpaaBufI
namespace Go.Proofs.Ytpghnadlekafpaa.PBuf
open Go.RowKit Go.Proofs.YtpghnadlekafpaaW.PrintWords Go.Proofs.YtpghnadlekafpaaW.PrintLast Go.Proofs.YtpghnadlekafpaaW.PrintMore
set_option linter.unusedVariables false
set_option linter.unusedSimpArgs false
theorem lit_C {w : World} {b : Nat} {e : X} (h : w.heap[b]? = some (.cells #[.int .i64 e.f0, .int .i64 e.f1, .string e.f2] 40 (0, 0))) : Kd.C kX w (some ⟨b, 0, none⟩) 1 [e] := by
  refine ⟨rfl, by omega, fun _ => ⟨⟨b, 0, none⟩, rfl, fun j p hj => ?_⟩⟩
  cases j with
  | succ j => simp at hj
  | zero =>
    cases hj
    refine ⟨[.int .i64 e.f0, .int .i64 e.f1, .string e.f2], rfl, k40_mk w e, fun i u hu => ?_⟩
    rw [show (0 * kX.sz + i) = i from by omega]
    match i, hu with
    | 0, hu => cases hu; exact (blk_cell h 0).trans rfl
    | 1, hu => cases hu; exact (blk_cell h 1).trans rfl
    | 2, hu => cases hu; exact (blk_cell h 2).trans rfl
set_option maxHeartbeats 1000000 in
set_option maxRecDepth 100000 in
theorem Splice_via {R : Int → World → Prop} (v : Value) (x y : Int) (t : ByteArray) (w : World) (hA : ∀ w1 b, Below w.heap.size w w1 → Kd.C kX w1 (some ⟨b, 0, none⟩) 1 [⟨x, y, t⟩] → Calls Try.prog 15 #[v, .slice (some ⟨b, 0, none⟩) 1 1] w1 fun e w' => ∃ z, e = .returned (.int .i64 z) ∧ R z w') :
    Calls Try.prog 10 #[v, .int .i64 x, .int .i64 y, .string t] w fun e w' => ∃ z, e = .returned (.int .i64 z) ∧ R z w' := by
  have HA := Aside0.mk (hA (w.alloc (.cells #[.int .i64 x, .int .i64 y, .string t] 40)) w.heap.size (below_alloc (Below.refl _ _) _) (lit_C (e := ⟨x, y, t⟩) (blk_new _ _)))
  clear hA
  go_enter Try.func10, Try.ntmps10
  go_wp2_with (go_at_call 15; refine HA.out.mono ?_; rintro e w1 ⟨z, rfl, hR⟩; have HR := Aside0.mk hR; clear hR HA)
  go_ret
  exact ⟨z, rfl, HR.out⟩
theorem gw1 (x y : Int) (t : ByteArray) : gw [(⟨x, y, t⟩ : X)] = (t.size : Int) - (y - x) := by simp [gw]
theorem Splice_yes {w : World} {base g : Nat} {Vp Vf Vl : Value} {n : Int} {P : List Pc} {past fut : List St} (hB : Bf w base g Vp Vf Vl n P past fut) (x y : Int) (t : ByteArray) (hn : n ≤ 1048576) (hr : rt n 0 [⟨x, y, t⟩] = true) (hz : t.size ≤ 1000) (hg : n + gw [⟨x, y, t⟩] ≤ 1048576) (hb : base ≤ w.heap.size) (hP : P.length ≤ 1000000000) (hpl : past.length ≤ 1000000) :
    Calls Try.prog 10 #[.pointer (some ⟨g, 0, none⟩), .int .i64 x, .int .i64 y, .string t] w fun e w' => ∃ z, e = .returned (.int .i64 z) ∧ z = 0 ∧ ∃ Vp' Vl' n', Bf w' base g Vp' (.slice none 0 0) Vl' n' (dosP P [⟨x, y, t⟩]) (trim (past ++ [⟨[⟨x, y, t⟩], tX (tb P) 0 0 [⟨x, y, t⟩]⟩])) [] ∧ Fr (foot g Vp Vf) w w' ∧ (∀ i, foot g Vp' (.slice none 0 0) i → foot g Vp Vf i ∨ w.heap.size ≤ i) := by
  refine Splice_via _ x y t w (fun w1 b hb1 hC => ?_)
  obtain ⟨q1, q2, q3, -⟩ := rt_cons hr
  dsimp only at q1 q2 q3
  have hg1 := gw1 x y t
  have hn0 := hB.n
  refine (Apply_yes (hB.below hb1) (some ⟨b, 0, none⟩) 1 [⟨x, y, t⟩] hC (Nat.le_refl _) (by simp) hn hr (by simpa using hz) hg (by omega) (Nat.le_trans hb hb1.size) hP hpl).mono ?_
  rintro e w' ⟨rfl, Vp', Vl', n', h1, h2, h3⟩
  exact ⟨0, rfl, rfl, Vp', Vl', n', h1, (Fr.of_below hb1).trans h2 (fun i _ hi => hi), fun i hi => (h3 i hi).imp id (fun h => Nat.le_trans hb1.size h)⟩
theorem Splice_range {w : World} {base g : Nat} {Vp Vf Vl : Value} {n : Int} {P : List Pc} {past fut : List St} (hB : Bf w base g Vp Vf Vl n P past fut) (x y : Int) (t : ByteArray) (hr : rt n 0 [⟨x, y, t⟩] = false) :
    Calls Try.prog 10 #[.pointer (some ⟨g, 0, none⟩), .int .i64 x, .int .i64 y, .string t] w fun e w' => ∃ z, e = .returned (.int .i64 z) ∧ z = 2 ∧ Below w.heap.size w w' := by
  refine Splice_via _ x y t w (fun w1 b hb1 hC => ?_)
  refine (Apply_range (hB.below hb1) (some ⟨b, 0, none⟩) 1 [⟨x, y, t⟩] hC (Nat.le_refl _) (by simp) hr).mono ?_
  rintro e w' ⟨rfl, hb⟩
  exact ⟨2, rfl, rfl, below_step hb1 hb⟩
theorem Splice_none (x y : Int) (t : ByteArray) (w : World) : Calls Try.prog 10 #[.pointer none, .int .i64 x, .int .i64 y, .string t] w fun e w' => ∃ z, e = .returned (.int .i64 z) ∧ z = 1 ∧ Below w.heap.size w w' := by
  refine Splice_via _ x y t w (fun w1 b hb1 hC => ?_)
  refine (Apply_none _ w1).mono ?_
  rintro e w' ⟨rfl, hb⟩
  exact ⟨1, rfl, rfl, below_step hb1 hb⟩
def abc : ByteArray := ⟨#[97, 98, 99]⟩
def xy : ByteArray := ⟨#[120, 121]⟩
def l1 : List X := [⟨1, 2, xy⟩]
def P2 : List Pc := dosP [⟨abc⟩] l1
def u1 : List X := tX (tb [⟨abc⟩]) 0 0 l1
theorem tb2 : tb P2 = ⟨#[97, 120, 121, 99]⟩ := by unfold tb P2; rw [tx_dos]; kernel_rfl
theorem tb3 : tb (dosP P2 u1) = ⟨#[97, 98, 99]⟩ := by unfold tb P2; rw [tx_dos, tx_dos]; kernel_rfl
theorem tx3 : tx (dosP P2 u1) = [97, 98, 99] := by unfold P2; rw [tx_dos, tx_dos]; kernel_rfl
theorem u1_rt : rt ((4 : Nat) : Int) 0 u1 = true := by kernel_rfl
theorem u1_sz : Ed.sz (tL u1) = 1 := by kernel_rfl
theorem tx2_len : (tx P2).length = 4 := by have := tb_size P2; rw [tb2] at this; exact this.symm
theorem P2_len : P2.length ≤ 3 := (dos_len [⟨abc⟩] 3 l1 0 (by kernel_rfl)).1
theorem P3_len : (dosP P2 u1).length ≤ 5 := by have := (dos_len P2 4 u1 0 u1_rt).1; have := P2_len; have : u1.length = 1 := rfl; omega
theorem ok1 : ∀ i, i < u1.length → okAt P2 u1 i := okAt_of P2 4 tx2_len (by have := P2_len; omega) (by omega) u1 0 (Int.le_refl 0) u1_rt (by rw [u1_sz]; omega) (by decide) (by decide)
theorem rt1 : rt 3 0 [(⟨1, 2, xy⟩ : X)] = true := by kernel_rfl
theorem awake_1 {w w1 : World} {g : Nat} {Vl : Value} (hB : Bf w1 w.heap.size g (.slice none 0 0) (.slice none 0 0) Vl 3 [⟨abc⟩] [] []) (hf : Below w.heap.size w w1) : Calls Try.prog 10 #[.pointer (some ⟨g, 0, none⟩), .int .i64 1, .int .i64 2, .string xy] w1 fun e w' => e = .returned (.int .i64 0) ∧ ∃ Vp Vl n, Bf w' w.heap.size g Vp (.slice none 0 0) Vl n P2 ([] ++ [⟨l1, u1⟩]) [] ∧ Below w.heap.size w w' := by
  refine (Splice_yes hB 1 2 xy (by omega) rt1 (by decide) (by rw [gw1]; decide) hf.size (by simp) (by simp)).mono ?_
  rintro e w2 ⟨z, rfl, rfl, Vp2, Vl2, n2, h1, h2, -⟩
  exact ⟨rfl, Vp2, Vl2, n2, h1, hf.trans (h2.below (fun i hi => (hB.foot_lt i hi).2) hf.size)⟩
set_option maxHeartbeats 4000000 in
set_option maxRecDepth 100000 in
theorem awake (w : World) : Calls Try.prog 8 #[] w fun e w' => e = .returned (.bool true) ∧ Below w.heap.size w w' := by
  have HN := Aside0.mk (show Calls Try.prog 9 #[.string ⟨#[97, 98, 99]⟩] w _ from New abc (by decide) w)
  have HBS := Aside0.mk (Nat.le_refl w.heap.size)
  go_enter Try.func8, Try.ntmps8
  go_wp2_with (first | (go_at_call 9; refine HN.out.mono ?_; clear HN; rintro e w1 ⟨g, Vl, rfl, hB, hb⟩; have HB1 := Aside0.mk (show Bf w1 w.heap.size g (.slice none 0 0) (.slice none 0 0) Vl 3 [⟨abc⟩] [] [] from hB); have HF := Aside0.mk hb; clear hB hb) | (go_at_call 10; refine (awake_1 HB1.out HF.out).mono ?_; rintro e w2 ⟨rfl, Vp2, Vl2, n2, hB, hf⟩; have HB2 := Aside0.mk hB; clear HB1 HF hB; have HF := Aside0.mk hf; clear hf) | (go_at_call 16; refine (Text HB2.out (by have := P2_len; omega) (by rw [tx2_len]; omega)).mono ?_; rintro e w3 ⟨rfl, hb⟩; have n0_ := Aside0.mk (below_step HF.out hb); have HB3 := Aside0.mk (HB2.out.below hb); clear HB2 HF hb; have HF := n0_; clear n0_) | (go_at_call 12; refine (Undo_yes HB3.out HF.out.size (by simp) (by simp) (by decide) ok1).mono ?_; rintro e w4 ⟨Vr, Va4, Vb4, Vl4, n4, rfl, -, hB, hf, -⟩; have n0_ := Aside0.mk (hf.below (fun i hi => (HB3.out.foot_lt i hi).2) HF.out.size); have HB4 := Aside0.mk hB; clear HB3 hB hf; have HF4 := n0_; clear n0_) | (go_at_call 16; refine (Text HB4.out (by have := P3_len; omega) (by have := tb_size (dosP P2 u1); rw [tb3] at this; have h3 : (⟨#[97, 98, 99]⟩ : ByteArray).size = 3 := rfl; omega)).mono ?_; rintro e w5 ⟨rfl, hb⟩; have HF5 := Aside0.mk hb; clear hb))
  go_ret
  exact ⟨by rw [show (tx (dosP P2 u1) == [97, 98, 99]) = true from by rw [tx3]; rfl]; rfl, below_step (HF.out.trans HF4.out) HF5.out⟩
end Go.Proofs.Ytpghnadlekafpaa.PBuf
