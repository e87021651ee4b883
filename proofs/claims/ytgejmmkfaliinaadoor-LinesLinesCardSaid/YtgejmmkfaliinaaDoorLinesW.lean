/- Layer 3's functions over an index in memory, walked. -/
import Derived.Test.YtgejmmkfaliinaaDoorLines
import Derived.Test.YtgejmmkfaliinaaDoorWMore
import Derived.Below
import Derived.OwnWalk
import Derived.Laws.MakeOwn
import Derived.Tactics
import Derived.KernelRfl
import Derived.RowKit3
import Derived.Deep.LoopGhost
import Derived.Deep.QuietTactic
import Derived.BigQuiet
import Derived.Laws.Rows
import Derived.RowKit
import Derived.Outline
import Derived.LoopN
import Derived.StillTailTactics
import Derived.OwnWalk
import Derived.Deep.Draws
import Derived.Lib.Builder
namespace Go.Proofs.YtgejmmkfaliinaaDoor.Lines
open Go.RowKit Go.Proofs.YtgejmmkfaliinaaDoorW.PrintWords Go.Proofs.YtgejmmkfaliinaaDoorW.PrintLast Go.Proofs.YtgejmmkfaliinaaDoorW.PrintMore
set_option linter.unusedVariables false
set_option linter.unusedSimpArgs false
theorem starts (s : ByteArray) (at0 : Int) (hs : s.size ≤ 1000000) (w : World) :
    Calls Tryd.prog 14 #[.string s, .int .i64 at0] w fun e W' => ∃ v, e = .returned v ∧ W'.ownsRow w.heap.size 3 1 v (at' at0 (brk s s.size)).length (nums .i64 (at' at0 (brk s s.size))) ∧ Below w.heap.size w W' :=
  callsIn_wide.1 (starts_in Fence.wide 3 trivial trivial trivial rfl (by decide) s at0 hs w)
/-- An index at block g: its text, and where its lines begin. -/
def Ix (w : World) (g : Nat) (s : ByteArray) (z : List Int) : Prop :=
  ∃ r c, w.cell? ⟨g, 0, none⟩ = some (.string s) ∧ w.cell? ⟨g, 1, none⟩ = some (.slice (some ⟨r, 0, none⟩) z.length c) ∧ z.length ≤ c ∧ 0 < z.length ∧ ∀ i, i < z.length → w.cell? ⟨r, i, none⟩ = some (.int .i64 (z.getD i 0))
theorem Ix.below {w w' : World} {g : Nat} {s : ByteArray} {z : List Int} (h : Ix w g s z) (hb : Below w.heap.size w w') : Ix w' g s z := by
  obtain ⟨r, c, h1, h2, h3, h4, h5⟩ := h
  exact ⟨r, c, (hb.cell (World.block_lt_of_cell? w _ h1)).trans h1, (hb.cell (World.block_lt_of_cell? w _ h2)).trans h2, h3, h4, fun i hi => (hb.cell (World.block_lt_of_cell? w _ (h5 i hi))).trans (h5 i hi)⟩
theorem Ix.lt {w : World} {g : Nat} {s : ByteArray} {z : List Int} (h : Ix w g s z) : g < w.heap.size := by
  obtain ⟨r, c, h1, _⟩ := h
  exact World.block_lt_of_cell? w _ h1
/-- Where a text's lines begin. -/
def beg (s : ByteArray) : List Int := 0 :: at' 0 (brk s s.size)
set_option maxHeartbeats 2000000 in
set_option maxRecDepth 100000 in
theorem New (s : ByteArray) (hs : s.size ≤ 1000000) (w : World) :
    Calls Tryd.prog 6 #[.string s] w fun e w' => ∃ g, e = .returned (.pointer (some ⟨g, 0, none⟩)) ∧ w.heap.size ≤ g ∧ Ix w' g s (beg s) ∧ Below w.heap.size w w' := by
  have hl := at_len 0 (brk s s.size)
  have hl2 := brk_len s s.size
  have hlen : (at' 0 (brk s s.size)).length ≤ 1000000 := by omega
  clear hl hl2
  have HL := Aside0.mk hlen
  clear hlen
  have HN := Aside0.mk (own_lit w w.heap.size 3 .i64 [0] (Nat.le_refl _) (by decide))
  have hB1 : Below w.heap.size w (w.alloc (.cells #[.int .i64 0] 3)) := (Below.refl _ w).alloc (Nat.le_refl _) _
  have HB1 := Aside0.mk hB1
  clear hB1
  go_enter Tryd.func6, Tryd.ntmps6
  go_wp2_with (first | (go_at_call 14; refine (starts s 0 hs _).mono ?_; rintro e w2 ⟨v, rfl, hown, hb⟩; obtain ⟨A, c, rfl, hR⟩ := own_reads hown) | (at_builtin; refine print_append_row (w0 := w) w.heap.size rfl _ _ 41 3 .i64 8 rfl Tryd.underlying41 info3 (by decide) (.slice (some ⟨w.heap.size, 0, none⟩) 1 1) [0] (at' 0 (brk s s.size)) A _ c rfl rfl (own_move HN.out (fun k hk => hb.block k (own_lt HN.out k hk))) hR (below_step HB1.out hb) (by have := hb.size; simp at this; omega) (by have := HL.out; simp; omega) ?_; intro v1 w1 hown1 hB1 hg1 hat1; obtain ⟨r, c1, rfl, hr1, hr2⟩ := hown1.form (by simp)))
  go_ret
  have hnew := heap_alloc_new w1 (.cells #[.string s, .slice (some ⟨r, 0, none⟩) ((at' 0 (brk s s.size)).length + 1) c1] 44)
  refine ⟨w1.heap.size, rfl, hB1.size, ⟨r, c1, Go.Lib.cell_of_heap hnew 0, Go.Lib.cell_of_heap hnew 1, ?_, by simp [beg], fun i hi => ?_⟩, hB1.alloc hB1.size _⟩
  · have := own_cap hown1
    simpa [beg] using this
  · have hx := (own_at hown1 (i : Int) (by omega) (by simp [beg] at hi ⊢; omega)).1
    exact (((Below.refl _ w1).alloc (Nat.le_refl _) _).cell (p := ⟨r, i, none⟩) hr2).trans hx
set_option maxHeartbeats 2000000 in
set_option maxRecDepth 100000 in
/-- A binary search by a quiet closure: how many of the first n it answers no to. -/
theorem Search (gf : Nat) (cb : Array Value) (n : Nat) (p : Nat → Bool) (w : World) (eg : ∀ args w, (callFunc gf args).run Tryd.prog w = .ok (.enter gf args) w) (hsz : n < 4611686018427387904)
    (hf : ∀ (m : Nat) (i : Nat), i < n → Calls Tryd.prog gf (#[.int .i64 i] ++ cb) (w.drewN m) fun e w' => e = .returned (.bool (p i)) ∧ ∃ q, w' = (w.drewN m).drewN q)
    (hmono : ∀ a b, a ≤ b → b < n → p a = true → p b = true) :
    Calls Tryd.prog 22 #[.int .i64 n, .func (.func gf) #[] cb] w fun e w' => ∃ c : Nat, e = .returned (.int .i64 c) ∧ c ≤ n ∧ (∀ t, t < c → p t = false) ∧ (∀ t, c ≤ t → t < n → p t = true) ∧ ∃ q, w' = w.drewN q := by
  have HF := Aside0.mk hf
  have M := Aside0.mk hmono
  clear hf hmono
  go_enter Tryd.func22, Tryd.ntmps22
  go_wp2
  go_loopg [5, 6] n (fun kx s5 s6 wr => ∃ (lo hi q : Nat), s5 = .int .i64 lo ∧ s6 = .int .i64 hi ∧ lo ≤ hi ∧ hi ≤ n ∧ hi - lo ≤ kx ∧ wr = w.drewN q ∧
    Aside0 ((∀ t, t < lo → p t = false) ∧ (∀ t, hi ≤ t → t < n → p t = true)))
  case atStart => exact ⟨0, n, 0, rfl, rfl, Nat.zero_le _, Nat.le_refl _, by omega, rfl, ⟨fun t ht => absurd ht (Nat.not_lt_zero _), fun t h1 h2 => by omega⟩⟩
  case round =>
    obtain ⟨lo, hi, q, rfl, rfl, hlh, hin, hg, rfl, I⟩ := hrel
    by_cases hlt : lo < hi
    · have hc := HF.out q ((lo + hi) / 2) (by omega)
      rw [show (((lo + hi) / 2 : Nat) : Int) = ((lo : Int) + (hi : Int)) / 2 by omega] at hc
      cases hp : p ((lo + hi) / 2) <;> rw [hp] at hc
      · have HP := Aside0.mk hp
        clear hp
        go_wp2_with (go_at_fn gf; refine hc.mono ?_; rintro e w' ⟨rfl, nq, rfl⟩)
        go_roundg (hi - ((lo + hi) / 2 + 1))
        case measure => omega
        case rel =>
          have I2 : Aside0 ((∀ t, t < (lo + hi) / 2 + 1 → p t = false) ∧ (∀ t, hi ≤ t → t < n → p t = true)) := ⟨fun t ht => (by
            cases h : p t with
            | false => rfl
            | true => have := M.out t ((lo + hi) / 2) (by omega) (by omega) h; rw [HP.out] at this; cases this), I.out.2⟩
          exact ⟨(lo + hi) / 2 + 1, hi, q + nq, by rw [show ((lo : Int) + (hi : Int)) / 2 + 1 = (((lo + hi) / 2 + 1 : Nat) : Int) by omega], rfl, by omega, hin, Nat.le_refl _, rfl, I2⟩
      · have HP := Aside0.mk hp
        clear hp
        go_wp2_with (go_at_fn gf; refine hc.mono ?_; rintro e w' ⟨rfl, nq, rfl⟩)
        go_roundg ((lo + hi) / 2 - lo)
        case measure => omega
        case rel =>
          have I2 : Aside0 ((∀ t, t < lo → p t = false) ∧ (∀ t, (lo + hi) / 2 ≤ t → t < n → p t = true)) := ⟨I.out.1, fun t ht htn => M.out ((lo + hi) / 2) t ht htn HP.out⟩
          exact ⟨lo, (lo + hi) / 2, q + nq, rfl, by rw [show ((lo : Int) + (hi : Int)) / 2 = (((lo + hi) / 2 : Nat) : Int) by omega], by omega, by omega, Nat.le_refl _, rfl, I2⟩
    · obtain rfl : hi = lo := by omega
      go_wp2
      go_ret
      exact ⟨hi, rfl, hin, I.out.1, I.out.2, q, rfl⟩
set_option maxHeartbeats 1000000 in
set_option maxRecDepth 100000 in
theorem line1 (bx ba g r c zl : Nat) (at0 y : Int) (i : Nat) (W : World) (hi : i < zl) (hx : W.cell? ⟨bx, 0, none⟩ = some (.pointer (some ⟨g, 0, none⟩))) (ha : W.cell? ⟨ba, 0, none⟩ = some (.int .i64 at0))
    (h1 : W.cell? ⟨g, 1, none⟩ = some (.slice (some ⟨r, 0, none⟩) zl c)) (hy : W.cell? ⟨r, i, none⟩ = some (.int .i64 y)) :
    Calls Tryd.prog 23 (#[.int .i64 i] ++ #[.pointer (some ⟨bx, 0, none⟩), .pointer (some ⟨ba, 0, none⟩)]) W fun e w' => e = .returned (.bool (decide (at0 < y))) ∧ ∃ q, w' = W.drewN q := by
  have hiz : (i : Int) < (zl : Int) := by omega
  go_enter Tryd.func23, Tryd.ntmps23
  go_wp2
  go_quiet (fail)
  go_wp2
  go_ret
  exact ⟨by first | rfl | simp, _, rfl⟩
set_option maxHeartbeats 1000000 in
set_option maxRecDepth 100000 in
/-- The line of a place: how many lines begin at it or ahead of it, less one. -/
theorem line (g : Nat) (s : ByteArray) (z : List Int) (at0 : Int) (w : World) (hI : Ix w g s z) (hz : z.length ≤ 2000000) (hm : ∀ a b, a ≤ b → b < z.length → at0 < z.getD a 0 → at0 < z.getD b 0) :
    Calls Tryd.prog 16 #[.pointer (some ⟨g, 0, none⟩), .int .i64 at0] w fun e w' => ∃ c : Nat, e = .returned (.int .i64 ((c : Int) - 1)) ∧ c ≤ z.length ∧ (∀ t, t < c → z.getD t 0 ≤ at0) ∧ (∀ t, c ≤ t → t < z.length → at0 < z.getD t 0) ∧ Below w.heap.size w w' := by
  obtain ⟨W0, hW0⟩ : ∃ W0, W0 = (w.alloc (.cells #[.pointer (some ⟨g, 0, none⟩)] 23)).alloc (.cells #[.int .i64 at0] 3) := ⟨_, rfl⟩
  have bx : Boxed W0 w.heap.size 23 (.pointer (some ⟨g, 0, none⟩)) := by rw [hW0]; exact (Boxed.new w 23 _).alloc _
  have ba : Boxed W0 (w.heap.size + 1) 3 (.int .i64 at0) := by
    rw [hW0]
    have := Boxed.new (w.alloc (.cells #[.pointer (some ⟨g, 0, none⟩)] 23)) 3 (.int .i64 at0)
    rwa [World.size_alloc] at this
  have hB0 : Below w.heap.size w W0 := by rw [hW0]; exact ((Below.refl _ w).alloc (Nat.le_refl _) _).alloc (by simp) _
  have hI0 := hI.below hB0
  obtain ⟨r, c, i1, i2, i3, i4, i5⟩ := hI0
  have eg : ∀ args w, (callFunc 23 args).run Tryd.prog w = .ok (.enter 23 args) w := enters_of Tryd.func23 (by kernel_rfl) rfl
  have hS := Search 23 #[.pointer (some ⟨w.heap.size, 0, none⟩), .pointer (some ⟨w.heap.size + 1, 0, none⟩)] z.length (fun i => decide (at0 < z.getD i 0)) W0 eg (by omega)
    (fun m i hi => by
      have hb := pw_below_drewN (Below.refl W0.heap.size W0) m
      exact line1 w.heap.size (w.heap.size + 1) g r c z.length at0 (z.getD i 0) i _ hi ((hb.cell bx.lt).trans bx.cell) ((hb.cell ba.lt).trans ba.cell) ((hb.cell (World.block_lt_of_cell? _ _ i2)).trans i2) ((hb.cell (World.block_lt_of_cell? _ _ (i5 i hi))).trans (i5 i hi)))
    (fun a b hab hb h => decide_eq_true (hm a b hab hb (of_decide_eq_true h)))
  have HS := Aside0.mk hS
  have HB0 := Aside0.mk hB0
  have cx := bx.cell
  have ci2 := i2
  rw [hW0] at cx ci2
  clear hS hB0 i1 i2 i5 bx ba hI hm eg
  go_enter Tryd.func16, Tryd.ntmps16
  go_wp2_with (go_at_call 22; rw [← hW0]; refine HS.out.mono ?_; rintro e w' ⟨k, rfl, hk1, hk2, hk3, q, rfl⟩; have K2 := Aside0.mk hk2; have K3 := Aside0.mk hk3; clear hk2 hk3)
  go_ret
  refine ⟨k, rfl, hk1, fun t ht => ?_, fun t h1 h2 => of_decide_eq_true (K3.out t h1 h2), by rw [← hW0]; exact pw_below_drewN HB0.out q⟩
  have := of_decide_eq_false (K2.out t ht)
  omega
set_option maxHeartbeats 1000000 in
set_option maxRecDepth 100000 in
theorem Count (g : Nat) (s : ByteArray) (z : List Int) (w : World) (hI : Ix w g s z) :
    Calls Tryd.prog 12 #[.pointer (some ⟨g, 0, none⟩)] w fun e w' => e = .returned (.int .i64 z.length) ∧ Below w.heap.size w w' := by
  obtain ⟨r, c, i1, i2, i3, i4, i5⟩ := hI
  clear i5
  go_enter Tryd.func12, Tryd.ntmps12
  go_wp2
  go_ret
  exact ⟨rfl, Below.refl _ _⟩
set_option maxHeartbeats 1000000 in
set_option maxRecDepth 100000 in
theorem Count_none (w : World) :
    Calls Tryd.prog 12 #[.pointer none] w fun e w' => e = .returned (.int .i64 0) ∧ Below w.heap.size w w' := by
  go_enter Tryd.func12, Tryd.ntmps12
  go_wp2
  go_ret
  exact ⟨rfl, Below.refl _ _⟩
set_option maxHeartbeats 1000000 in
set_option maxRecDepth 100000 in
theorem Text (g : Nat) (s : ByteArray) (z : List Int) (w : World) (hI : Ix w g s z) :
    Calls Tryd.prog 13 #[.pointer (some ⟨g, 0, none⟩)] w fun e w' => e = .returned (.string s) ∧ Below w.heap.size w w' := by
  obtain ⟨r, c, i1, i2, i3, i4, i5⟩ := hI
  clear i5
  go_enter Tryd.func13, Tryd.ntmps13
  go_wp2
  go_ret
  exact ⟨rfl, Below.refl _ _⟩
set_option maxHeartbeats 1000000 in
set_option maxRecDepth 100000 in
theorem Text_none (w : World) :
    Calls Tryd.prog 13 #[.pointer none] w fun e w' => e = .returned (.string ⟨#[]⟩) ∧ Below w.heap.size w w' := by
  go_enter Tryd.func13, Tryd.ntmps13
  go_wp2
  go_ret
  exact ⟨rfl, Below.refl _ _⟩
end Go.Proofs.YtgejmmkfaliinaaDoor.Lines
