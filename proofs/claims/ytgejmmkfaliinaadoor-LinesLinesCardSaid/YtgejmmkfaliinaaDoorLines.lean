/- Layer 3, where a text has new lines: the iterator, and the loop over it. -/
import Derived.RangeFuncBox
import Derived.RangeFuncLeaves
import Derived.RangeFuncNested
import Derived.Deep.Onto
import Derived.Shelf.Abstract
import Derived.WalkKit
import Derived.OwnWalkIn
import Derived.TacticsInMore
import Derived.LoopNIn
import Derived.LoopIn
import Derived.Maps.AppendAt
import Derived.Test.YtgejmmkfaliinaaDoorProg
import Derived.Test.YtgejmmkfaliinaaDoorWLast
import Derived.Test.YtgejmmkfaliinaaDoorWWords
namespace Go.Proofs.YtgejmmkfaliinaaDoor.Lines
open Go.RowKit Go.Shelf Go.Proofs.YtgejmmkfaliinaaDoorW.PrintWords Go.Proofs.YtgejmmkfaliinaaDoorW.PrintLast
set_option linter.unusedVariables false
set_option linter.unusedSimpArgs false
attribute [local go_sem] Oper.semAt_some
/-- The new lines among the first k bytes. -/
def brk (s : ByteArray) (k : Nat) : List Int := ((List.range k).filter fun i : Nat => decide (bt s (i : Int) = 10)).map fun i : Nat => (i : Int)
theorem brk_zero (s : ByteArray) : brk s 0 = [] := rfl
theorem brk_hit (s : ByteArray) (k : Nat) (h : bt s (k : Int) = 10) : brk s (k + 1) = brk s k ++ [(k : Int)] := by simp [brk, List.range_succ, h]
theorem brk_miss (s : ByteArray) (k : Nat) (h : ¬ bt s (k : Int) = 10) : brk s (k + 1) = brk s k := by simp [brk, List.range_succ, h]
theorem brk_len (s : ByteArray) (k : Nat) : (brk s k).length ≤ k := by
  unfold brk
  rw [List.length_map]
  exact Nat.le_trans (List.length_filter_le _ _) (by simp)
/-- What a round keeps: the box of the text. -/
def Kp (Bs : Nat) (s : ByteArray) (W W' : World) : Prop := Boxed W Bs 9 (.string s) → Boxed W' Bs 9 (.string s)
set_option maxRecDepth 100000 in
set_option maxHeartbeats 2000000 in
theorem breaks1_in (F : Fence) (n : Nat) (h41 : F.fn 24) (hro : F.round = none) (hn : 1 ≤ n) (l Bs : Nat) (s : ByteArray) (hs : s.size ≤ 1000000) (J Jx : List Int → World → Prop)
    (hY : ∀ pre x W, J pre W → pre.length < s.size → YieldAt F (n - 1) Tryd.prog l #[.int .i64 x] W fun e W' =>
      (e = .returned (.bool true) ∧ J (pre ++ [x]) W' ∧ Kp Bs s W W') ∨ (e = .returned (.bool false) ∧ Jx (pre ++ [x]) W'))
    (W : World) (hBs : Boxed W Bs 9 (.string s)) (h0 : J [] W) :
    CallsIn F n Tryd.prog 24 #[.func (.yield l) #[] #[], .pointer (some ⟨Bs, 0, none⟩)] W fun e W' => (∃ v, e = .returned v) ∧
      ((∃ ys, ys = brk s s.size ∧ J ys W') ∨ (∃ pre, (∃ k, k ≤ s.size ∧ pre = brk s k) ∧ Jx pre W')) := by
  refine callsIn_of_wp Tryd.func24 rfl h41 ?_ hro
  simp only [Tryd.ntmps24, List.size_toArray, List.length_cons, List.length_nil, Nat.reduceAdd, Nat.reduceSub, Array.replicate_succ, Array.replicate_zero, List.push_toArray, List.append_toArray, List.nil_append, List.cons_append]
  have hc0 := hBs.cell
  gi_wp2
  gi_loopw [6] (fun i wr => ∃ k : Nat, k ≤ s.size ∧ i = .int .i64 k ∧ J (brk s k) wr ∧ Boxed wr Bs 9 (.string s))
    (fun i _ => s.size - (intOf i).toNat)
  case atStart => exact ⟨0, Nat.zero_le _, rfl, h0, hBs⟩
  case round =>
    obtain ⟨k, hk, rfl, hJs, hnx⟩ := hrel
    have hc := hnx.cell
    obtain ⟨x, hx⟩ : ∃ x : Int, (k : Int) = x := ⟨_, rfl⟩
    have hx0 := bt_at s x
    have hkx : k = x.toNat := by omega
    have h00 : 0 ≤ x := by omega
    rw [hx]
    by_cases hlt : x < (s.size : Int)
    · by_cases hnl : bt s x = 10
      · obtain ⟨fn, tmps, assign, body, hy, hR⟩ := hY _ x wr hJs (by have := brk_len s k; omega)
        gi_wp2
        refine hR.mono ?_
        rintro e W3 (⟨rfl, hJ3, hk3⟩ | ⟨rfl, hJx3⟩)
        · gi_wp2
          go_roundw
          case rel => exact ⟨k + 1, by omega, by simp; omega, by rw [brk_hit s k (by rw [hx]; exact hnl), hx]; exact hJ3, hk3 hnx⟩
          case measure => simp [intOf]; omega
        · gi_wp2
          refine bodyPost_ret (results_none rfl _ _ _) rfl ?_
          exact ⟨⟨_, rfl⟩, .inr ⟨_, ⟨k + 1, by omega, by rw [brk_hit s k (by rw [hx]; exact hnl), hx]⟩, hJx3⟩⟩
      · gi_wp2
        refine ⟨fun _ h => (by cases h), ?_⟩
        gi_wp2
        go_roundw
        case rel => exact ⟨k + 1, by omega, by simp; omega, by rw [brk_miss s k (by rw [hx]; exact hnl)]; exact hJs, hnx⟩
        case measure => simp [intOf]; omega
    · obtain rfl : k = s.size := by omega
      clear hkx
      gi_wp2
      go_end0
      exact ⟨⟨_, rfl⟩, .inl (by first | exact ⟨_, rfl, hJs⟩ | exact hJs)⟩
set_option maxHeartbeats 1000000 in
theorem breaks_in (F : Fence) (n : Nat) (h37 : F.fn 17) (hro : F.round = none) (s : ByteArray) (w : World) :
    CallsIn F n Tryd.prog 17 #[.string s] w fun e w' => e = .returned (.func (.func 24) #[] #[.pointer (some ⟨w.heap.size, 0, none⟩)]) ∧ w' = w.alloc (.cells #[.string s] 9) := by
  refine callsIn_of_wp Tryd.func17 rfl h37 ?_ hro
  simp only [Tryd.ntmps17, List.size_toArray, List.length_cons, List.length_nil, Nat.reduceAdd, Nat.reduceSub, Array.replicate_succ, Array.replicate_zero, List.push_toArray, List.append_toArray, List.nil_append, List.cons_append]
  gi_wp2
  go_ret
  exact ⟨rfl, rfl⟩
theorem breaks_stops (F : Fence) (n : Nat) (h41 : F.fn 24) (hro : F.round = none) (hn : 1 ≤ n) (Bs : Nat) (s : ByteArray) (hs : s.size ≤ 1000000) (w : World) (hc : Boxed w Bs 9 (.string s)) :
    SeqStopsK F n Tryd.prog 24 #[.pointer (some ⟨Bs, 0, none⟩)] (fun x : Int => #[Value.int .i64 x]) (Kp Bs s) (fun ys => ys = brk s s.size) (fun pre => ∃ k, k ≤ s.size ∧ pre = brk s k) s.size w := fun l J Jx W hW _ _ hY h0 =>
  breaks1_in F n h41 hro hn l Bs s hs J Jx hY W ((hW.block Bs hc.lt).trans hc) h0
theorem info3 : (Tryd.prog.info? 3).map (fun i => (i.zero, i.size, i.bytes)) = some (some (.int .i64 0), 1, 8) := by kernel_rfl
/-- The lines' beginnings behind the new lines xs. -/
def at' (a : Int) (xs : List Int) : List Int := xs.map fun x => wrap64 (wrap64 (a + x) + 1)
theorem at_snoc (a : Int) (xs : List Int) (x : Int) : at' a (xs ++ [x]) = at' a xs ++ [wrap64 (wrap64 (a + x) + 1)] := by simp [at']
theorem at_len (a : Int) (xs : List Int) : (at' a xs).length = xs.length := by simp [at']
set_option maxRecDepth 100000 in
set_option maxHeartbeats 2000000 in
theorem starts_in (F : Fence) (n : Nat) (h29 : F.fn 14) (h37 : F.fn 17) (h41 : F.fn 24) (hro : F.round = none) (hn : 3 ≤ n) (s : ByteArray) (at0 : Int) (hs : s.size ≤ 1000000) (w : World) :
    CallsIn F n Tryd.prog 14 #[.string s, .int .i64 at0] w fun e W' => ∃ v, e = .returned v ∧ W'.ownsRow w.heap.size 3 1 v (at' at0 (brk s s.size)).length ((at' at0 (brk s s.size)).map (Value.int .i64)) ∧ Below w.heap.size w W' := by
  have h1 : 1 ≤ n := by omega
  obtain ⟨i0, hi, hz0, hz1, hz2⟩ := info_parts info3
  refine callsIn_of_wp_marks Tryd.func14 rfl h29 ?_ hro
  simp only [Tryd.ntmps14, List.size_toArray, List.length_cons, List.length_nil, Nat.reduceAdd, Nat.reduceSub, Array.replicate_succ, Array.replicate_zero, List.push_toArray, List.append_toArray, List.nil_append, List.cons_append]
  gi_wp2_with (gi_at_call 17; refine (breaks_in F (n - 1) h37 hro _ _).mono ?_; rintro e w' ⟨rfl, rfl⟩)
  obtain ⟨w1, hw1⟩ : ∃ w1, w1 = w.alloc (.cells #[.int .i64 at0] 3) := ⟨_, rfl⟩
  obtain ⟨w2, hw2⟩ : ∃ w2, w2 = w1.alloc (.cells #[.slice none 0 0] 41) := ⟨_, rfl⟩
  obtain ⟨w3, hw3⟩ : ∃ w3, w3 = w2.alloc (.cells #[.string s] 9) := ⟨_, rfl⟩
  have e1 : w1.heap.size = w.heap.size + 1 := by rw [hw1]; simp
  have e2 : w2.heap.size = w.heap.size + 2 := by rw [hw2]; simp [e1]
  have e3 : w3.heap.size = w.heap.size + 3 := by rw [hw3]; simp [e2]
  have bA : Boxed w3 w.heap.size 3 (.int .i64 at0) := by rw [hw3, hw2, hw1]; exact ((Boxed.new w 3 (.int .i64 at0)).alloc _).alloc _
  have bO : Boxed w3 (w.heap.size + 1) 41 (.slice none 0 0) := by rw [hw3, ← e1, hw2]; exact (Boxed.new w1 41 (.slice none 0 0)).alloc _
  have bN : Boxed w3 (w.heap.size + 2) 9 (.string s) := by rw [hw3, ← e2]; exact Boxed.new w2 9 (.string s)
  have hB0 : Below w.heap.size w w3 := by
    rw [hw3, hw2, hw1]
    exact (((Below.refl _ w).alloc (Nat.le_refl _) _).alloc (by simp) _).alloc (by simp; omega) _
  rw [← hw1, ← hw2, ← hw3]
  have hml : 1000000 ≤ maxLen := by decide
  refine wpIn_rangeFunc_ownG hro h1 (gf := 24) (lb := #[.pointer (some ⟨w.heap.size + 1 + 1, 0, none⟩)]) rfl h41 (enters_of Tryd.func24 (by kernel_rfl) rfl)
    (breaks_stops F (n - 1) h41 hro (by omega) (w.heap.size + 1 + 1) s hs w3 bN) (fun h k q => k (h q)) ?kb (Below.refl _ _) (fun _ => rfl)
    (fun pre W => ((∃ v, Boxed W (w.heap.size + 1) 41 v ∧ W.ownsRow (w.heap.size + 1) 3 1 v (at' at0 pre).length ((at' at0 pre).map (Value.int .i64)) ∧ True) ∧ Below w.heap.size w W) ∧ Boxed W w.heap.size 3 (.int .i64 at0))
    (fun _ _ _ => False)
    (OwnFrom.and (OwnFrom.and (Own.from (holdsRow_own (w.heap.size + 1) (w.heap.size + 1) 41 3 1 (fun pre => (at' at0 pre).length) (fun pre => (at' at0 pre).map (Value.int .i64)) (fun pre v => True)) _) (ownFrom_below (Nat.le_refl _) (by rw [e3]; omega))) (Own.from (boxed_own _ _ (fun _ => .int .i64 at0)) _))
    (fun _ _ _ _ _ hs _ _ => hs)
    ⟨⟨⟨_, bO, World.ownsRow_nil _ _ _ _, trivial⟩, hB0⟩, bA⟩
    (fun x => { tmps := #[.string s, .int .i64 at0, undef, .pointer (some ⟨w.heap.size, 0, none⟩), .slice none 0 0, .pointer (some ⟨w.heap.size + 1, 0, none⟩), .int .i64 x, .string s, .func (.func 24) #[] #[.pointer (some ⟨w.heap.size + 1 + 1, 0, none⟩)], .int .i64 x, undef, undef, undef, undef, undef, undef, undef, undef], defers := [] }) ?assign ?body ?done ?stop
  case kb =>
    intro W l o o' hl ho hc _ hb
    refine hb.kept (grownBy_putObj' W l o') (fun e => ?_)
    cases e
    have := hb.symm.trans ho
    cases this
    cases hc
  case assign =>
    intro l x W K hK
    gi_wp2
    exact hK
  case body =>
    rintro l pre x W ⟨⟨⟨v, hv, hrow, _⟩, hB⟩, hA⟩ hlt
    have hc := hv.cell
    have hca := hA.cell
    have hpl : (at' at0 pre).length < 1000000 := by rw [at_len at0 pre]; omega
    have hsz : w.heap.size + 1 ≤ W.heap.size := by have := hv.lt; omega
    gi_wp2_with (gi_at_builtin; refine wpListIn_append_own _ rfl _ _ 41 rfl (w.heap.size + 1) 3 i0 (.int .i64 0) 1 8 Tryd.underlying41 hi hz0 hz1 hz2 rfl (by decide) _ _ _ rfl (hrow.alloc _) ⟨W.heap.size, 0, none⟩ 1 1 [.int .i64 (wrap64 (wrap64 (at0 + x) + 1))] rfl rfl (cell_one_new _ _ _) (by simp [Value.oneCell']) (by omega) (by omega) (by simp; omega) ?_; intro v' w4 hown' hgrow _; obtain ⟨g', cap', rfl⟩ := ownsRow_succ hown'; obtain ⟨hv1, hv2, hr2, hk2, hb2⟩ := hv.appended (by decide) hrow hsz (Nat.le_refl _) hown' hgrow; have hc1 := hv1.cell; have hf1 := hv1.frozen)
    refine ⟨hk2.from _, fun hbs => ?_, ⟨⟨⟨_, hv2, by rw [at_snoc]; simpa using hr2, trivial⟩, hB.trans (hb2.mono (Nat.le_succ _))⟩, (hb2.block _ (Nat.lt_succ_self _)).trans hA⟩⟩
    exact ((hbs.alloc _).kept hgrow (hbs.not_row (by decide) hrow)).other (by omega) _
  case done =>
    rintro D ys W hD rfl ⟨⟨⟨v, hv, hrow, _⟩, hB⟩, hA⟩ hK
    have hc := hv.cell
    gi_wp2
    refine ⟨by simp, .inl ⟨_, _, rfl, run_takeDeferred hK, ?_⟩⟩
    exact ⟨_, results_tmp rfl _ _ _, v, rfl, ownsRow_putObj (hrow.mono (Nat.le_succ _)) _ hK rfl, hB.trans (belowK_b (w := w) (Nat.le_refl _) W D _ _ (by omega) hK rfl rfl)⟩
  case stop =>
    rintro D c pre W _ _ h _
    exact h.elim
end Go.Proofs.YtgejmmkfaliinaaDoor.Lines
