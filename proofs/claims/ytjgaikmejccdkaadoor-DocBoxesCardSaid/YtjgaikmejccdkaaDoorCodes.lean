/- Layer 4's inner functions, walked: a code point's bytes, and the code point of a form. -/
import Derived.Test.YtjgaikmejccdkaaDoorBuilder
import Derived.Test.YtjgaikmejccdkaaDoorWMore
import Derived.Below
import Derived.OwnWalk
import Derived.Laws.MakeOwn
import Derived.Tactics
import Derived.WalkKit
import Derived.KernelRfl
import Derived.RowKit3
import Derived.Deep.LoopGhost
import Derived.Deep.QuietTactic
import Derived.BigQuiet
import Derived.Laws.Rows
import Derived.Laws.BitsLemmas
import Derived.Laws.BitsAllLaws
import Derived.RowKit
import Derived.Outline
import Derived.LoopN
namespace Go.Proofs.YtjgaikmejccdkaaDoor.Codes
open Go.RowKit Go.Proofs.YtjgaikmejccdkaaDoorW.PrintWords Go.Proofs.YtjgaikmejccdkaaDoorW.PrintLast Go.Proofs.YtjgaikmejccdkaaDoorW.PrintMore
set_option linter.unusedVariables false
set_option linter.unusedSimpArgs false
set_option maxHeartbeats 1000000 in
set_option maxRecDepth 100000 in
theorem forms (w : World) : Calls Tryd.prog 63 #[] w fun e w' => e = .returned (.agg #[.int .i64 127, .int .i64 1, .int .u8 0, .int .i64 2047, .int .i64 2, .int .u8 192, .int .i64 65535, .int .i64 3, .int .u8 224, .int .i64 1114111, .int .i64 4, .int .u8 240]) ∧ w.alloc (.cells #[.int .i64 127, .int .i64 1, .int .u8 0, .int .i64 2047, .int .i64 2, .int .u8 192, .int .i64 65535, .int .i64 3, .int .u8 224, .int .i64 1114111, .int .i64 4, .int .u8 240] 105) = w' := by
  go_enter Tryd.func63, Tryd.ntmps63
  go_wp2
  exact bodyPost_ret (v := .agg #[.int .i64 127, .int .i64 1, .int .u8 0, .int .i64 2047, .int .i64 2, .int .u8 192, .int .i64 65535, .int .i64 3, .int .u8 224, .int .i64 1114111, .int .i64 4, .int .u8 240]) (by simp [results, Tryd.results63, go_sem]) rfl ⟨rfl, rfl⟩
def U (x : Int) : UInt8 := UInt8.ofNat x.toNat
theorem U_val (x : Int) (h0 : 0 ≤ x) (h1 : x < 256) : ((U x).toNat : Int) = x := by
  unfold U
  rw [UInt8.toNat_ofNat_of_lt' (by show x.toNat < 256; omega)]
  omega
/-- A code point's bytes. -/
def cb (n : Int) : List UInt8 :=
  if n < 128 then [U n] else if n < 2048 then [U (192 + n / 64), U (128 + n % 64)] else if n < 65536 then [U (224 + n / 4096), U (128 + n / 64 % 64), U (128 + n % 64)] else [U (240 + n / 262144), U (128 + n / 4096 % 64), U (128 + n / 64 % 64), U (128 + n % 64)]
theorem and63 (x : Int) (h0 : 0 ≤ x) (h1 : x ≤ 1114111) : bits .and .i64 x 63 = x % 64 :=
  bits_mask .i64 21 (by decide) (fun n a b => by rw [IntKind.wrap_i64]; omega) 6 (by decide) x h0 (by omega)
theorem or128 (x : Int) (h0 : 0 ≤ x) (h1 : x ≤ 1114111) : bits .or .u8 128 (bits .and .i64 x 63 % 256) = 128 + x % 64 := by
  rw [and63 x h0 h1, show x % 64 % 256 = x % 64 from by omega]
  exact u8_or128 (x % 64) (by omega) (by omega)
/-- What 'bytes' leaves: a new row that holds them. -/
def Made (n : Int) (w : World) (e : Ending) (w' : World) : Prop :=
  ∃ g, e = .returned (.slice (some ⟨g, 0, none⟩) (cb n).length (cb n).length) ∧ w.heap.size ≤ g ∧ w'.heap[g]? = some (.cells (Lib.byteCells (cb n)).toArray 5 (0, 0)) ∧ Below w.heap.size w w'
set_option maxHeartbeats 1000000 in
set_option maxRecDepth 100000 in
theorem bytes_one (n : Int) (w : World) (h0 : 0 ≤ n) (h1 : n ≤ 127) :
    Calls Tryd.prog 73 #[.int .i64 n] w (Made n w) := by
  have i0 : ∀ w, (Instr.index 105 (.agg #[.int .i64 127, .int .i64 1, .int .u8 0, .int .i64 2047, .int .i64 2, .int .u8 192, .int .i64 65535, .int .i64 3, .int .u8 224, .int .i64 1114111, .int .i64 4, .int .u8 240]) (.int .i64 0)).run Tryd.prog w = .ok (.agg #[.int .i64 127, .int .i64 1, .int .u8 0]) w := fun _ => by kernel_rfl
  have hmk : ∀ w, (Instr.makeSlice 67 (.int .i64 1) (.int .i64 1)).run Tryd.prog w = .ok (.slice (some ⟨w.heap.size, 0, none⟩) 1 1) (w.alloc (.cells #[.int .u8 0] 5)) := fun _ => by kernel_rfl
  go_enter Tryd.func73, Tryd.ntmps73
  go_wp2_with (go_at_call 63; refine (forms _).mono ?_; rintro e w1 ⟨rfl, rfl⟩)
  refine wp_loop_rounds 1 ?_
  rw [rounds_succ]
  go_wp2
  refine wp_loop_rounds 1 ?_
  rw [rounds_succ]
  go_wp2
  go_ret
  have hcb : cb n = [U n] := by unfold cb; rw [if_pos (by omega)]
  refine ⟨w.heap.size + 1 + 1, by rw [hcb]; rfl, by omega, ?_, by repeat (first | exact Below.refl _ _ | (refine below_alloc ?_ _) | apply pw_below_drewN)⟩
  rw [hcb]
  simp only [Lib.byteCells, List.map_cons, List.map_nil]
  rw [U_val (n) (by omega) (by omega)]
  have d0 : bits BinOp.or IntKind.u8 0 n = n := by rw [u8_or 0 n (by omega) (by omega) (by omega) (by omega), Int.toNat_zero, Nat.zero_or]; omega
  rw [d0]
  show (((w.heap.push _).push _).push _)[w.heap.size + 1 + 1]? = _
  simp only [Array.getElem?_push, Array.size_push]
  rw [if_pos trivial]
set_option maxHeartbeats 1000000 in
set_option maxRecDepth 100000 in
theorem bytes_two (n : Int) (w : World) (h0 : 128 ≤ n) (h1 : n ≤ 2047) :
    Calls Tryd.prog 73 #[.int .i64 n] w (Made n w) := by
  have i0 : ∀ w, (Instr.index 105 (.agg #[.int .i64 127, .int .i64 1, .int .u8 0, .int .i64 2047, .int .i64 2, .int .u8 192, .int .i64 65535, .int .i64 3, .int .u8 224, .int .i64 1114111, .int .i64 4, .int .u8 240]) (.int .i64 0)).run Tryd.prog w = .ok (.agg #[.int .i64 127, .int .i64 1, .int .u8 0]) w := fun _ => by kernel_rfl
  have i1 : ∀ w, (Instr.index 105 (.agg #[.int .i64 127, .int .i64 1, .int .u8 0, .int .i64 2047, .int .i64 2, .int .u8 192, .int .i64 65535, .int .i64 3, .int .u8 224, .int .i64 1114111, .int .i64 4, .int .u8 240]) (.int .i64 1)).run Tryd.prog w = .ok (.agg #[.int .i64 2047, .int .i64 2, .int .u8 192]) w := fun _ => by kernel_rfl
  have hmk : ∀ w, (Instr.makeSlice 67 (.int .i64 2) (.int .i64 2)).run Tryd.prog w = .ok (.slice (some ⟨w.heap.size, 0, none⟩) 2 2) (w.alloc (.cells #[.int .u8 0, .int .u8 0] 5)) := fun _ => by kernel_rfl
  go_enter Tryd.func73, Tryd.ntmps73
  go_wp2_with (go_at_call 63; refine (forms _).mono ?_; rintro e w1 ⟨rfl, rfl⟩)
  refine wp_loop_rounds 2 ?_
  rw [rounds_succ]
  go_wp2
  rw [rounds_succ]
  go_wp2
  refine wp_loop_rounds 2 ?_
  rw [rounds_succ]
  go_wp2
  rw [rounds_succ]
  go_wp2
  go_ret
  have hcb : cb n = [U (192 + n / 64), U (128 + n % 64)] := by unfold cb; rw [if_neg (by omega), if_pos (by omega)]
  refine ⟨w.heap.size + 1 + 1, by rw [hcb]; rfl, by omega, ?_, by repeat (first | exact Below.refl _ _ | (refine below_alloc ?_ _) | apply pw_below_drewN)⟩
  rw [hcb]
  simp only [Lib.byteCells, List.map_cons, List.map_nil]
  rw [U_val (192 + n / 64) (by omega) (by omega)]
  rw [U_val (128 + n % 64) (by omega) (by omega)]
  rw [or128 n (by omega) (by omega)]
  show (((w.heap.push _).push _).push _)[w.heap.size + 1 + 1]? = _
  simp only [Array.getElem?_push, Array.size_push]
  rw [if_pos trivial]
set_option maxHeartbeats 1000000 in
set_option maxRecDepth 100000 in
theorem bytes_three (n : Int) (w : World) (h0 : 2048 ≤ n) (h1 : n ≤ 65535) :
    Calls Tryd.prog 73 #[.int .i64 n] w (Made n w) := by
  have i0 : ∀ w, (Instr.index 105 (.agg #[.int .i64 127, .int .i64 1, .int .u8 0, .int .i64 2047, .int .i64 2, .int .u8 192, .int .i64 65535, .int .i64 3, .int .u8 224, .int .i64 1114111, .int .i64 4, .int .u8 240]) (.int .i64 0)).run Tryd.prog w = .ok (.agg #[.int .i64 127, .int .i64 1, .int .u8 0]) w := fun _ => by kernel_rfl
  have i1 : ∀ w, (Instr.index 105 (.agg #[.int .i64 127, .int .i64 1, .int .u8 0, .int .i64 2047, .int .i64 2, .int .u8 192, .int .i64 65535, .int .i64 3, .int .u8 224, .int .i64 1114111, .int .i64 4, .int .u8 240]) (.int .i64 1)).run Tryd.prog w = .ok (.agg #[.int .i64 2047, .int .i64 2, .int .u8 192]) w := fun _ => by kernel_rfl
  have i2 : ∀ w, (Instr.index 105 (.agg #[.int .i64 127, .int .i64 1, .int .u8 0, .int .i64 2047, .int .i64 2, .int .u8 192, .int .i64 65535, .int .i64 3, .int .u8 224, .int .i64 1114111, .int .i64 4, .int .u8 240]) (.int .i64 2)).run Tryd.prog w = .ok (.agg #[.int .i64 65535, .int .i64 3, .int .u8 224]) w := fun _ => by kernel_rfl
  have hmk : ∀ w, (Instr.makeSlice 67 (.int .i64 3) (.int .i64 3)).run Tryd.prog w = .ok (.slice (some ⟨w.heap.size, 0, none⟩) 3 3) (w.alloc (.cells #[.int .u8 0, .int .u8 0, .int .u8 0] 5)) := fun _ => by kernel_rfl
  go_enter Tryd.func73, Tryd.ntmps73
  go_wp2_with (go_at_call 63; refine (forms _).mono ?_; rintro e w1 ⟨rfl, rfl⟩)
  refine wp_loop_rounds 3 ?_
  rw [rounds_succ]
  go_wp2
  rw [rounds_succ]
  go_wp2
  rw [rounds_succ]
  go_wp2
  refine wp_loop_rounds 3 ?_
  rw [rounds_succ]
  go_wp2
  rw [rounds_succ]
  go_wp2
  rw [rounds_succ]
  go_wp2
  go_ret
  have hcb : cb n = [U (224 + n / 4096), U (128 + n / 64 % 64), U (128 + n % 64)] := by unfold cb; rw [if_neg (by omega), if_neg (by omega), if_pos (by omega)]
  refine ⟨w.heap.size + 1 + 1, by rw [hcb]; rfl, by omega, ?_, by repeat (first | exact Below.refl _ _ | (refine below_alloc ?_ _) | apply pw_below_drewN)⟩
  rw [hcb]
  simp only [Lib.byteCells, List.map_cons, List.map_nil]
  rw [U_val (224 + n / 4096) (by omega) (by omega)]
  rw [U_val (128 + n / 64 % 64) (by omega) (by omega)]
  rw [U_val (128 + n % 64) (by omega) (by omega)]
  have d1 : n / 64 / 64 = n / 4096 := by omega
  rw [or128 n (by omega) (by omega)]
  rw [or128 (n / 64) (by omega) (by omega)]
  rw [d1]
  show (((w.heap.push _).push _).push _)[w.heap.size + 1 + 1]? = _
  simp only [Array.getElem?_push, Array.size_push]
  rw [if_pos trivial]
set_option maxHeartbeats 1000000 in
set_option maxRecDepth 100000 in
theorem bytes_four (n : Int) (w : World) (h0 : 65536 ≤ n) (h1 : n ≤ 1114111) :
    Calls Tryd.prog 73 #[.int .i64 n] w (Made n w) := by
  have i0 : ∀ w, (Instr.index 105 (.agg #[.int .i64 127, .int .i64 1, .int .u8 0, .int .i64 2047, .int .i64 2, .int .u8 192, .int .i64 65535, .int .i64 3, .int .u8 224, .int .i64 1114111, .int .i64 4, .int .u8 240]) (.int .i64 0)).run Tryd.prog w = .ok (.agg #[.int .i64 127, .int .i64 1, .int .u8 0]) w := fun _ => by kernel_rfl
  have i1 : ∀ w, (Instr.index 105 (.agg #[.int .i64 127, .int .i64 1, .int .u8 0, .int .i64 2047, .int .i64 2, .int .u8 192, .int .i64 65535, .int .i64 3, .int .u8 224, .int .i64 1114111, .int .i64 4, .int .u8 240]) (.int .i64 1)).run Tryd.prog w = .ok (.agg #[.int .i64 2047, .int .i64 2, .int .u8 192]) w := fun _ => by kernel_rfl
  have i2 : ∀ w, (Instr.index 105 (.agg #[.int .i64 127, .int .i64 1, .int .u8 0, .int .i64 2047, .int .i64 2, .int .u8 192, .int .i64 65535, .int .i64 3, .int .u8 224, .int .i64 1114111, .int .i64 4, .int .u8 240]) (.int .i64 2)).run Tryd.prog w = .ok (.agg #[.int .i64 65535, .int .i64 3, .int .u8 224]) w := fun _ => by kernel_rfl
  have i3 : ∀ w, (Instr.index 105 (.agg #[.int .i64 127, .int .i64 1, .int .u8 0, .int .i64 2047, .int .i64 2, .int .u8 192, .int .i64 65535, .int .i64 3, .int .u8 224, .int .i64 1114111, .int .i64 4, .int .u8 240]) (.int .i64 3)).run Tryd.prog w = .ok (.agg #[.int .i64 1114111, .int .i64 4, .int .u8 240]) w := fun _ => by kernel_rfl
  have hmk : ∀ w, (Instr.makeSlice 67 (.int .i64 4) (.int .i64 4)).run Tryd.prog w = .ok (.slice (some ⟨w.heap.size, 0, none⟩) 4 4) (w.alloc (.cells #[.int .u8 0, .int .u8 0, .int .u8 0, .int .u8 0] 5)) := fun _ => by kernel_rfl
  go_enter Tryd.func73, Tryd.ntmps73
  go_wp2_with (go_at_call 63; refine (forms _).mono ?_; rintro e w1 ⟨rfl, rfl⟩)
  refine wp_loop_rounds 4 ?_
  rw [rounds_succ]
  go_wp2
  rw [rounds_succ]
  go_wp2
  rw [rounds_succ]
  go_wp2
  rw [rounds_succ]
  go_wp2
  refine wp_loop_rounds 4 ?_
  rw [rounds_succ]
  go_wp2
  rw [rounds_succ]
  go_wp2
  rw [rounds_succ]
  go_wp2
  rw [rounds_succ]
  go_wp2
  go_ret
  have hcb : cb n = [U (240 + n / 262144), U (128 + n / 4096 % 64), U (128 + n / 64 % 64), U (128 + n % 64)] := by unfold cb; rw [if_neg (by omega), if_neg (by omega), if_neg (by omega)]
  refine ⟨w.heap.size + 1 + 1, by rw [hcb]; rfl, by omega, ?_, by repeat (first | exact Below.refl _ _ | (refine below_alloc ?_ _) | apply pw_below_drewN)⟩
  rw [hcb]
  simp only [Lib.byteCells, List.map_cons, List.map_nil]
  rw [U_val (240 + n / 262144) (by omega) (by omega)]
  rw [U_val (128 + n / 4096 % 64) (by omega) (by omega)]
  rw [U_val (128 + n / 64 % 64) (by omega) (by omega)]
  rw [U_val (128 + n % 64) (by omega) (by omega)]
  have d1 : n / 64 / 64 = n / 4096 := by omega
  have d2 : n / 4096 / 64 = n / 262144 := by omega
  rw [or128 n (by omega) (by omega)]
  rw [or128 (n / 64) (by omega) (by omega)]
  rw [or128 (n / 64 / 64) (by omega) (by omega)]
  rw [d1]
  rw [d2]
  show (((w.heap.push _).push _).push _)[w.heap.size + 1 + 1]? = _
  simp only [Array.getElem?_push, Array.size_push]
  rw [if_pos trivial]
theorem cb_le (n : Int) : (cb n).length ≤ 4 ∧ 1 ≤ (cb n).length := by
  unfold cb
  split
  · simp
  · split
    · simp
    · split <;> simp
theorem bytes (n : Int) (w : World) (h0 : 0 ≤ n) (h1 : n ≤ 1114111) : Calls Tryd.prog 73 #[.int .i64 n] w (Made n w) := by
  by_cases c1 : n ≤ 127
  · exact bytes_one n w h0 c1
  by_cases c2 : n ≤ 2047
  · exact bytes_two n w (by omega) c2
  by_cases c3 : n ≤ 65535
  · exact bytes_three n w (by omega) c3
  · exact bytes_four n w (by omega) h1
end Go.Proofs.YtjgaikmejccdkaaDoor.Codes
