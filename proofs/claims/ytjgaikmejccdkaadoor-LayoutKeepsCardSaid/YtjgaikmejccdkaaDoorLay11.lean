/- Layer 25: a text without blanks and new lines, walked. -/
import Derived.Test.YtjgaikmejccdkaaDoorLayQ
import Derived.Lib.JoinLaws
namespace Go.Proofs.YtjgaikmejccdkaaDoor.PDoc
open Go.RowKit Go.Proofs.YtjgaikmejccdkaaDoorW.PrintWords Go.Proofs.YtjgaikmejccdkaaDoorW.PrintLast Go.Proofs.YtjgaikmejccdkaaDoorW.PrintMore
set_option linter.unusedVariables false
set_option linter.unusedSimpArgs false
def ints (x : List UInt8) : List Int := x.map fun b => (b.toNat : Int)
theorem ints_str (x : List UInt8) : strOfNums (ints x) = ⟨x.toArray⟩ := by
  unfold strOfNums ints
  rw [List.map_map]
  congr 2
  conv => rhs; rw [← List.map_id x]
  apply List.map_congr_left
  intro b _
  simp
/-- The text without blanks and new lines. -/
def baT (s : ByteArray) : ByteArray := ⟨(bareL s.data.toList).toArray⟩
theorem bare_step (s : List UInt8) (i : Nat) (hi : i < s.length) : bareL (s.take (i + 1)) = bareL (s.take i) ++ (if s[i] ≠ 32 ∧ s[i] ≠ 10 then [s[i]] else []) := by
  rw [List.take_succ_eq_append_getElem hi, bareL_app]
  congr 1
  unfold bareL
  by_cases h1 : s[i] = 32
  · simp [h1]
  · by_cases h2 : s[i] = 10
    · simp [h2]
    · simp [h1, h2]
theorem byte_ne {b : UInt8} {n : Nat} (hn : n < 256) (h : b ≠ UInt8.ofNat n) : ((b.toNat : Int) != (n : Int)) = true := bne_iff_ne.2 (fun e => h (by
  have : b.toNat = n := by omega
  rw [← this]
  simp))
set_option maxHeartbeats 4000000 in
set_option maxRecDepth 100000 in
theorem bare_ (s : ByteArray) (w : World) (hs : s.size ≤ 100000000000) : Calls Tryd.prog 29 #[.string s] w fun e w' => e = .returned (.string (baT s)) ∧ Below w.heap.size w w' := by
  have HS := Aside0.mk hs
  have hmk : ∀ W : World, (Instr.makeSlice 67 (.int .i64 0) (.int .i64 (s.size : Int))).run Tryd.prog W = .ok (.slice (some ⟨W.heap.size, 0, none⟩) 0 s.size) (W.alloc (.cells (madeCells #[.int .u8 0] s.size) 5)) := fun W => run_make_room 67 5 (.int .u8 0) 1 Tryd.underlying67 info5 rfl .i64 .i64 s.size (by omega) (by omega) W
  obtain ⟨wb, hwb⟩ : ∃ wb, w.alloc (.cells (madeCells #[.int .u8 0] s.size) 5) = wb := ⟨_, rfl⟩
  have HB := Aside0.mk (show Below w.heap.size w wb from hwb ▸ below_alloc (Below.refl _ _) _)
  have HR := Aside0.mk (show (Kd.int .u8).R 5 wb w.heap.size (fun _ => True) (.slice (some ⟨w.heap.size, 0, none⟩) 0 s.size) (ints []) from by
    refine ⟨fun _ _ => trivial, [], ?_, Reps.none _ _⟩
    rw [← hwb]
    exact World.ownsRow_made w _ s.size (Nat.le_refl _) (by unfold maxLen; omega) (by rw [size_madeCells]; exact (Nat.mul_one _).symm))
  clear hs
  go_enter Tryd.func29, Tryd.ntmps29
  go_wp2
  clear hmk hwb
  go_loopg [3, 4] (s.size + 1) (fun kq v3 v4 w' => ∃ (i : Nat), v4 = .int .i64 (i : Int) ∧ Aside0 (i ≤ s.size ∧ kq + i = s.size + 1) ∧ Aside0 ((Kd.int .u8).R 5 w' w.heap.size (fun _ => True) v3 (ints (bareL (s.data.toList.take i)))) ∧ Aside0 (Below w.heap.size w w'))
  case atStart => exact ⟨0, rfl, ⟨by omega, rfl⟩, HR, HB⟩
  case round =>
    clear HB HR
    obtain ⟨i, rfl, HI, HR, HB⟩ := hrel
    by_cases c9 : i < s.size
    · have d9 : decide ((i : Int) < (s.size : Int)) = true := decide_eq_true (by omega)
      have HC := Aside0.mk c9
      have hw : wrap64 ((i : Int) + 1) = (i : Int) + 1 := w64 _ (by omega) (by have := HS.out; omega)
      have hsd : s.data.toList[i]'(by simpa using c9) = s[i] := by simp [ByteArray.getElem_eq_getElem_data]
      have hst := bare_step s.data.toList i (by simpa using c9)
      rw [hsd] at hst
      clear hsd
      by_cases b1 : s[i] = 32
      · have f1 : ((s[i].toNat : Int) != 32) = false := by rw [b1]; rfl
        rw [if_neg (by simp [b1]), List.append_nil] at hst
        have HST := Aside0.mk hst
        clear hst b1
        go_wp2
        go_roundg (gk - 1)
        case measure => have := HI.out; omega
        case rel => exact ⟨i + 1, by go_num, ⟨by have := HC.out; omega, by have := HI.out; omega⟩, ⟨by rw [HST.out]; exact HR.out⟩, HB⟩
      by_cases b2 : s[i] = 10
      · have f1 : ((s[i].toNat : Int) != 32) = true := by rw [b2]; rfl
        have f2 : ((s[i].toNat : Int) != 10) = false := by rw [b2]; rfl
        rw [if_neg (by simp [b2]), List.append_nil] at hst
        have HST := Aside0.mk hst
        clear hst b1 b2
        go_wp2
        go_roundg (gk - 1)
        case measure => have := HI.out; omega
        case rel => exact ⟨i + 1, by go_num, ⟨by have := HC.out; omega, by have := HI.out; omega⟩, ⟨by rw [HST.out]; exact HR.out⟩, HB⟩
      · have f1 : ((s[i].toNat : Int) != 32) = true := byte_ne (n := 32) (by omega) b1
        have f2 : ((s[i].toNat : Int) != 10) = true := byte_ne (n := 10) (by omega) b2
        rw [if_pos ⟨b1, b2⟩] at hst
        have HST := Aside0.mk hst
        have HLE := Aside0.mk (show (ints (bareL (s.data.toList.take i))).length ≤ i from by
          unfold ints bareL
          rw [List.length_map]
          exact Nat.le_trans (List.length_filter_le _ _) (by simp; omega))
        clear hst b1 b2
        go_wp2_with (at_builtin; refine Kd.R_append (Kd.int .u8) (w0 := w) w.heap.size rfl _ _ 67 5 (.int .u8 0) 1 rfl Tryd.underlying67 info5 rfl (Nat.lt_succ_self 0) (by omega) u3 (ints (bareL (s.data.toList.take i))) (s[i].toNat : Int) [.int .u8 (s[i].toNat : Int)] (fun _ => True) (fun _ => False) rfl rfl rfl (fun _ h => h.elim) (fun _ _ => trivial) HR.out HB.out HB.out.size (by have h1 := HLE.out; have h2 := HC.out; have h3 := HS.out; omega) ?_; intro v1 w2 hR hB _ _; have n0_ := Aside0.mk hR; have n1_ := Aside0.mk hB; clear hR hB HR HB; have HR := n0_; have HB := n1_; clear n0_ n1_)
        go_roundg (gk - 1)
        case measure => have := HI.out; omega
        case rel => exact ⟨i + 1, by go_num, ⟨by have := HC.out; omega, by have := HI.out; omega⟩, ⟨by rw [HST.out]; unfold ints; rw [List.map_append]; exact HR.out⟩, HB⟩
    · have d9 : decide ((i : Int) < (s.size : Int)) = false := decide_eq_false (by omega)
      have hi : i = s.size := by have := HI.out; omega
      rw [hi, List.take_of_length_le (by simp)] at HR
      obtain ⟨A, c, hv, hcl, hC⟩ := Kd.R_reads HR.out
      subst hv
      have hcv := Kd.C_string (P := Tryd.prog) (src := 67) (dst := 9) (c := c) Tryd.underlying67 Tryd.underlying5 Tryd.underlying9 hC
      rw [ints_str] at hcv
      clear hi
      go_wp2
      go_ret
      exact ⟨rfl, HB.out⟩
end Go.Proofs.YtjgaikmejccdkaaDoor.PDoc
