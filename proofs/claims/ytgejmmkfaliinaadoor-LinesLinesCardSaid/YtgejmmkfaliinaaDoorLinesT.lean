/- A line's indent, walked. -/
import Derived.Test.YtgejmmkfaliinaaDoorLinesN
import Derived.Test.YtgejmmkfaliinaaDoorShelf
import Derived.Shelf.Strings.SlTrimAscii
namespace Go.Proofs.YtgejmmkfaliinaaDoor.Lines
open Go.RowKit Go.Proofs.YtgejmmkfaliinaaDoorW.PrintWords Go.Proofs.YtgejmmkfaliinaaDoorW.PrintLast Go.Proofs.YtgejmmkfaliinaaDoorW.PrintMore
set_option linter.unusedVariables false
set_option linter.unusedSimpArgs false
theorem TrimLeft (s : ByteArray) (w : World) : Calls Tryd.prog 15 #[.string s, .string ⟨#[32, 9]⟩] w fun e w' => e = .returned (.string ⟨(Go.Lib.trimLeftS s.data.toList [32, 9]).toArray⟩) ∧ Below w.heap.size w w' :=
  Any.strings_TrimLeft_laid Tryd.lays161 (by kernel_rfl) s ⟨#[32, 9]⟩ w (by decide) (ascii_of_all (by decide))
/-- How many blanks and tabs a list of bytes begins with. -/
def lead : List UInt8 → Nat
  | [] => 0
  | c :: l => if c = 32 ∨ c = 9 then lead l + 1 else 0
theorem lead_le (l : List UInt8) : lead l ≤ l.length := by
  induction l with
  | nil => exact Nat.le_refl _
  | cons c l ih => unfold lead; split <;> simp <;> omega
theorem trim_len (l : List UInt8) : (Go.Lib.trimLeftS l [32, 9]).length = l.length - lead l := by
  unfold Go.Lib.trimLeftS
  induction l with
  | nil => rfl
  | cons c l ih =>
    have hl := lead_le l
    unfold lead
    by_cases h : c = 32 ∨ c = 9
    · rw [if_pos h, List.dropWhile_cons_of_pos (by rcases h with rfl | rfl <;> decide), ih]
      simp
    · rw [if_neg h, List.dropWhile_cons_of_neg (by simpa using h)]
      simp
set_option maxHeartbeats 2000000 in
set_option maxRecDepth 100000 in
theorem Indent (g : Nat) (s : ByteArray) (z : List Int) (n a b : Int) (w : World) (hI : Ix w g s z) (hs : s.size ≤ 1000000) (h0 : 0 ≤ a) (h1 : a ≤ b) (h2 : b ≤ s.size)
    (hL : Calls Tryd.prog 7 #[.pointer (some ⟨g, 0, none⟩), .int .i64 n] w fun e' w' => e' = .returned (.tuple #[.agg #[.int .i64 a, .int .i64 b], .int .i64 0]) ∧ Below w.heap.size w w') :
    Calls Tryd.prog 9 #[.pointer (some ⟨g, 0, none⟩), .int .i64 n] w fun e' w' => e' = .returned (.int .i64 (lead (s.extract a.toNat b.toNat).data.toList)) ∧ Below w.heap.size w w' := by
  have HL := Aside0.mk hL
  have HI := Aside0.mk hI
  obtain ⟨x, hx⟩ : ∃ x, x = s.extract a.toNat b.toNat := ⟨_, rfl⟩
  have hxl : x.size ≤ 1000000 := by rw [hx, ByteArray.size_extract]; omega
  obtain ⟨y, hy⟩ : ∃ y : ByteArray, y = ⟨(Go.Lib.trimLeftS x.data.toList [32, 9]).toArray⟩ := ⟨_, rfl⟩
  have hyl : y.size = x.size - lead x.data.toList := by
    have e : y.size = (Go.Lib.trimLeftS x.data.toList [32, 9]).length := by rw [hy]; simp [ByteArray.size]
    rw [e, trim_len]
    congr 1
  have hll : lead x.data.toList ≤ x.size := by have := lead_le x.data.toList; simpa using this
  have HT := Aside0.mk (fun w => TrimLeft x w)
  rw [← hy] at HT
  have q0 := eq_true h0
  have q1 := eq_true h1
  have q2 := eq_true h2
  have q3 : (0 ≤ b) = True := eq_true (by omega)
  have q4 : (a ≤ (s.size : Int)) = True := eq_true (by omega)
  obtain ⟨k, hk⟩ : ∃ k : Nat, k = lead x.data.toList := ⟨_, rfl⟩
  rw [← hx, ← hk]
  rw [← hk] at hyl hll
  have HX := Aside0.mk hx
  have HY := Aside0.mk hyl
  have HK := Aside0.mk hll
  have HXL := Aside0.mk hxl
  clear hL hI hx hy hk hyl hll hxl
  go_enter Tryd.func9, Tryd.ntmps9
  go_wp2_with (go_at_call 7; refine HL.out.mono ?_; rintro e w4 ⟨rfl, hb⟩; have HB := Aside0.mk hb; have hsz := hb.size; obtain ⟨r, c, i1, i2, i3, i4, i5⟩ := (HI.out.below hb).below ((Below.refl _ w4).alloc (Nat.le_refl _) (.cells #[.int .i64 a, .int .i64 b] 26)); have hbk := heap_alloc_new w4 (.cells #[.int .i64 a, .int .i64 b] 26); have k0 := Go.Lib.cell_of_heap hbk 0; have k1 := Go.Lib.cell_of_heap hbk 1; clear hb i5 i2 hbk)
  go_quiet (fail)
  rw [← HX.out]
  go_wp2_with (go_at_call 15; refine (HT.out _).mono ?_; rintro e w5 ⟨rfl, hb5⟩)
  go_ret
  have h1 := HY.out
  have h2 := HK.out
  have h3 := HXL.out
  have e1 : wrap64 ((x.size : Int) - (y.size : Int)) = (k : Int) := by unfold wrap64; omega
  have e2 : (x.size : Int) - (y.size : Int) = (k : Int) := by omega
  refine ⟨by first | (rw [← e1]; rfl) | (rw [← e2]; rfl) | (simp [e1]; done) | (simp [e2]; done), ?_⟩
  exact below_step (pw_below_drewN (HB.out.alloc HB.out.size _) _) hb5
end Go.Proofs.YtgejmmkfaliinaaDoor.Lines
