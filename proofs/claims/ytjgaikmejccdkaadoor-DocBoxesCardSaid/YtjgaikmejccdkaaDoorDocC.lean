/- Layer 4's laws, plain: loops over a text of code points. -/
import Derived.Test.YtjgaikmejccdkaaDoorDocCB
import Derived.Test.YtjgaikmejccdkaaDoorPDocx3
import Derived.Lib.Replace
import Derived.Lib.IndexBytes
import Derived.Lib.CountLaws
import Derived.KernelRfl
namespace Go.Proofs.YtjgaikmejccdkaaDoor.PDoc
open Go.RowKit Go.Proofs.YtjgaikmejccdkaaDoorW.PrintWords Go.Proofs.YtjgaikmejccdkaaDoorW.PrintLast Go.Proofs.YtjgaikmejccdkaaDoorW.PrintMore
open Codes (cb U U_val cb_le)
set_option linter.unusedVariables false
set_option linter.unusedSimpArgs false
def enc (l : List Int) : List UInt8 := l.flatMap cb
theorem enc_nil : enc [] = [] := rfl
theorem enc_cons (n : Int) (l : List Int) : enc (n :: l) = cb n ++ enc l := by simp [enc]
theorem enc_app (a b : List Int) : enc (a ++ b) = enc a ++ enc b := by simp [enc]
theorem enc_le (l : List Int) : (enc l).length ≤ 4 * l.length ∧ l.length ≤ (enc l).length := by
  induction l with
  | nil => simp [enc]
  | cons n l ih => have := cb_le n; rw [enc_cons, List.length_append, List.length_cons]; omega
def AR (l : List Int) : Prop := ∀ n ∈ l, ri n
theorem ar_nil : AR [] := by intro n hn; cases hn
def NoHead (r : List UInt8) : Prop := ∀ n u, ri n → r ≠ cb n ++ u
theorem nohead_nil : NoHead [] := by
  intro n u h e
  have := cb_le n
  have := congrArg List.length e
  simp only [List.length_nil, List.length_append] at this
  omega
theorem ext_B (s : ByteArray) (a r : List UInt8) (h : B s = a ++ r) : B (s.extract a.length s.size) = r := by
  rw [B_ext, h, List.drop_left]
  have : s.size = a.length + r.length := by rw [← B_size, h, List.length_append]
  rw [List.take_of_length_le (by omega)]
theorem stepf_yes (s : ByteArray) (k : Nat) (a r : List UInt8) (n : Int) (h : B s = a ++ (cb n ++ r)) (hn : ri n) (hk : 4 ≤ k) : codes_Step.f k s (a.length : Int) = some (n, ((cb n).length : Int), true) := by
  obtain ⟨k, rfl⟩ : ∃ m, k = m + 4 := ⟨k - 4, by omega⟩
  have hs : s.size = a.length + ((cb n).length + r.length) := by rw [← B_size, h, List.length_append, List.length_append]
  have := cb_le n
  unfold codes_Step.f
  rw [if_neg (by omega), if_neg (by omega)]
  exact step_yes _ k n hn r (by rw [Int.toNat_natCast]; exact ext_B s a _ h)
theorem stepf_no (s : ByteArray) (k : Nat) (a r : List UInt8) (h : B s = a ++ r) (hn : NoHead r) (hk : 4 ≤ k) : codes_Step.f k s (a.length : Int) = some (0, 0, false) := by
  obtain ⟨k, rfl⟩ : ∃ m, k = m + 4 := ⟨k - 4, by omega⟩
  unfold codes_Step.f
  rw [if_neg (by omega)]
  split
  · rfl
  exact step_no _ k (fun n u q e => hn n u q (by rw [Int.toNat_natCast, ext_B s a _ h] at e; exact e))
theorem rstep_yes (s : ByteArray) (k : Nat) (a r : List UInt8) (n : Int) (h : B s = a ++ (cb n ++ r)) (hn : ri n) (hk : 5 ≤ k) : frisketref04_Step.f k (s.extract (a.length : Int).toNat s.size) = some (n, ((cb n).length : Int)) := by
  obtain ⟨k, rfl⟩ : ∃ m, k = m + 5 := ⟨k - 5, by omega⟩
  exact ref_yes _ k n hn r (by rw [Int.toNat_natCast]; exact ext_B s a _ h)
theorem rstep_no (s : ByteArray) (k : Nat) (a r : List UInt8) (h : B s = a ++ r) (hn : NoHead r) (hk : 5 ≤ k) : frisketref04_Step.f k (s.extract (a.length : Int).toNat s.size) = some (-1, 0) := by
  obtain ⟨k, rfl⟩ : ∃ m, k = m + 5 := ⟨k - 5, by omega⟩
  exact ref_no _ k (fun n u q e => hn n u q (by rw [Int.toNat_natCast, ext_B s a _ h] at e; exact e))
theorem head_or (r : List UInt8) : (∃ n u, ri n ∧ r = cb n ++ u) ∨ NoHead r := by
  by_cases h : ∃ n u, ri n ∧ r = cb n ++ u
  · exact Or.inl h
  · exact Or.inr (fun n u q e => h ⟨n, u, q, e⟩)
theorem mx_pos (z : Nat) (h : 1 ≤ z) : mx (z : Int) 1 = (z : Int) := by unfold mx; rw [if_neg (by omega)]
/-! ### CodesColumns -/
theorem cols (s : ByteArray) (hs : s.size ≤ 1000000) : ∀ (m : Nat) (a r : List UInt8), r.length ≤ m → B s = a ++ r → ∃ c : Nat, c ≤ r.length ∧ (∀ k (y : Int), m + 10 ≤ k → 0 ≤ y → y + (m : Int) ≤ 1000000 → codes_Columns.l0 k s y (a.length : Int) = some (y + (c : Int))) ∧
    (∀ k (y : Int), m + 10 ≤ k → 0 ≤ y → y + (m : Int) ≤ 1000000 → frisketref24_Columns.l0 k s y (a.length : Int) = some (y + (c : Int))) := by
  intro m
  induction m with
  | zero =>
    intro a r hr h
    obtain rfl : r = [] := List.eq_nil_of_length_eq_zero (by omega)
    have hz : s.size = a.length := by rw [← B_size, h]; simp
    refine ⟨0, Nat.zero_le _, ?_, ?_⟩
    · intro k y hk h0 h1
      obtain ⟨k, rfl⟩ : ∃ j, k = j + 1 := ⟨k - 1, by omega⟩
      simp only [codes_Columns.l0]
      rw [if_neg (by omega)]
      simp
    · intro k y hk h0 h1
      obtain ⟨k, rfl⟩ : ∃ j, k = j + 1 := ⟨k - 1, by omega⟩
      simp only [frisketref24_Columns.l0]
      rw [if_neg (by omega)]
      simp
  | succ m ih =>
    intro a r hr h
    have hz : s.size = a.length + r.length := by rw [← B_size, h, List.length_append]
    cases hrr : r with
    | nil =>
      subst hrr
      have hz : s.size = a.length := by rw [hz]; simp
      refine ⟨0, Nat.zero_le _, ?_, ?_⟩
      · intro k y hk h0 h1
        obtain ⟨k, rfl⟩ : ∃ j, k = j + 1 := ⟨k - 1, by omega⟩
        simp only [codes_Columns.l0]
        rw [if_neg (by omega)]
        simp
      · intro k y hk h0 h1
        obtain ⟨k, rfl⟩ : ∃ j, k = j + 1 := ⟨k - 1, by omega⟩
        simp only [frisketref24_Columns.l0]
        rw [if_neg (by omega)]
        simp
    | cons b0 r0 =>
      rw [← hrr]
      have hrl : 1 ≤ r.length := by rw [hrr]; simp
      -- one step, of e bytes
      have hstep : ∃ (d u : List UInt8), r = d ++ u ∧ 1 ≤ d.length ∧ (∀ k, 4 ≤ k → ∃ x z b, codes_Step.f k s (a.length : Int) = some (x, z, b) ∧ mx z 1 = (d.length : Int)) ∧ (∀ k, 5 ≤ k → ∃ x z, frisketref04_Step.f k (s.extract (a.length : Int).toNat s.size) = some (x, z) ∧ mx z 1 = (d.length : Int)) := by
        rcases head_or r with ⟨n, u, hn, e⟩ | hno
        · refine ⟨cb n, u, e, (cb_le n).2, fun k hk => ⟨_, _, _, stepf_yes s k a u n (by rw [h, e]) hn hk, mx_pos _ (cb_le n).2⟩, fun k hk => ⟨_, _, rstep_yes s k a u n (by rw [h, e]) hn hk, mx_pos _ (cb_le n).2⟩⟩
        · exact ⟨[b0], r0, hrr, Nat.le_refl _, fun k hk => ⟨_, _, _, stepf_no s k a r h hno hk, rfl⟩, fun k hk => ⟨_, _, rstep_no s k a r h hno hk, rfl⟩⟩
      obtain ⟨d, u, hdu, hd, st, rs⟩ := hstep
      have hrlen : r.length = d.length + u.length := by rw [hdu, List.length_append]
      obtain ⟨c, hcl, hc1, hc2⟩ := ih (a ++ d) u (by omega) (by rw [h, hdu, List.append_assoc])
      have hal : (a ++ d).length = a.length + d.length := List.length_append
      refine ⟨c + 1, by omega, ?_, ?_⟩
      · intro k y hk h0 h1
        obtain ⟨k, rfl⟩ : ∃ j, k = j + 1 := ⟨k - 1, by omega⟩
        obtain ⟨x, z, b, e, hm⟩ := st k (by omega)
        simp only [codes_Columns.l0]
        rw [if_pos (by omega), e]
        simp only [Option.bind_some]
        rw [hm, w64 _ (by omega) (by omega), w64 _ (by omega) (by omega), show (a.length : Int) + (d.length : Int) = ((a ++ d).length : Int) from by omega, hc1 k (y + 1) (by omega) (by omega) (by omega)]
        congr 1
        omega
      · intro k y hk h0 h1
        obtain ⟨k, rfl⟩ : ∃ j, k = j + 1 := ⟨k - 1, by omega⟩
        obtain ⟨x, z, e, hm⟩ := rs k (by omega)
        simp only [frisketref24_Columns.l0]
        rw [if_pos (by omega), if_pos (by omega), if_pos (by omega), e]
        simp only [Option.bind_some]
        rw [hm, w64 _ (by omega) (by omega), w64 _ (by omega) (by omega), show (a.length : Int) + (d.length : Int) = ((a ++ d).length : Int) from by omega]
        rw [hc2 k (y + 1) (by omega) (by omega) (by omega)]
        congr 1
        omega
theorem cols_ex (s : ByteArray) (hs : s.size ≤ 1000000) : ∃ c : Nat, c ≤ s.size ∧ codes_Columns.f (s.size + 20) s = some (c : Int) ∧ ∀ k, s.size + 20 ≤ k → codes_Columns.f k s = some (c : Int) ∧ frisketref24_Columns.f k s = some (c : Int) := by
  obtain ⟨c, h0, h1, h2⟩ := cols s hs s.size [] (B s) (by rw [B_size]; omega) rfl
  refine ⟨c, by rw [B_size] at h0; exact h0, ?_, fun k hk => ⟨?_, ?_⟩⟩
  · have := h1 (s.size + 20) 0 (by omega) (by omega) (by omega)
    simpa [codes_Columns.f] using this
  · have := h1 k 0 (by omega) (by omega) (by omega)
    simpa [codes_Columns.f] using this
  · have := h2 k 0 (by omega) (by omega) (by omega)
    simpa [frisketref24_Columns.f] using this
/-- How many columns a text has. -/
def col (s : ByteArray) : Nat := ((codes_Columns.f (s.size + 20) s).getD 0).toNat
theorem col_eq (s : ByteArray) (hs : s.size ≤ 1000000) : col s ≤ s.size ∧ ∀ k, s.size + 20 ≤ k → codes_Columns.f k s = some (col s : Int) ∧ frisketref24_Columns.f k s = some (col s : Int) := by
  obtain ⟨c, h0, h1, h2⟩ := cols_ex s hs
  have e : col s = c := by unfold col; rw [h1]; simp
  rw [e]
  exact ⟨h0, h2⟩
/-! ### every byte 10 for a blank -/
theorem rep_one (c d : UInt8) : ∀ s : List UInt8, Lib.replaceK [c] [d] (Lib.count s [c]) s = s.map (fun b => if b = c then d else b) := by
  intro s
  induction s with
  | nil =>
    have h : Lib.index [] [c] = -1 := by rw [Lib.index_one]; rfl
    rw [Lib.count_miss h]
    rfl
  | cons b l ih =>
    by_cases hb : b = c
    · subst hb
      have h : Lib.index (b :: l) [b] = ((0 : Nat) : Int) := by rw [Lib.index_one, Lib.indexByte, if_pos (by simp)]; rfl
      rw [Lib.count_hit (by simp) h, Nat.add_comm 1, Lib.replaceK_hit _ _ _ _ 0 h]
      simp only [List.take_zero, List.nil_append, List.length_singleton, Nat.zero_add, List.drop_succ_cons, List.drop_zero, List.map_cons, if_true, List.singleton_append]
      rw [ih]
    · have hne : (b == c) = false := by simp [hb]
      by_cases hm : Lib.index l [c] = -1
      · have h : Lib.index (b :: l) [c] = -1 := by
          rw [Lib.index_one] at hm ⊢
          rw [Lib.indexByte, hne, hm]
          rfl
        rw [Lib.count_miss hm] at ih
        rw [Lib.count_miss h]
        simp only [Lib.replaceK] at ih ⊢
        rw [List.map_cons, if_neg hb, ← ih]
      · have hge := Lib.index_ge l [c]
        obtain ⟨j, hj⟩ : ∃ j : Nat, Lib.index l [c] = (j : Int) := ⟨(Lib.index l [c]).toNat, by omega⟩
        have h : Lib.index (b :: l) [c] = ((j + 1 : Nat) : Int) := by
          rw [Lib.index_one] at hj ⊢
          rw [Lib.indexByte, hne, hj]
          have : ((j : Int) == -1) = false := by rw [beq_eq_false_iff_ne]; omega
          rw [this]
          simp
        rw [Lib.count_hit (by simp) hj, Nat.add_comm 1, Lib.replaceK_hit _ _ _ _ j hj] at ih
        rw [Lib.count_hit (by simp) h, Nat.add_comm 1, Lib.replaceK_hit _ _ _ _ (j + 1) h]
        simp only [List.length_singleton, List.take_succ_cons, List.drop_succ_cons, List.cons_append, List.map_cons] at ih ⊢
        rw [if_neg hb, ← ih]
theorem rep_all (c d : UInt8) (h : c ≠ d) (s : List UInt8) : Lib.replaceAll s [c] [d] = s.map (fun b => if b = c then d else b) := by
  have e : (([c] : List UInt8) == [d]) = false := by simp [h]
  unfold Lib.replaceAll Lib.replace Lib.replaceNum
  rw [e, if_pos (Or.inl (by decide))]
  simpa using rep_one c d s
/-- A text, bytes 10 as blanks. -/
def cl (s : ByteArray) : ByteArray := ⟨(s.data.toList.map fun b : UInt8 => if b = 10 then 32 else b).toArray⟩
theorem cl_size (s : ByteArray) : (cl s).size = s.size := by
  show (s.data.toList.map _).toArray.size = _
  simp
end Go.Proofs.YtjgaikmejccdkaaDoor.PDoc
