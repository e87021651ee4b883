/- An updated index is that of the text, plain. -/
import Derived.Test.YtgejmmkfaliinaaLinesU
namespace Go.Proofs.Ytgejmmkfaliinaa.Lines
open Go.RowKit Go.Proofs.YtgejmmkfaliinaaW.PrintWords Go.Proofs.YtgejmmkfaliinaaW.PrintLast Go.Proofs.Ytgejmmkfaliinaa.PLines
set_option linter.unusedVariables false
set_option linter.unusedSimpArgs false
abbrev B (b : ByteArray) : List UInt8 := b.data.toList
theorem B_size (b : ByteArray) : (B b).length = b.size := by simp [B]
theorem B_ext (b : ByteArray) (i j : Nat) : B (b.extract i j) = ((B b).drop i).take (j - i) := by
  simp [B, ByteArray.data_extract, Array.toList_extract, List.extract_eq_take_drop]
theorem B_app (a b : ByteArray) : B (a ++ b) = B a ++ B b := by simp [B]
theorem bt_B (s : ByteArray) (i : Nat) : bt s (i : Int) = (((B s).getD i 0).toNat : Int) := by
  unfold bt
  simp only [Int.toNat_natCast]
  split
  · rename_i h
    have : (B s).getD i 0 = s[i] := by
      rw [List.getD_eq_getElem?_getD, List.getElem?_eq_getElem (by rw [B_size]; exact h)]
      simp [B, ByteArray.getElem_eq_getElem_data]
    rw [this]
  · rename_i h
    rw [List.getD_eq_getElem?_getD, List.getElem?_eq_none (by rw [B_size]; omega)]
    rfl
/-- Where a list of bytes has new lines, counted from i on. -/
def nl : Int → List UInt8 → List Int
  | _, [] => []
  | i, c :: l => if (c.toNat : Int) = 10 then i :: nl (i + 1) l else nl (i + 1) l
theorem nl_app : ∀ (l m : List UInt8) (i : Int), nl i (l ++ m) = nl i l ++ nl (i + l.length) m := by
  intro l
  induction l with
  | nil => intro m i; simp [nl]
  | cons c l ih =>
    intro m i
    simp only [List.cons_append, nl, ih, List.length_cons]
    rw [show i + 1 + (l.length : Int) = i + ((l.length + 1 : Nat) : Int) from by omega]
    split
    · rfl
    · rfl
theorem nl_shift : ∀ (l : List UInt8) (i d : Int), nl (i + d) l = (nl i l).map (· + d) := by
  intro l
  induction l with
  | nil => intro i d; rfl
  | cons c l ih =>
    intro i d
    simp only [nl]
    rw [show i + d + 1 = (i + 1) + d from by omega, ih]
    split
    · rfl
    · rfl
theorem nl_mem : ∀ (l : List UInt8) (i x : Int), x ∈ nl i l → i ≤ x ∧ x < i + l.length := by
  intro l
  induction l with
  | nil => intro i x h; cases h
  | cons c l ih =>
    intro i x h
    simp only [nl] at h
    rw [List.length_cons]
    split at h
    · rcases List.mem_cons.1 h with rfl | h
      · omega
      · have := ih _ _ h; omega
    · have := ih _ _ h; omega
theorem brk_nl (s : ByteArray) : ∀ k, k ≤ s.size → brk s k = nl 0 ((B s).take k) := by
  intro k
  induction k with
  | zero => intro _; rfl
  | succ k ih =>
    intro hk
    have hl : k < (B s).length := by rw [B_size]; omega
    rw [List.take_succ_eq_append_getElem hl, nl_app, ← ih (by omega)]
    have hlen : (((B s).take k).length : Int) = (k : Int) := by rw [List.length_take]; omega
    have hb : bt s (k : Int) = (((B s)[k]).toNat : Int) := by
      rw [bt_B, List.getD_eq_getElem?_getD, List.getElem?_eq_getElem hl]
      rfl
    by_cases c : bt s (k : Int) = 10
    · rw [brk_hit s k c, hlen]
      simp only [nl]
      rw [if_pos (by rw [← hb]; exact c), Int.zero_add]
    · rw [brk_miss s k c]
      simp only [nl]
      rw [if_neg (by rw [← hb]; exact c), List.append_nil]
theorem beg_nl (s : ByteArray) (hs : s.size ≤ 1000000) : beg s = 0 :: (nl 0 (B s)).map (· + 1) := by
  rw [beg_eq s hs]
  unfold begk
  rw [brk_nl s s.size (Nat.le_refl _), List.take_of_length_le (by rw [B_size]; omega)]
theorem upd_eq (s t : ByteArray) (a b : Nat) (hs : s.size ≤ 2000) (ht : t.size ≤ 300) (hab : a ≤ b) (hb : b ≤ s.size) : upd s a b t = beg (s.extract 0 a ++ t ++ s.extract b s.size) := by
  have hB : B (s.extract 0 a ++ t ++ s.extract b s.size) = (B s).take a ++ B t ++ (B s).drop b := by
    have e1 := B_app (s.extract 0 a ++ t) (s.extract b s.size)
    have e2 := B_app (s.extract 0 a) t
    rw [e1, e2, B_ext, B_ext, List.drop_zero, Nat.sub_zero, List.take_of_length_le (l := (B s).drop b) (by rw [List.length_drop, B_size]; omega)]
  have hn : (s.extract 0 a ++ t ++ s.extract b s.size).size ≤ 1000000 := by
    rw [← B_size, hB]
    simp only [List.length_append, List.length_take, List.length_drop, B_size]
    omega
  rw [beg_nl _ hn, hB]
  unfold upd
  rw [beg_nl s (by omega)]
  have hsa : nl 0 (B s) = nl 0 ((B s).take a) ++ nl (a : Int) ((B s).drop a) := by
    have := nl_app ((B s).take a) ((B s).drop a) 0
    rw [List.take_append_drop] at this
    rw [this]
    congr 2
    rw [List.length_take, B_size]
    omega
  have hsb : nl 0 (B s) = nl 0 ((B s).take b) ++ nl (b : Int) ((B s).drop b) := by
    have := nl_app ((B s).take b) ((B s).drop b) 0
    rw [List.take_append_drop] at this
    rw [this]
    congr 2
    rw [List.length_take, B_size]
    omega
  have ra : (row s a + 1).toNat = (nl 0 ((B s).take a)).length + 1 := by
    unfold row
    rw [brk_nl s a (by omega)]
    omega
  have rb : (row s b + 1).toNat = (nl 0 ((B s).take b)).length + 1 := by
    unfold row
    rw [brk_nl s b hb]
    omega
  have t1 : List.take (row s a + 1).toNat (0 :: (nl 0 (B s)).map (· + 1)) = 0 :: (nl 0 ((B s).take a)).map (· + 1) := by
    rw [ra, List.take_succ_cons, hsa, List.map_append, List.take_left' (by rw [List.length_map])]
  have t2 : List.drop (row s b + 1).toNat (0 :: (nl 0 (B s)).map (· + 1)) = (nl (b : Int) ((B s).drop b)).map (· + 1) := by
    rw [rb, List.drop_succ_cons, hsb, List.map_append, List.drop_left' (by rw [List.length_map])]
  rw [t1, t2, at_eq _ (fun x hx => by have := brk_mem t _ x hx; omega) _ (by omega), brk_nl t t.size (Nat.le_refl _), List.take_of_length_le (l := B t) (by rw [B_size]; omega)]
  rw [nl_app, nl_app, List.map_append, List.map_append, List.cons_append, List.cons_append]
  have hla : (((B s).take a).length : Int) = (a : Int) := by rw [List.length_take, B_size]; omega
  have hlt : (((B s).take a ++ B t).length : Int) = (a : Int) + (t.size : Int) := by rw [List.length_append, B_size]; omega
  rw [hlt, hla, nl_shift (B t) 0 (a : Int)]
  have e3 : (0 : Int) + ((a : Int) + (t.size : Int)) = (b : Int) + ((t.size : Int) - ((b : Int) - (a : Int))) := by omega
  rw [e3, nl_shift ((B s).drop b) (b : Int) ((t.size : Int) - ((b : Int) - (a : Int)))]
  congr 1
  congr 1
  · congr 1
    rw [List.map_map]
    refine List.map_congr_left fun x _ => ?_
    show (a : Int) + x + 1 = x + (a : Int) + 1
    omega
  · rw [List.map_map, List.map_map]
    refine List.map_congr_left fun x hx => ?_
    have := nl_mem _ _ _ hx
    rw [List.length_drop, B_size] at this
    show wrap64 (x + 1 + ((t.size : Int) - ((b : Int) - (a : Int)))) = x + ((t.size : Int) - ((b : Int) - (a : Int))) + 1
    rw [w64 _ (by omega) (by omega)]
    omega
end Go.Proofs.Ytgejmmkfaliinaa.Lines
