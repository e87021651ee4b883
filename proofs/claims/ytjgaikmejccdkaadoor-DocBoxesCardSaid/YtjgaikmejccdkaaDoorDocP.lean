/- Layer 24, plain: the document's answers for the boxes that are made. -/
import Derived.Test.YtjgaikmejccdkaaDoorLayQ
import Derived.Test.YtjgaikmejccdkaaDoorPDocx4
namespace Go.Proofs.YtjgaikmejccdkaaDoor.PDoc
open Go.RowKit Go.Proofs.YtjgaikmejccdkaaDoorW.PrintWords Go.Proofs.YtjgaikmejccdkaaDoorW.PrintLast Go.Proofs.YtjgaikmejccdkaaDoorW.PrintMore
set_option linter.unusedVariables false
set_option linter.unusedSimpArgs false
/-- Induction over the document's boxes. -/
theorem boxesB {P : Bo → Prop} (h : ∀ b : Bo, (∀ c ∈ b.f3, P c) → P b) : ∀ b, P b := by
  have key : ∀ (n : Nat) (b : Bo), SizeOf.sizeOf b ≤ n → P b := by
    intro n
    induction n with
    | zero =>
      intro b hb
      obtain ⟨k, t, x, l⟩ := b
      simp at hb
    | succ n ih =>
      intro b hb
      refine h b (fun c hc => ih c ?_)
      have := List.sizeOf_lt_of_mem hc
      obtain ⟨k, t, x, l⟩ := b
      simp only [S27.mk.sizeOf_spec] at hb
      have h2 : SizeOf.sizeOf c < SizeOf.sizeOf l := this
      omega
  exact fun b => key _ b (Nat.le_refl _)
/-- What a made box is. -/
theorem WB_cases {b : Bo} (h : WB b) : (b.f0 = 0 ∧ b.f1.size ≤ 30 ∧ b.f2 = 0 ∧ b.f3 = [] ∧ dB b = tD b.f1) ∨ (b.f0 = 1 ∧ b.f1 = ⟨#[]⟩ ∧ b.f2 = 0 ∧ b.f3 = [] ∧ dB b = leaf 1 1 false) ∨ (b.f0 = 2 ∧ b.f1 = ⟨#[]⟩ ∧ b.f2 = 0 ∧ b.f3 = [] ∧ dB b = leaf 0 2 false) ∨ (b.f0 = 3 ∧ b.f1 = ⟨#[]⟩ ∧ b.f2 = 0 ∧ b.f3 = [] ∧ dB b = leaf 0 3 true) ∨ ((b.f0 = 4 ∨ b.f0 = 5 ∨ b.f0 = 6) ∧ b.f1 = ⟨#[]⟩ ∧ 0 ≤ b.f2 ∧ b.f2 ≤ 100 ∧ (∀ c ∈ b.f3, WB c) ∧ dB b = bD b.f0 b.f2 (b.f3.map dB)) := by
  obtain ⟨k, t, x, l⟩ := b
  unfold WB at h
  rcases h with ⟨rfl, h1, rfl, rfl⟩ | ⟨rfl | rfl | rfl, rfl, rfl, rfl⟩ | ⟨hk, rfl, h0, h1, h2⟩
  · exact Or.inl ⟨rfl, h1, rfl, rfl, by simp [dB]⟩
  · exact Or.inr (Or.inl ⟨rfl, rfl, rfl, rfl, by simp [dB]⟩)
  · exact Or.inr (Or.inr (Or.inl ⟨rfl, rfl, rfl, rfl, by simp [dB]⟩))
  · exact Or.inr (Or.inr (Or.inr (Or.inl ⟨rfl, rfl, rfl, rfl, by simp [dB]⟩)))
  · refine Or.inr (Or.inr (Or.inr (Or.inr ⟨hk, rfl, h0, h1, WBL_all.1 h2, ?_⟩)))
    exact dB_box k x l ⟨#[]⟩ hk
/-- All that is used of a made box. -/
structure Bz (d : D) : Prop where
  k : Bk d
  w0 : 0 ≤ wd d
  f : ∀ bl : List UInt8, bl.length ≤ 1 → (fl bl d).length ≤ tb d
theorem flL_len {l : List D} (h : ∀ d ∈ l, Bz d) (bl : List UInt8) (hb : bl.length ≤ 1) : (flL bl l).length ≤ tbL l := by
  induction l with
  | nil => exact Nat.le_refl _
  | cons d r ih =>
    have h1 := (h d List.mem_cons_self).f bl hb
    have h2 := ih (fun y hy => h y (List.mem_cons_of_mem _ hy))
    simp only [flL, tbL, List.length_append]
    omega
theorem wds_nn {l : List D} (h : ∀ d ∈ l, Bz d) : 0 ≤ wds l := by
  induction l with
  | nil => exact Int.le_refl 0
  | cons d r ih =>
    have h1 := (h d List.mem_cons_self).w0
    have h2 := ih (fun y hy => h y (List.mem_cons_of_mem _ hy))
    show 0 ≤ wd d + wds r
    omega
theorem Bz_of : ∀ b : Bo, WB b → Bz (dB b) := by
  apply boxesB
  intro b ih hb
  have hk := dB_ok b hb
  rcases WB_cases hb with ⟨e0, e1, e2, e3, ed⟩ | ⟨e0, e1, e2, e3, ed⟩ | ⟨e0, e1, e2, e3, ed⟩ | ⟨e0, e1, e2, e3, ed⟩ | ⟨e0, e1, e2, e2', e3, ed⟩
  · refine ⟨hk, by rw [ed]; show (0 : Int) ≤ (col (cl b.f1) : Int); omega, fun bl hbl => ?_⟩
    rw [ed]
    unfold tD
    rw [fl_some, tb_some]
    show ((cl b.f1).data.toList ++ ((if (0 : Int) = 1 then bl else []) ++ [])).length ≤ (cl b.f1).size + 1 + 0
    rw [if_neg (by omega), List.append_nil, List.append_nil, data_length]
    omega
  · refine ⟨hk, by rw [ed]; show (0 : Int) ≤ 1; omega, fun bl hbl => ?_⟩
    rw [ed]
    unfold leaf
    rw [fl_some, tb_some]
    show ([] ++ ((if (1 : Int) = 1 then bl else []) ++ [])).length ≤ 0 + 1 + 0
    simpa using hbl
  · refine ⟨hk, by rw [ed]; show (0 : Int) ≤ 0; omega, fun bl hbl => ?_⟩
    rw [ed]
    unfold leaf
    rw [fl_some, tb_some]
    show ([] ++ ((if (2 : Int) = 1 then bl else []) ++ [])).length ≤ 0 + 1 + 0
    simp
  · refine ⟨hk, by rw [ed]; show (0 : Int) ≤ 0; omega, fun bl hbl => ?_⟩
    rw [ed]
    unfold leaf
    rw [fl_some, tb_some]
    show ([] ++ ((if (3 : Int) = 1 then bl else []) ++ [])).length ≤ 0 + 1 + 0
    simp
  · have hz : ∀ d ∈ b.f3.map dB, Bz d := by
      intro d hd
      obtain ⟨c, hc, rfl⟩ := List.mem_map.1 hd
      exact ih c hc (e3 c hc)
    refine ⟨hk, by rw [ed]; exact wds_nn hz, fun bl hbl => ?_⟩
    rw [ed, fl_b _ _ _ _ (by omega)]
    have := flL_len hz bl hbl
    unfold bD
    rw [tb_some]
    show _ ≤ 0 + 1 + tbL (b.f3.map dB)
    omega
theorem rd_at {l : List Bo} {i : Nat} (hi : i < l.length) : rd_T27 l (i : Int) = l[i] := by
  unfold rd_T27
  rw [Int.toNat_natCast]
  simp [List.getD, hi]
/-- Parts of a list of boxes are no more than all. -/
theorem parts_le (l : List D) (i : Nat) (h : ∀ d ∈ l, Bz d) : nbL (l.take i) ≤ nbL l ∧ wds (l.take i) ≤ 31 * (nbL l : Int) ∧ 0 ≤ wds (l.take i) ∧ ∀ bl : List UInt8, bl.length ≤ 1 → (flL bl (l.take i)).length ≤ 31 * nbL l := by
  have hz : ∀ d ∈ l.take i, Bz d := fun d hd => h d (List.mem_of_mem_take hd)
  have hk := BkL.of (l := l.take i) (fun d hd => (hz d hd).k)
  have hn : nbL (l.take i) ≤ nbL l := by
    have key : ∀ a b : List D, nbL (a ++ b) = nbL a + nbL b := by
      intro a b
      induction a with
      | nil => simp [nbL]
      | cons x r ih => simp only [List.cons_append, nbL, ih]; omega
    have := key (l.take i) (l.drop i)
    rw [List.take_append_drop] at this
    omega
  have h1 := hk.t
  have h2 := hk.w
  refine ⟨hn, by omega, wds_nn hz, fun bl hbl => ?_⟩
  have := flL_len hz bl hbl
  omega
theorem nbL_len2 (l : List D) : l.length ≤ nbL l := by
  induction l with
  | nil => simp [nbL]
  | cons x r ih =>
    have := nb_pos x
    simp only [nbL, List.length_cons]
    omega
theorem nbL_mem {l : List D} {d : D} (h : d ∈ l) : nb d ≤ nbL l := by
  induction l with
  | nil => cases h
  | cons x r ih =>
    simp only [nbL]
    rcases List.mem_cons.1 h with rfl | h
    · omega
    · have := ih h; omega
theorem clean_f (s : ByteArray) (h : s.size ≤ 140737488355328) : frisketref24_Clean.f s = some (cl s) := by
  unfold frisketref24_Clean.f
  rw [if_pos h]
  rfl
/-- The document's width. -/
theorem ref_width : ∀ b : Bo, WB b → nb (dB b) ≤ 1000000 → ∃ K, ∀ k, K ≤ k → frisketref24_Width.f k b.f0 b.f1 b.f2 b.f3 = some (if hd (dB b) = true then 0 else wd (dB b), !hd (dB b)) := by
  apply boxesB
  intro b ih hb hn
  rcases WB_cases hb with ⟨e0, e1, e2, e3, ed⟩ | ⟨e0, e1, e2, e3, ed⟩ | ⟨e0, e1, e2, e3, ed⟩ | ⟨e0, e1, e2, e3, ed⟩ | ⟨e0, e1, e2, e2', e3, ed⟩
  · refine ⟨(cl b.f1).size + 21, fun k hk => ?_⟩
    obtain ⟨k, rfl⟩ : ∃ m, k = m + 1 := ⟨k - 1, by omega⟩
    unfold frisketref24_Width.f
    rw [if_pos e0, clean_f _ (by omega), ed]
    have := (col_eq (cl b.f1) (by rw [cl_size]; omega)).2 k (by omega)
    simp only [Option.bind_some, this.2]
    rfl
  · refine ⟨1, fun k hk => ?_⟩
    obtain ⟨k, rfl⟩ : ∃ m, k = m + 1 := ⟨k - 1, by omega⟩
    unfold frisketref24_Width.f
    rw [if_neg (by omega), if_pos e0, ed]
    rfl
  · refine ⟨1, fun k hk => ?_⟩
    obtain ⟨k, rfl⟩ : ∃ m, k = m + 1 := ⟨k - 1, by omega⟩
    unfold frisketref24_Width.f
    rw [if_neg (by omega), if_neg (by omega), if_pos e0, ed]
    rfl
  · refine ⟨1, fun k hk => ?_⟩
    obtain ⟨k, rfl⟩ : ∃ m, k = m + 1 := ⟨k - 1, by omega⟩
    unfold frisketref24_Width.f
    rw [if_neg (by omega), if_neg (by omega), if_neg (by omega), if_pos e0, ed]
    rfl
  · have hz : ∀ d ∈ b.f3.map dB, Bz d := by
      intro d hd
      obtain ⟨c, hc, rfl⟩ := List.mem_map.1 hd
      exact Bz_of c (e3 c hc)
    have hnl : 1 + nbL (b.f3.map dB) ≤ 1000000 := by rw [ed] at hn; unfold bD at hn; rw [nb_some] at hn; exact hn
    have hl : ∀ (m i : Nat), i + m = b.f3.length → ∃ K, ∀ k, K ≤ k → frisketref24_Width.l0 k (wds ((b.f3.map dB).take i)) (i : Int) b.f0 b.f1 b.f2 b.f3 = some (if hds ((b.f3.map dB).drop i) = true then (0, false) else (wds (b.f3.map dB), true)) := by
      intro m
      induction m with
      | zero =>
        intro i hi
        refine ⟨1, fun k hk => ?_⟩
        obtain ⟨k, rfl⟩ : ∃ m, k = m + 1 := ⟨k - 1, by omega⟩
        unfold frisketref24_Width.l0
        rw [if_neg (by omega), List.take_of_length_le (by simp; omega), List.drop_of_length_le (by simp; omega)]
        rfl
      | succ m ihm =>
        intro i hi
        have hil : i < b.f3.length := by omega
        have hc : b.f3[i] ∈ b.f3 := List.getElem_mem hil
        have hdc : dB b.f3[i] ∈ b.f3.map dB := List.mem_map_of_mem hc
        obtain ⟨K1, h1⟩ := ih b.f3[i] hc (e3 _ hc) (by have := nbL_mem hdc; omega)
        obtain ⟨K2, h2⟩ := ihm (i + 1) (by omega)
        refine ⟨K1 + K2 + 1, fun k hk => ?_⟩
        obtain ⟨k, rfl⟩ : ∃ m, k = m + 1 := ⟨k - 1, by omega⟩
        have hil2 : i < (b.f3.map dB).length := by simpa using hil
        have et : (b.f3.map dB).take (i + 1) = (b.f3.map dB).take i ++ [dB b.f3[i]] := by rw [List.take_succ_eq_append_getElem hil2]; simp
        have edr : (b.f3.map dB).drop i = dB b.f3[i] :: (b.f3.map dB).drop (i + 1) := by rw [List.drop_eq_getElem_cons hil2]; simp
        have hp0 := parts_le (b.f3.map dB) i hz
        have hp1 := parts_le (b.f3.map dB) (i + 1) hz
        unfold frisketref24_Width.l0
        rw [if_pos (by omega), if_pos (by omega), rd_at hil, h1 k (by omega), Option.bind_some, edr]
        have eh : hds (dB b.f3[i] :: (b.f3.map dB).drop (i + 1)) = (hd (dB b.f3[i]) || hds ((b.f3.map dB).drop (i + 1))) := rfl
        rw [eh]
        cases hh : hd (dB b.f3[i]) with
        | true => simp
        | false =>
          have e9 : wds ((b.f3.map dB).take (i + 1)) = wds ((b.f3.map dB).take i) + wd (dB b.f3[i]) := by rw [et, wds_snoc]
          have e10 : wrap64 (wds ((b.f3.map dB).take i) + wd (dB b.f3[i])) = wds ((b.f3.map dB).take (i + 1)) := by rw [w64 _ (by omega) (by omega), e9]
          have e11 : wrap64 ((i : Int) + 1) = ((i + 1 : Nat) : Int) := by have := nbL_len2 (b.f3.map dB); rw [w64 _ (by omega) (by simp at this; omega)]; omega
          simp only [Bool.false_eq_true, if_false, Bool.not_false, if_true, Bool.false_or]
          rw [e10, e11, h2 k (by omega)]
    obtain ⟨K, h⟩ := hl b.f3.length 0 (by omega)
    refine ⟨K + 1, fun k hk => ?_⟩
    obtain ⟨k, rfl⟩ : ∃ m, k = m + 1 := ⟨k - 1, by omega⟩
    have := h k (by omega)
    unfold frisketref24_Width.f
    rw [if_neg (by omega), if_neg (by omega), if_neg (by omega), if_neg (by omega)]
    have e0' : wds ((b.f3.map dB).take 0) = 0 := rfl
    rw [e0', List.drop_zero] at this
    rw [show ((0 : Nat) : Int) = 0 from rfl] at this
    rw [this, ed]
    have e12 : hd (bD b.f0 b.f2 (b.f3.map dB)) = hds (b.f3.map dB) := rfl
    have e13 : wd (bD b.f0 b.f2 (b.f3.map dB)) = wds (b.f3.map dB) := rfl
    rw [e12, e13]
    cases hds (b.f3.map dB) <;> rfl
theorem ba_app (a b : List UInt8) : (⟨a.toArray⟩ : ByteArray) ++ (⟨b.toArray⟩ : ByteArray) = ⟨(a ++ b).toArray⟩ := by
  apply ByteArray.ext
  simp
theorem fl_text (bl : List UInt8) (t : ByteArray) : (⟨(fl bl (tD t)).toArray⟩ : ByteArray) = cl t := by
  unfold tD
  rw [fl_some]
  show (⟨((cl t).data.toList ++ ((if (0 : Int) = 1 then bl else []) ++ [])).toArray⟩ : ByteArray) = _
  rw [if_neg (by omega), List.append_nil, List.append_nil]
/-- The document's flat text. -/
theorem ref_flat : ∀ b : Bo, WB b → nb (dB b) ≤ 1000000 → ∃ K, ∀ k, K ≤ k → frisketref24_Flat.f k b.f0 b.f1 b.f2 b.f3 = some (if hd (dB b) = true then ⟨#[]⟩ else flT (dB b), !hd (dB b)) := by
  apply boxesB
  intro b ih hb hn
  rcases WB_cases hb with ⟨e0, e1, e2, e3, ed⟩ | ⟨e0, e1, e2, e3, ed⟩ | ⟨e0, e1, e2, e3, ed⟩ | ⟨e0, e1, e2, e3, ed⟩ | ⟨e0, e1, e2, e2', e3, ed⟩
  · refine ⟨1, fun k hk => ?_⟩
    obtain ⟨k, rfl⟩ : ∃ m, k = m + 1 := ⟨k - 1, by omega⟩
    unfold frisketref24_Flat.f
    rw [if_pos e0, clean_f _ (by omega), ed, Option.bind_some]
    show some (cl b.f1, true) = some (flT (tD b.f1), true)
    unfold flT
    rw [fl_text]
  · refine ⟨1, fun k hk => ?_⟩
    obtain ⟨k, rfl⟩ : ∃ m, k = m + 1 := ⟨k - 1, by omega⟩
    unfold frisketref24_Flat.f
    rw [if_neg (by omega), if_pos e0, ed]
    rfl
  · refine ⟨1, fun k hk => ?_⟩
    obtain ⟨k, rfl⟩ : ∃ m, k = m + 1 := ⟨k - 1, by omega⟩
    unfold frisketref24_Flat.f
    rw [if_neg (by omega), if_neg (by omega), if_pos e0, ed]
    rfl
  · refine ⟨1, fun k hk => ?_⟩
    obtain ⟨k, rfl⟩ : ∃ m, k = m + 1 := ⟨k - 1, by omega⟩
    unfold frisketref24_Flat.f
    rw [if_neg (by omega), if_neg (by omega), if_neg (by omega), if_pos e0, ed]
    rfl
  · have hz : ∀ d ∈ b.f3.map dB, Bz d := by
      intro d hd
      obtain ⟨c, hc, rfl⟩ := List.mem_map.1 hd
      exact Bz_of c (e3 c hc)
    have hnl : 1 + nbL (b.f3.map dB) ≤ 1000000 := by rw [ed] at hn; unfold bD at hn; rw [nb_some] at hn; exact hn
    have hl : ∀ (m i : Nat), i + m = b.f3.length → ∃ K, ∀ k, K ≤ k → frisketref24_Flat.l0 k ⟨(flL [32] ((b.f3.map dB).take i)).toArray⟩ (i : Int) b.f0 b.f1 b.f2 b.f3 = some (if hds ((b.f3.map dB).drop i) = true then (⟨#[]⟩, false) else (⟨(flL [32] (b.f3.map dB)).toArray⟩, true)) := by
      intro m
      induction m with
      | zero =>
        intro i hi
        refine ⟨1, fun k hk => ?_⟩
        obtain ⟨k, rfl⟩ : ∃ m, k = m + 1 := ⟨k - 1, by omega⟩
        unfold frisketref24_Flat.l0
        rw [if_neg (by omega), List.take_of_length_le (by simp; omega), List.drop_of_length_le (by simp; omega)]
        rfl
      | succ m ihm =>
        intro i hi
        have hil : i < b.f3.length := by omega
        have hc : b.f3[i] ∈ b.f3 := List.getElem_mem hil
        have hdc : dB b.f3[i] ∈ b.f3.map dB := List.mem_map_of_mem hc
        obtain ⟨K1, h1⟩ := ih b.f3[i] hc (e3 _ hc) (by have := nbL_mem hdc; omega)
        obtain ⟨K2, h2⟩ := ihm (i + 1) (by omega)
        refine ⟨K1 + K2 + 1, fun k hk => ?_⟩
        obtain ⟨k, rfl⟩ : ∃ m, k = m + 1 := ⟨k - 1, by omega⟩
        have hil2 : i < (b.f3.map dB).length := by simpa using hil
        have et : flL [32] ((b.f3.map dB).take (i + 1)) = flL [32] ((b.f3.map dB).take i) ++ fl [32] (dB b.f3[i]) := by rw [flL_take _ _ _ hil2]; simp
        have edr : (b.f3.map dB).drop i = dB b.f3[i] :: (b.f3.map dB).drop (i + 1) := by rw [List.drop_eq_getElem_cons hil2]; simp
        have hp0 := (parts_le (b.f3.map dB) i hz).2.2.2 [32] (by simp)
        have hp1 := (parts_le (b.f3.map dB) (i + 1) hz).2.2.2 [32] (by simp)
        unfold frisketref24_Flat.l0
        rw [if_pos (by omega), if_pos (by omega), rd_at hil, h1 k (by omega), Option.bind_some, edr]
        have eh : hds (dB b.f3[i] :: (b.f3.map dB).drop (i + 1)) = (hd (dB b.f3[i]) || hds ((b.f3.map dB).drop (i + 1))) := rfl
        rw [eh]
        cases hh : hd (dB b.f3[i]) with
        | true => simp
        | false =>
          have e10 : (⟨(flL [32] ((b.f3.map dB).take i)).toArray⟩ : ByteArray) ++ flT (dB b.f3[i]) = ⟨(flL [32] ((b.f3.map dB).take (i + 1))).toArray⟩ := by rw [et]; exact ba_app _ _
          have e11 : wrap64 ((i : Int) + 1) = ((i + 1 : Nat) : Int) := by have := nbL_len2 (b.f3.map dB); rw [w64 _ (by omega) (by simp at this; omega)]; omega
          have e14 : (⟨(flL [32] ((b.f3.map dB).take i)).toArray⟩ : ByteArray).size + (flT (dB b.f3[i])).size ≤ 9223372036854775807 := by
            show (flL [32] ((b.f3.map dB).take i)).toArray.size + (fl [32] (dB b.f3[i])).toArray.size ≤ _
            rw [et, List.length_append] at hp1
            rw [List.size_toArray, List.size_toArray]
            omega
          simp only [Bool.false_eq_true, if_false, Bool.not_false, if_true, Bool.false_or]
          rw [if_pos e14, e10, e11, h2 k (by omega)]
    obtain ⟨K, h⟩ := hl b.f3.length 0 (by omega)
    refine ⟨K + 1, fun k hk => ?_⟩
    obtain ⟨k, rfl⟩ : ∃ m, k = m + 1 := ⟨k - 1, by omega⟩
    have := h k (by omega)
    unfold frisketref24_Flat.f
    rw [if_neg (by omega), if_neg (by omega), if_neg (by omega), if_neg (by omega)]
    have e0' : (⟨(flL [32] ((b.f3.map dB).take 0)).toArray⟩ : ByteArray) = ⟨#[]⟩ := rfl
    rw [e0', List.drop_zero] at this
    rw [show ((0 : Nat) : Int) = 0 from rfl] at this
    rw [this, ed]
    have e12 : hd (bD b.f0 b.f2 (b.f3.map dB)) = hds (b.f3.map dB) := rfl
    have e13 : flT (bD b.f0 b.f2 (b.f3.map dB)) = ⟨(flL [32] (b.f3.map dB)).toArray⟩ := by unfold flT; rw [fl_b _ _ _ _ (by omega)]
    rw [e12, e13]
    cases hds (b.f3.map dB) <;> rfl
/-- The document's number of boxes. -/
theorem ref_size : ∀ b : Bo, WB b → nb (dB b) ≤ 1000000 → ∃ K, ∀ k, K ≤ k → frisketref24_Size.f k b.f0 b.f1 b.f2 b.f3 = some (nb (dB b) : Int) := by
  apply boxesB
  intro b ih hb hn
  have key : nb (dB b) = 1 + nbL (b.f3.map dB) ∧ ∀ c ∈ b.f3, WB c := by
    rcases WB_cases hb with ⟨e0, e1, e2, e3, ed⟩ | ⟨e0, e1, e2, e3, ed⟩ | ⟨e0, e1, e2, e3, ed⟩ | ⟨e0, e1, e2, e3, ed⟩ | ⟨e0, e1, e2, e2', e3, ed⟩
    · rw [ed, e3]; exact ⟨rfl, by simp⟩
    · rw [ed, e3]; exact ⟨rfl, by simp⟩
    · rw [ed, e3]; exact ⟨rfl, by simp⟩
    · rw [ed, e3]; exact ⟨rfl, by simp⟩
    · rw [ed]; unfold bD; rw [nb_some]; exact ⟨rfl, e3⟩
  obtain ⟨en, e3⟩ := key
  have hz : ∀ d ∈ b.f3.map dB, Bz d := by
    intro d hd
    obtain ⟨c, hc, rfl⟩ := List.mem_map.1 hd
    exact Bz_of c (e3 c hc)
  have hl : ∀ (m i : Nat), i + m = b.f3.length → ∃ K, ∀ k, K ≤ k → frisketref24_Size.l0 k ((1 + nbL ((b.f3.map dB).take i) : Nat) : Int) (i : Int) b.f0 b.f1 b.f2 b.f3 = some ((1 + nbL (b.f3.map dB) : Nat) : Int) := by
    intro m
    induction m with
    | zero =>
      intro i hi
      refine ⟨1, fun k hk => ?_⟩
      obtain ⟨k, rfl⟩ : ∃ m, k = m + 1 := ⟨k - 1, by omega⟩
      unfold frisketref24_Size.l0
      rw [if_neg (by omega), List.take_of_length_le (by simp; omega)]
    | succ m ihm =>
      intro i hi
      have hil : i < b.f3.length := by omega
      have hc : b.f3[i] ∈ b.f3 := List.getElem_mem hil
      have hdc : dB b.f3[i] ∈ b.f3.map dB := List.mem_map_of_mem hc
      obtain ⟨K1, h1⟩ := ih b.f3[i] hc (e3 _ hc) (by have := nbL_mem hdc; omega)
      obtain ⟨K2, h2⟩ := ihm (i + 1) (by omega)
      refine ⟨K1 + K2 + 1, fun k hk => ?_⟩
      obtain ⟨k, rfl⟩ : ∃ m, k = m + 1 := ⟨k - 1, by omega⟩
      have hil2 : i < (b.f3.map dB).length := by simpa using hil
      have et : nbL ((b.f3.map dB).take (i + 1)) = nbL ((b.f3.map dB).take i) + nb (dB b.f3[i]) := by
        have ka : ∀ x y : List D, nbL (x ++ y) = nbL x + nbL y := by
          intro x y
          induction x with
          | nil => simp [nbL]
          | cons z r ih => simp only [List.cons_append, nbL, ih]; omega
        rw [List.take_succ_eq_append_getElem hil2, ka]
        simp [nbL]
      have hp1 := (parts_le (b.f3.map dB) (i + 1) hz).1
      unfold frisketref24_Size.l0
      rw [if_pos (by omega), if_pos (by omega), rd_at hil, h1 k (by omega), Option.bind_some]
      have e10 : wrap64 (((1 + nbL ((b.f3.map dB).take i) : Nat) : Int) + (nb (dB b.f3[i]) : Int)) = ((1 + nbL ((b.f3.map dB).take (i + 1)) : Nat) : Int) := by rw [w64 _ (by omega) (by omega)]; omega
      have e11 : wrap64 ((i : Int) + 1) = ((i + 1 : Nat) : Int) := by have := nbL_len2 (b.f3.map dB); rw [w64 _ (by omega) (by simp at this; omega)]; omega
      rw [e10, e11, h2 k (by omega)]
  obtain ⟨K, h⟩ := hl b.f3.length 0 (by omega)
  refine ⟨K + 1, fun k hk => ?_⟩
  obtain ⟨k, rfl⟩ : ∃ m, k = m + 1 := ⟨k - 1, by omega⟩
  have := h k (by omega)
  unfold frisketref24_Size.f
  rw [en]
  exact this
/-- The document's texts. -/
theorem ref_words : ∀ b : Bo, WB b → nb (dB b) ≤ 1000000 → ∃ K, ∀ k, K ≤ k → frisketref24_Words.f k b.f0 b.f1 b.f2 b.f3 = some (woT (dB b)) := by
  apply boxesB
  intro b ih hb hn
  -- the text ahead of the parts
  have key : ∃ t : List UInt8, woT (dB b) = ⟨(t ++ flL [] (b.f3.map dB)).toArray⟩ ∧ t.length ≤ 30 ∧ (∀ c ∈ b.f3, WB c) ∧ 1 + nbL (b.f3.map dB) ≤ 1000000 ∧ ∀ k, frisketref24_Words.f (k + 1) b.f0 b.f1 b.f2 b.f3 = frisketref24_Words.j0 k ⟨t.toArray⟩ b.f0 b.f1 b.f2 b.f3 := by
    rcases WB_cases hb with ⟨e0, e1, e2, e3, ed⟩ | ⟨e0, e1, e2, e3, ed⟩ | ⟨e0, e1, e2, e3, ed⟩ | ⟨e0, e1, e2, e3, ed⟩ | ⟨e0, e1, e2, e2', e3, ed⟩
    · refine ⟨(cl b.f1).data.toList, ?_, ?_, by rw [e3]; simp, by rw [e3]; simp [nbL], fun k => ?_⟩
      · rw [ed, e3]
        unfold woT
        rw [fl_text]
        simp [flL]
      · rw [data_length, cl_size]; exact e1
      · unfold frisketref24_Words.f
        rw [if_pos e0, clean_f _ (by omega), Option.bind_some]
    · refine ⟨[], ?_, by simp, by rw [e3]; simp, by rw [e3]; simp [nbL], fun k => ?_⟩
      · rw [ed, e3]; rfl
      · conv => lhs; unfold frisketref24_Words.f
        rw [if_neg (by omega)]
    · refine ⟨[], ?_, by simp, by rw [e3]; simp, by rw [e3]; simp [nbL], fun k => ?_⟩
      · rw [ed, e3]; rfl
      · conv => lhs; unfold frisketref24_Words.f
        rw [if_neg (by omega)]
    · refine ⟨[], ?_, by simp, by rw [e3]; simp, by rw [e3]; simp [nbL], fun k => ?_⟩
      · rw [ed, e3]; rfl
      · conv => lhs; unfold frisketref24_Words.f
        rw [if_neg (by omega)]
    · refine ⟨[], ?_, by simp, e3, ?_, fun k => ?_⟩
      · rw [ed]; unfold woT; rw [fl_b _ _ _ _ (by omega)]; rfl
      · rw [ed] at hn; unfold bD at hn; rw [nb_some] at hn; exact hn
      · conv => lhs; unfold frisketref24_Words.f
        rw [if_neg (by omega)]
  obtain ⟨t, ew, ht, e3, hnl, ef⟩ := key
  have hz : ∀ d ∈ b.f3.map dB, Bz d := by
    intro d hd
    obtain ⟨c, hc, rfl⟩ := List.mem_map.1 hd
    exact Bz_of c (e3 c hc)
  have hl : ∀ (m i : Nat), i + m = b.f3.length → ∃ K, ∀ k, K ≤ k → frisketref24_Words.l0 k ⟨(t ++ flL [] ((b.f3.map dB).take i)).toArray⟩ (i : Int) b.f0 b.f1 b.f2 b.f3 = some ⟨(t ++ flL [] (b.f3.map dB)).toArray⟩ := by
    intro m
    induction m with
    | zero =>
      intro i hi
      refine ⟨1, fun k hk => ?_⟩
      obtain ⟨k, rfl⟩ : ∃ m, k = m + 1 := ⟨k - 1, by omega⟩
      unfold frisketref24_Words.l0
      rw [if_neg (by omega), List.take_of_length_le (by simp; omega)]
    | succ m ihm =>
      intro i hi
      have hil : i < b.f3.length := by omega
      have hc : b.f3[i] ∈ b.f3 := List.getElem_mem hil
      have hdc : dB b.f3[i] ∈ b.f3.map dB := List.mem_map_of_mem hc
      obtain ⟨K1, h1⟩ := ih b.f3[i] hc (e3 _ hc) (by have := nbL_mem hdc; omega)
      obtain ⟨K2, h2⟩ := ihm (i + 1) (by omega)
      refine ⟨K1 + K2 + 1, fun k hk => ?_⟩
      obtain ⟨k, rfl⟩ : ∃ m, k = m + 1 := ⟨k - 1, by omega⟩
      have hil2 : i < (b.f3.map dB).length := by simpa using hil
      have et : flL [] ((b.f3.map dB).take (i + 1)) = flL [] ((b.f3.map dB).take i) ++ fl [] (dB b.f3[i]) := by rw [flL_take _ _ _ hil2]; simp
      have hp1 := (parts_le (b.f3.map dB) (i + 1) hz).2.2.2 [] (by simp)
      unfold frisketref24_Words.l0
      rw [if_pos (by omega), if_pos (by omega), rd_at hil, h1 k (by omega), Option.bind_some]
      have e10 : (⟨(t ++ flL [] ((b.f3.map dB).take i)).toArray⟩ : ByteArray) ++ woT (dB b.f3[i]) = ⟨(t ++ flL [] ((b.f3.map dB).take (i + 1))).toArray⟩ := by rw [et, ← List.append_assoc]; exact ba_app _ _
      have e11 : wrap64 ((i : Int) + 1) = ((i + 1 : Nat) : Int) := by have := nbL_len2 (b.f3.map dB); rw [w64 _ (by omega) (by simp at this; omega)]; omega
      have e14 : (⟨(t ++ flL [] ((b.f3.map dB).take i)).toArray⟩ : ByteArray).size + (woT (dB b.f3[i])).size ≤ 9223372036854775807 := by
        show (t ++ flL [] ((b.f3.map dB).take i)).toArray.size + (fl [] (dB b.f3[i])).toArray.size ≤ _
        rw [et, List.length_append] at hp1
        rw [List.size_toArray, List.size_toArray, List.length_append]
        omega
      rw [if_pos e14, e10, e11, h2 k (by omega)]
  obtain ⟨K, h⟩ := hl b.f3.length 0 (by omega)
  refine ⟨K + 2, fun k hk => ?_⟩
  obtain ⟨k, rfl⟩ : ∃ m, k = m + 1 + 1 := ⟨k - 2, by omega⟩
  have := h k (by omega)
  rw [ef, ew]
  unfold frisketref24_Words.j0
  rw [show (⟨(t ++ flL [] ((b.f3.map dB).take 0)).toArray⟩ : ByteArray) = ⟨t.toArray⟩ by simp [flL]] at this
  exact this
end Go.Proofs.YtjgaikmejccdkaaDoor.PDoc
