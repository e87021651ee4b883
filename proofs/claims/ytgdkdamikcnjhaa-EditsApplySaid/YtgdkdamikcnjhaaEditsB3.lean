/- EditsApply's plain law: right edits make what the reference makes; turned, they make it again. -/
import Derived.Test.YtgdkdamikcnjhaaEditsB2
import Derived.Test.YtgdkdamikcnjhaaPEditsx4
namespace Go.Proofs.Ytgdkdamikcnjhaa.PEdits
open Go.RowKit Go.Proofs.YtgdkdamikcnjhaaW.PrintWords Go.Proofs.YtgdkdamikcnjhaaW.PrintLast
set_option linter.unusedVariables false
set_option linter.unusedSimpArgs false
def tX (s : ByteArray) : Int → Int → List X → List X
  | _, _, [] => []
  | a, b, e :: l => (⟨e.f0 - a + b, e.f0 - a + b + (e.f2.size : Int), s.extract e.f0.toNat e.f1.toNat⟩ : X) :: tX s e.f1 (e.f0 - a + b + (e.f2.size : Int)) l
theorem tX_len (s : ByteArray) : ∀ (l : List X) (a b : Int), (tX s a b l).length = l.length := by
  intro l
  induction l with
  | nil => intro a b; rfl
  | cons e l ih => intro a b; simp [tX, ih]
theorem tX_tn (s : ByteArray) (n : Int) : ∀ (l : List X) (a b : Int), 0 ≤ a → 0 ≤ b → rt n a l = true → tL (tX s a b l) = Ed.tn (B s) a.toNat b.toNat (tL l) := by
  intro l
  induction l with
  | nil => intro a b _ _ _; rfl
  | cons e l ih =>
    intro a b ha hb h
    obtain ⟨h1, h2, h3, h4⟩ := rt_cons h
    have e1 : (e.f0 - a + b).toNat = e.f0.toNat - a.toNat + b.toNat := by omega
    have e2 : (e.f0 - a + b + (e.f2.size : Int)).toNat = e.f0.toNat - a.toNat + b.toNat + (B e.f2).length := by rw [B_size]; omega
    have := ih e.f1 (e.f0 - a + b + (e.f2.size : Int)) (by omega) (by omega) h4
    rw [e2] at this
    show tE _ :: tL (tX s e.f1 (e.f0 - a + b + (e.f2.size : Int)) l) = _
    rw [this]
    simp only [tL, List.map_cons, Ed.tn, tE]
    rw [e1, e2, B_ext]
theorem tX_rt (s : ByteArray) (n : Int) (m : Int) : ∀ (l : List X) (a b : Int), 0 ≤ a → 0 ≤ b → rt n a l = true → Ed.R m.toNat b.toNat (tL (tX s a b l)) → 0 ≤ m → rt m b (tX s a b l) = true := by
  intro l
  induction l with
  | nil => intro a b _ _ _ _ _; rfl
  | cons e l ih =>
    intro a b ha hb h hR hm
    obtain ⟨h1, h2, h3, h4⟩ := rt_cons h
    obtain ⟨r1, r2, r3, r4⟩ := hR
    simp only [tE] at r1 r2 r3 r4
    simp only [tX, rt]
    rw [if_neg (by omega), if_neg (by omega), if_neg (by omega)]
    exact ih e.f1 _ (by omega) (by omega) h4 r4 hm
theorem Turn_l0 (s : ByteArray) (hs : s.size ≤ 140737488355328) : ∀ (q p out : List X) (k : Nat) (a b : Int), q.length < k → (p ++ q).length ≤ 4398046511103 → out.length + q.length ≤ 4398046511103 → 0 ≤ a → 0 ≤ b → rt s.size a q = true → b + (s.size - a) + Ed.sz (tL q) ≤ 1152921504606846976 →
    edits_Turn.l0 k s out (b - a) (p ++ q) ((p ++ q).length : Int) (p.length : Int) = some (out ++ tX s a b q, 0) := by
  intro q
  induction q with
  | nil =>
    intro p out k a b hk hb ho ha hb0 h hz
    obtain ⟨k, rfl⟩ : ∃ m, k = m + 1 := ⟨k - 1, by simp at hk; omega⟩
    simp only [edits_Turn.l0]
    rw [if_neg (by simp)]
    simp [tX]
  | cons e q ih =>
    intro p out k a b hk hb ho ha hb0 h hz
    obtain ⟨k, rfl⟩ : ∃ m, k = m + 1 := ⟨k - 1, by simp at hk; omega⟩
    have hl := mid_len p e q
    obtain ⟨h1, h2, h3, h4⟩ := rt_cons h
    have hz' : b + (s.size - a) + ((e.f2.size : Int) + Ed.sz (tL q)) ≤ 1152921504606846976 := by simpa [Ed.sz, tL, tE, B] using hz
    simp only [List.length_cons] at ho hk
    simp only [edits_Turn.l0]
    rw [if_pos (by omega), if_pos (by omega), if_pos (by omega)]
    rw [show rd_T36 (p ++ e :: q) (p.length : Int) = e from rd_mid p e q]
    rw [if_pos (by omega), if_pos h2, if_pos h3, if_pos (by omega)]
    have w1 : wrap64 (e.f0 + (b - a)) = e.f0 - a + b := by rw [w64 _ (by omega) (by omega)]; omega
    have w2 : wrap64 (e.f0 - a + b + (e.f2.size : Int)) = e.f0 - a + b + (e.f2.size : Int) := by rw [w64 _ (by omega) (by omega)]
    have w3 : wrap64 (e.f1 - e.f0) = e.f1 - e.f0 := by rw [w64 _ (by omega) (by omega)]
    have w4 : wrap64 ((e.f2.size : Int) - (e.f1 - e.f0)) = (e.f2.size : Int) - (e.f1 - e.f0) := by rw [w64 _ (by omega) (by omega)]
    have w5 : wrap64 (b - a + ((e.f2.size : Int) - (e.f1 - e.f0))) = (e.f0 - a + b + (e.f2.size : Int)) - e.f1 := by rw [w64 _ (by omega) (by omega)]; omega
    have w6 : wrap64 ((p.length : Int) + 1) = ((p ++ [e]).length : Int) := by rw [w64 _ (by omega) (by omega), snoc_len]
    rw [w1, w2, w3, w4, w5, w6]
    have hl2 : ((p ++ e :: q).length : Int) = (((p ++ [e]) ++ q).length : Int) := by rw [← mid_assoc]
    rw [hl2, mid_assoc p e q]
    rw [ih (p ++ [e]) (out ++ [_]) k e.f1 (e.f0 - a + b + (e.f2.size : Int)) (by omega) (by rw [← mid_assoc]; exact hb) (by simp; omega) (by omega) (by omega) h4 (by omega)]
    simp [tX]
theorem Turn_yes (s : ByteArray) (l : List X) (k : Nat) (hs : s.size ≤ 140737488355328) (hk : l.length < k) (hl : l.length ≤ 4398046511103) (h : rt s.size 0 l = true) (hz : s.size + Ed.sz (tL l) ≤ 140737488355328) : edits_Turn.f k s l = some (tX s 0 0 l, 0) := by
  unfold edits_Turn.f
  rw [Right_eq _ _ _ hk (by omega), h]
  simp only [Option.bind_some, if_true]
  have := Turn_l0 s hs l [] [] k 0 0 hk (by simpa using hl) (by simpa using hl) (Int.le_refl 0) (Int.le_refl 0) h (by omega)
  simpa using this
theorem Turn_no (s : ByteArray) (l : List X) (k : Nat) (hk : l.length < k) (hl : l.length ≤ 4398046511104) (h : rt s.size 0 l = false) : edits_Turn.f k s l = some ([], 2) := by
  unfold edits_Turn.f
  rw [Right_eq _ _ _ hk hl, h]
  simp
theorem toList_eq (b : ByteArray) : b.toList = B b := ByteArray.toList_eq b
theorem j1_true (k : Nat) (s t : ByteArray) (u : List X) (hk : 12 ≤ k) (h : frisketref01_Apply.f (k - 1) t u = some s) : frisketlaw01_EditsApply.j1 k s t u false = some true := by
  obtain ⟨k, rfl⟩ : ∃ m, k = m + 1 := ⟨k - 1, by omega⟩
  simp only [frisketlaw01_EditsApply.j1]
  rw [if_neg (by simp), show k + 1 - 1 = k from rfl] at *
  rw [h]
  simp only [Option.bind_some]
  rw [if_pos trivial, awake_eq k (by omega)]
  rfl
theorem EditsApply_pure (s : ByteArray) (l : List X) (hs : s.size ≤ 140737488351232) (hb0 : l.length * 32 ≤ 140737488351232) : ∃ k, frisketlaw01_EditsApply.f k s l = some true := by
  have hb : l.length ≤ 4398046511103 := by omega
  refine ⟨l.length + 40, ?_⟩
  have hj0t : frisketlaw01_EditsApply.j0 (l.length + 40) s l true = some true := by
    rw [show l.length + 40 = l.length + 39 + 1 from rfl]
    simp only [frisketlaw01_EditsApply.j0, if_true]
    rw [awake_eq _ (by omega)]
    rfl
  unfold frisketlaw01_EditsApply.f
  by_cases c1 : (s.size : Int) > 300
  · rw [if_pos c1]; exact hj0t
  rw [if_neg c1, Great_eq l _ (by omega) (by omega)]
  simp only [Option.bind_some]
  cases hg : gr l with
  | true => exact hj0t
  | false =>
    obtain ⟨g1, g2⟩ := gr_len hg
    have hz := sz_le g2
    rw [show l.length + 40 = l.length + 39 + 1 from rfl]
    simp only [frisketlaw01_EditsApply.j0]
    rw [if_neg (by simp)]
    cases hr : rt s.size 0 l with
    | false =>
      rw [Apply_no s l _ (by omega) (by omega) hr, Turn_no s l _ (by omega) (by omega) hr]
      simp only [Option.bind_some]
      rw [refRight_eq _ _ _ (by omega) (by omega), Right_eq _ _ _ (by omega) (by omega), hr]
      simp only [Option.bind_some]
      rw [if_neg (by simp), if_neg (by simp), if_pos (by rw [toList_eq]), if_pos trivial, if_pos (by simp), if_pos trivial, awake_eq _ (by omega)]
      rfl
    | true =>
      have hR := rt_R s.size l 0 (Int.le_refl 0) hr
      obtain ⟨t1, t2⟩ := Ed.tn_ok s.size (B s) (B_size s) (tL l) 0 0 [] (Nat.zero_le _) hR rfl
      simp only [List.nil_append, List.drop_zero] at t1 t2
      have hap := Ed.ap_len s.size (B s) (B_size s) (tL l) 0 (Nat.zero_le _) hR
      rw [Apply_yes s l _ (by omega) (by omega) hr (by omega), Turn_yes s l _ (by omega) (by omega) (by omega) hr (by omega)]
      simp only [Option.bind_some]
      rw [refRight_eq _ _ _ (by omega) (by omega), Right_eq _ _ _ (by omega) (by omega), hr]
      simp only [Option.bind_some]
      rw [if_neg (by simp), if_pos trivial, refApply_eq s l _ (by omega) (by omega) hr (by omega)]
      simp only [Option.bind_some]
      have hlen := tX_len s l 0 0
      rw [if_pos trivial, if_pos trivial, if_pos trivial, if_pos (by omega)]
      have htn := tX_tn s s.size l 0 0 (Int.le_refl 0) (Int.le_refl 0) hr
      have hT : (⟨(Ed.ap (B s) 0 (tL l)).toArray⟩ : ByteArray).size = (Ed.ap (B s) 0 (tL l)).length := by simp [ByteArray.size]
      have hrt2 : rt ((⟨(Ed.ap (B s) 0 (tL l)).toArray⟩ : ByteArray).size : Int) 0 (tX s 0 0 l) = true := by
        refine tX_rt s s.size _ l 0 0 (Int.le_refl 0) (Int.le_refl 0) hr ?_ (by omega)
        rw [htn, Int.toNat_natCast, hT]
        exact t1
      rw [refRight_eq _ _ _ (by omega) (by omega), hrt2]
      simp only [Option.bind_some, Bool.not_true]
      refine j1_true _ _ _ _ (by omega) ?_
      have hz2 : Ed.sz (tL (tX s 0 0 l)) ≤ s.size := by
        rw [htn]
        have := Ed.sz_tn s.size (B s) (B_size s) (tL l) 0 0 (Nat.zero_le _) hR
        simpa using this
      rw [refApply_eq _ (tX s 0 0 l) _ (by omega) (by omega) hrt2 (by
        rw [hT]; omega)]
      rw [htn, show B (⟨(Ed.ap (B s) 0 (tL l)).toArray⟩ : ByteArray) = Ed.ap (B s) 0 (tL l) from B_mk _]
      rw [show Int.toNat 0 = 0 from rfl, t2, mk_B]
end Go.Proofs.Ytgdkdamikcnjhaa.PEdits
