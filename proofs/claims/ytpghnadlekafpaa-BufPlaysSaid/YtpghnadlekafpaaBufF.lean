/- Right edits, what they make of a text, what turns them: the printed functions said over plain lists (layer 2's part). -/
import Derived.Test.YtpghnadlekafpaaBufB
namespace Go.Proofs.Ytpghnadlekafpaa.PBuf
open Go.RowKit Go.Proofs.YtpghnadlekafpaaW.PrintWords Go.Proofs.YtpghnadlekafpaaW.PrintLast
set_option linter.unusedVariables false
set_option linter.unusedSimpArgs false
abbrev B (b : ByteArray) : List UInt8 := b.data.toList
theorem B_size (b : ByteArray) : (B b).length = b.size := by simp [B]
theorem B_ext (b : ByteArray) (i j : Nat) : B (b.extract i j) = ((B b).drop i).take (j - i) := by
  simp [B, ByteArray.data_extract]
theorem B_app (a b : ByteArray) : B (a ++ b) = B a ++ B b := by simp [B]
theorem B_mk (l : List UInt8) : B ⟨l.toArray⟩ = l := by simp [B]
theorem B_inj {a b : ByteArray} (h : B a = B b) : a = b := by
  have : a.data = b.data := Array.toList_inj.1 h
  cases a; cases b; simp_all
theorem mk_B (b : ByteArray) : (⟨(B b).toArray⟩ : ByteArray) = b := by simp [B]
def tE (e : X) : Ed.E := (e.f0.toNat, e.f1.toNat, B e.f2)
def tL (l : List X) : List Ed.E := l.map tE
theorem rt_R (n : Nat) : ∀ (l : List X) (a : Int), 0 ≤ a → rt n a l = true → Ed.R n a.toNat (tL l) := by
  intro l
  induction l with
  | nil => intro a _ _; trivial
  | cons e l ih =>
    intro a ha h
    obtain ⟨h1, h2, h3, h4⟩ := rt_cons h
    exact ⟨by simp only [tE]; omega, by simp only [tE]; omega, by simp only [tE]; omega, ih e.f1 (by omega) h4⟩
/-- All numbers of right edits are numbers of places. -/
theorem rt_pos {n : Int} : ∀ {l : List X} {a : Int}, 0 ≤ a → rt n a l = true → ∀ e ∈ l, 0 ≤ e.f0 ∧ e.f0 ≤ e.f1 ∧ e.f1 ≤ n := by
  intro l
  induction l with
  | nil => intro a _ _ e he; simp at he
  | cons x l ih =>
    intro a ha h e he
    obtain ⟨h1, h2, h3, h4⟩ := rt_cons h
    rcases List.mem_cons.1 he with rfl | he
    · exact ⟨by omega, h2, h3⟩
    · exact ih (by omega) h4 e he
theorem sz_le {l : List X} (h : ∀ e ∈ l, e.f2.size ≤ 100) : Ed.sz (tL l) ≤ 100 * l.length := by
  induction l with
  | nil => simp [Ed.sz, tL]
  | cons e l ih =>
    have h1 := h e List.mem_cons_self
    have h2 := ih (fun x hx => h x (List.mem_cons_of_mem _ hx))
    have h3 : Ed.sz (tL (e :: l)) = e.f2.size + Ed.sz (tL l) := by simp [Ed.sz, tL, tE, B]
    rw [h3, List.length_cons]
    omega
theorem tL_len (l : List X) : (tL l).length = l.length := by simp [tL]
theorem tL_app (p q : List X) : tL (p ++ q) = tL p ++ tL q := by simp [tL]
/-- The reference's Apply: from the last one on. -/
theorem refApply_l0 : ∀ (n : Nat) (p q : List X) (k : Nat) (x : ByteArray), p.length = n → p.length < k → (p ++ q).length ≤ 4398046511104 → (∀ e ∈ p, 0 ≤ e.f0 ∧ 0 ≤ e.f1) → Ed.okR 9223372036854775807 (B x) (tL p) → (∀ e ∈ p, ∀ y : List UInt8, True) →
    (∀ e ∈ p, e.f0 ≤ e.f1) → frisketref01_Apply.l0 k x (p ++ q) ((p.length : Int) - 1) = some ⟨((tL p).foldr Ed.st (B x)).toArray⟩ := by
  intro n
  induction n with
  | zero =>
    intro p q k x hn hk hb _ _ _ _
    obtain rfl : p = [] := List.length_eq_zero_iff.1 hn
    obtain ⟨k, rfl⟩ : ∃ m, k = m + 1 := ⟨k - 1, by simp at hk; omega⟩
    simp only [frisketref01_Apply.l0]
    rw [if_neg (by simp)]
    simp only [tL, List.map_nil, List.foldr_nil, mk_B]
  | succ n ih =>
    intro p q k x hn hk hb hp hok _ hle
    obtain ⟨p', e, rfl⟩ : ∃ p' e, p = p' ++ [e] := ⟨p.dropLast, p.getLast (by intro h; simp [h] at hn), (List.dropLast_concat_getLast _).symm⟩
    obtain ⟨k, rfl⟩ : ∃ m, k = m + 1 := ⟨k - 1, by omega⟩
    have hl := snoc_len p' e
    have hl2 : (p' ++ [e] ++ q).length = p'.length + 1 + q.length := by simp; omega
    have hok' : Ed.okR 9223372036854775807 (B x) (tL p' ++ [tE e]) := by simpa [tL] using hok
    obtain ⟨k1, ⟨k2, k3⟩, k4⟩ := Ed.okR_snoc _ _ _ _ hok'
    have k2' : e.f0.toNat ≤ x.size := by have := k2; simp only [tE, B_size] at this; exact this
    have k3' : e.f1.toNat ≤ x.size := by have := k3; simp only [tE, B_size] at this; exact this
    have k4' : x.size + e.f2.size ≤ 9223372036854775807 := by have := k4; simp only [tE, B_size] at this; exact this
    obtain ⟨m1, m2⟩ := hp e (by simp)
    have m3 := hle e (by simp)
    have hi : (((p' ++ [e]).length : Int) - 1) = (p'.length : Int) := by omega
    rw [hi]
    have hr : rd_T40 (p' ++ [e] ++ q) (p'.length : Int) = e := by rw [List.append_assoc]; exact rd_mid p' e q
    simp only [frisketref01_Apply.l0]
    rw [hr, if_pos (by omega), if_pos (by omega), if_pos (by omega), if_pos m1, if_pos (by omega)]
    have s1 : (x.extract 0 e.f0.toNat).size = e.f0.toNat := by rw [ByteArray.size_extract]; omega
    have s2 : (x.extract e.f1.toNat x.size).size = x.size - e.f1.toNat := by rw [ByteArray.size_extract]; omega
    rw [if_pos (by omega), if_pos m2, if_pos (by omega), if_pos (by rw [ByteArray.size_append]; omega)]
    rw [w64 _ (by omega) (by omega)]
    have hst : B (x.extract 0 e.f0.toNat ++ e.f2 ++ x.extract e.f1.toNat x.size) = Ed.st (tE e) (B x) := by
      rw [B_app, B_app, B_ext, B_ext]
      simp only [Ed.st, tE, List.drop_zero, Nat.sub_zero]
      rw [List.take_of_length_le (l := (B x).drop e.f1.toNat) (by simp [B])]
    have := ih p' ([e] ++ q) k (x.extract 0 e.f0.toNat ++ e.f2 ++ x.extract e.f1.toNat x.size) (by simp at hn; omega) (by simp at hk; omega) (by simpa using hb) (fun z hz => hp z (by simp [hz])) (by rw [hst]; exact k1) (fun _ _ _ => trivial) (fun z hz => hle z (by simp [hz]))
    rw [hst] at this
    rw [List.append_assoc, this]
    simp [tL, List.foldr_append]
theorem refApply_eq (s : ByteArray) (l : List X) (k : Nat) (hk : l.length < k) (hb : l.length ≤ 4398046511104) (h : rt s.size 0 l = true) (hz : s.size + Ed.sz (tL l) ≤ 9223372036854775807) : frisketref01_Apply.f k s l = some ⟨(Ed.ap (B s) 0 (tL l)).toArray⟩ := by
  unfold frisketref01_Apply.f
  rw [w64 _ (by omega) (by omega)]
  have hR := rt_R s.size l 0 (Int.le_refl 0) h
  have hp := rt_pos (Int.le_refl 0) h
  have := refApply_l0 l.length l [] k s rfl hk (by simpa using hb) (fun e he => ⟨(hp e he).1, by have := hp e he; omega⟩) (Ed.okR_of s.size _ (B s) (B_size s) (tL l) 0 (Nat.zero_le _) hR hz) (fun _ _ _ => trivial) (fun e he => (hp e he).2.1)
  rw [List.append_nil] at this
  rw [this, Ed.foldr_ap s.size (B s) (B_size s) (tL l) hR]
def tX (s : ByteArray) : Int → Int → List X → List X
  | _, _, [] => []
  | a, b, e :: l => (⟨e.f0 - a + b, e.f0 - a + b + (e.f2.size : Int), s.extract e.f0.toNat e.f1.toNat⟩ : X) :: tX s e.f1 (e.f0 - a + b + (e.f2.size : Int)) l
theorem tX_len (s : ByteArray) : ∀ (l : List X) (a b : Int), (tX s a b l).length = l.length := by
  intro l
  induction l with
  | nil => intro a b; rfl
  | cons e l ih => intro a b; simp [tX, ih]
theorem tX_tn (s : ByteArray) (n : Int) : ∀ (l : List X) (a b : Int), 0 ≤ a → 0 ≤ b → rt n a l = true → tL (tX s a b l) = Ed.tn (B s) a.toNat b.toNat (tL l) := by
  intro l
  induction l with
  | nil => intro a b _ _ _; rfl
  | cons e l ih =>
    intro a b ha hb h
    obtain ⟨h1, h2, h3, h4⟩ := rt_cons h
    have e1 : (e.f0 - a + b).toNat = e.f0.toNat - a.toNat + b.toNat := by omega
    have e2 : (e.f0 - a + b + (e.f2.size : Int)).toNat = e.f0.toNat - a.toNat + b.toNat + (B e.f2).length := by rw [B_size]; omega
    have := ih e.f1 (e.f0 - a + b + (e.f2.size : Int)) (by omega) (by omega) h4
    rw [e2] at this
    show tE _ :: tL (tX s e.f1 (e.f0 - a + b + (e.f2.size : Int)) l) = _
    rw [this]
    simp only [tL, List.map_cons, Ed.tn, tE]
    rw [e1, e2, B_ext]
theorem tX_rt (s : ByteArray) (n : Int) (m : Int) : ∀ (l : List X) (a b : Int), 0 ≤ a → 0 ≤ b → rt n a l = true → Ed.R m.toNat b.toNat (tL (tX s a b l)) → 0 ≤ m → rt m b (tX s a b l) = true := by
  intro l
  induction l with
  | nil => intro a b _ _ _ _ _; rfl
  | cons e l ih =>
    intro a b ha hb h hR hm
    obtain ⟨h1, h2, h3, h4⟩ := rt_cons h
    obtain ⟨r1, r2, r3, r4⟩ := hR
    simp only [tE] at r1 r2 r3 r4
    simp only [tX, rt]
    rw [if_neg (by omega), if_neg (by omega), if_neg (by omega)]
    exact ih e.f1 _ (by omega) (by omega) h4 r4 hm
theorem Turn_l0 (s : ByteArray) (hs : s.size ≤ 140737488355328) : ∀ (q p out : List X) (k : Nat) (a b : Int), q.length < k → (p ++ q).length ≤ 4398046511103 → out.length + q.length ≤ 4398046511103 → 0 ≤ a → 0 ≤ b → rt s.size a q = true → b + (s.size - a) + Ed.sz (tL q) ≤ 1152921504606846976 →
    edits_Turn.l0 k s out (b - a) (p ++ q) ((p ++ q).length : Int) (p.length : Int) = some (out ++ tX s a b q, 0) := by
  intro q
  induction q with
  | nil =>
    intro p out k a b hk hb ho ha hb0 h hz
    obtain ⟨k, rfl⟩ : ∃ m, k = m + 1 := ⟨k - 1, by simp at hk; omega⟩
    simp only [edits_Turn.l0]
    rw [if_neg (by simp)]
    simp [tX]
  | cons e q ih =>
    intro p out k a b hk hb ho ha hb0 h hz
    obtain ⟨k, rfl⟩ : ∃ m, k = m + 1 := ⟨k - 1, by simp at hk; omega⟩
    have hl := mid_len p e q
    obtain ⟨h1, h2, h3, h4⟩ := rt_cons h
    have hz' : b + (s.size - a) + ((e.f2.size : Int) + Ed.sz (tL q)) ≤ 1152921504606846976 := by simpa [Ed.sz, tL, tE, B] using hz
    simp only [List.length_cons] at ho hk
    simp only [edits_Turn.l0]
    rw [if_pos (by omega), if_pos (by omega), if_pos (by omega)]
    rw [show rd_T40 (p ++ e :: q) (p.length : Int) = e from rd_mid p e q]
    rw [if_pos (by omega), if_pos h2, if_pos h3, if_pos (by omega)]
    have w1 : wrap64 (e.f0 + (b - a)) = e.f0 - a + b := by rw [w64 _ (by omega) (by omega)]; omega
    have w2 : wrap64 (e.f0 - a + b + (e.f2.size : Int)) = e.f0 - a + b + (e.f2.size : Int) := by rw [w64 _ (by omega) (by omega)]
    have w3 : wrap64 (e.f1 - e.f0) = e.f1 - e.f0 := by rw [w64 _ (by omega) (by omega)]
    have w4 : wrap64 ((e.f2.size : Int) - (e.f1 - e.f0)) = (e.f2.size : Int) - (e.f1 - e.f0) := by rw [w64 _ (by omega) (by omega)]
    have w5 : wrap64 (b - a + ((e.f2.size : Int) - (e.f1 - e.f0))) = (e.f0 - a + b + (e.f2.size : Int)) - e.f1 := by rw [w64 _ (by omega) (by omega)]; omega
    have w6 : wrap64 ((p.length : Int) + 1) = ((p ++ [e]).length : Int) := by rw [w64 _ (by omega) (by omega), snoc_len]
    rw [w1, w2, w3, w4, w5, w6]
    have hl2 : ((p ++ e :: q).length : Int) = (((p ++ [e]) ++ q).length : Int) := by rw [← mid_assoc]
    rw [hl2, mid_assoc p e q]
    rw [ih (p ++ [e]) (out ++ [_]) k e.f1 (e.f0 - a + b + (e.f2.size : Int)) (by omega) (by rw [← mid_assoc]; exact hb) (by simp; omega) (by omega) (by omega) h4 (by omega)]
    simp [tX]
theorem Turn_yes (s : ByteArray) (l : List X) (k : Nat) (hs : s.size ≤ 140737488355328) (hk : l.length < k) (hl : l.length ≤ 4398046511103) (h : rt s.size 0 l = true) (hz : s.size + Ed.sz (tL l) ≤ 140737488355328) : edits_Turn.f k s l = some (tX s 0 0 l, 0) := by
  unfold edits_Turn.f
  rw [Right_eq _ _ _ hk (by omega), h]
  simp only [Option.bind_some, if_true]
  have := Turn_l0 s hs l [] [] k 0 0 hk (by simpa using hl) (by simpa using hl) (Int.le_refl 0) (Int.le_refl 0) h (by omega)
  simpa using this
theorem Turn_no (s : ByteArray) (l : List X) (k : Nat) (hk : l.length < k) (hl : l.length ≤ 4398046511104) (h : rt s.size 0 l = false) : edits_Turn.f k s l = some ([], 2) := by
  unfold edits_Turn.f
  rw [Right_eq _ _ _ hk hl, h]
  simp
end Go.Proofs.Ytpghnadlekafpaa.PBuf
