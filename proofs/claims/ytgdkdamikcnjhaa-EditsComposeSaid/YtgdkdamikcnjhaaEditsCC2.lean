/- EditsCompose's functions, said over plain lists of pieces. -/
import Derived.Test.YtgdkdamikcnjhaaEditsCC1
import Derived.Test.YtgdkdamikcnjhaaEdP
import Derived.Test.YtgdkdamikcnjhaaPEditsCx8
namespace Go.Proofs.Ytgdkdamikcnjhaa.PEditsC
open Go.RowKit Go.Proofs.YtgdkdamikcnjhaaW.PrintWords Go.Proofs.YtgdkdamikcnjhaaW.PrintLast Go.Proofs.YtgdkdamikcnjhaaW.PrintMore
set_option linter.unusedVariables false
set_option linter.unusedSimpArgs false
abbrev Pc := S52
theorem rdP_mid (p : List Pc) (e : Pc) (q : List Pc) : rd_T52 (p ++ e :: q) (p.length : Int) = e := by
  simp [rd_T52, List.getD]
def tP (p : Pc) : Ed.PP := (p.f0, p.f1.toNat, B p.f2)
def tLP (l : List Pc) : List Ed.PP := l.map tP
theorem tLP_app (l m : List Pc) : tLP (l ++ m) = tLP l ++ tLP m := by simp [tLP]
def pcX (s : ByteArray) : List X → Int → List Pc
  | [], a => [⟨true, a, s.extract a.toNat s.size⟩]
  | e :: l, a => ⟨true, a, s.extract a.toNat e.f0.toNat⟩ :: ⟨false, e.f0, e.f2⟩ :: pcX s l e.f1
theorem pcX_eq (s : ByteArray) : ∀ (l : List X) (a : Int), tLP (pcX s l a) = Ed.pc (B s) a.toNat (tL l) := by
  intro l
  induction l with
  | nil =>
    intro a
    simp only [pcX, tLP, List.map_cons, List.map_nil, tP, tL, Ed.pc, B_ext]
    rw [List.take_of_length_le (by simp [B])]
  | cons e l ih =>
    intro a
    have i := ih e.f1
    simp only [tLP, tL] at i
    simp only [pcX, tLP, List.map_cons, tP, tL, Ed.pc, B_ext, tE, i]
theorem pcX_pos (s : ByteArray) (n : Int) : ∀ (l : List X) (a : Int), 0 ≤ a → rt n a l = true → ∀ p ∈ pcX s l a, 0 ≤ p.f1 := by
  intro l
  induction l with
  | nil => intro a ha _ p hp; simp [pcX] at hp; rw [hp]; exact ha
  | cons e l ih =>
    intro a ha h p hp
    obtain ⟨h1, h2, h3, h4⟩ := rt_cons h
    simp only [pcX, List.mem_cons] at hp
    rcases hp with rfl | rfl | hp
    · exact ha
    · show 0 ≤ e.f0; omega
    · exact ih e.f1 (by omega) h4 p hp
theorem pcX_len (s : ByteArray) : ∀ (l : List X) (a : Int), (pcX s l a).length = 2 * l.length + 1 := by
  intro l
  induction l with
  | nil => intro a; rfl
  | cons e l ih => intro a; simp only [pcX, List.length_cons, ih]; omega
theorem pieces_l0 (s : ByteArray) (hs : s.size ≤ 1000000) : ∀ (q p : List X) (out : List Pc) (k : Nat) (a : Int), q.length < k → (p ++ q).length ≤ 4398046511103 → out.length + 2 * q.length + 1 < 4398046511104 → 0 ≤ a → a ≤ (s.size : Int) → rt s.size a q = true →
    edits_pieces.l0 k s out a (p ++ q) ((p ++ q).length : Int) (p.length : Int) = some (out ++ pcX s q a) := by
  intro q
  induction q with
  | nil =>
    intro p out k a hk hb ho ha ha2 _
    obtain ⟨k, rfl⟩ : ∃ m, k = m + 1 := ⟨k - 1, by simp at hk; omega⟩
    simp only [edits_pieces.l0, pcX]
    simp only [List.length_nil] at ho
    rw [if_neg (by simp), if_pos ha, if_pos ha2, if_pos (by omega)]
  | cons e q ih =>
    intro p out k a hk hb ho ha ha2 h
    obtain ⟨k, rfl⟩ : ∃ m, k = m + 1 := ⟨k - 1, by simp at hk; omega⟩
    have hl := mid_len p e q
    obtain ⟨h1, h2, h3, h4⟩ := rt_cons h
    simp only [List.length_cons] at ho hk
    simp only [edits_pieces.l0]
    rw [if_pos (by omega), if_pos (by omega), if_pos (by omega)]
    rw [show rd_T36 (p ++ e :: q) (p.length : Int) = e from rd_mid p e q]
    rw [if_pos ha, if_pos h1, if_pos (by omega), Option.bind_some, if_pos (by simp; omega)]
    have w6 : wrap64 ((p.length : Int) + 1) = ((p ++ [e]).length : Int) := by rw [w64 _ (by omega) (by omega), snoc_len]
    have hl2 : ((p ++ e :: q).length : Int) = (((p ++ [e]) ++ q).length : Int) := by rw [← mid_assoc]
    rw [w6, hl2, mid_assoc p e q, ih (p ++ [e]) _ k e.f1 (by omega) (by rw [← mid_assoc]; exact hb) (by simp; omega) (by omega) h3 h4]
    simp [pcX]
/-- What is cut. -/
def ctX (f t : Int) : List Pc → Int → List Pc
  | [], _ => []
  | p :: q, k => (if mx (f - k) 0 < mn (t - k) (p.f2.size : Int) then [(⟨p.f0, if p.f0 = true then p.f1 + mx (f - k) 0 else p.f1, p.f2.extract (mx (f - k) 0).toNat (mn (t - k) (p.f2.size : Int)).toNat⟩ : Pc)] else []) ++ ctX f t q (k + (p.f2.size : Int))
theorem mx0 (f k : Int) (hf : 0 ≤ f) (hk : 0 ≤ k) : mx (f - k) 0 = ((f.toNat - k.toNat : Nat) : Int) := by
  unfold mx; split <;> omega
theorem mn0 (t k : Int) (n : Nat) (h : k ≤ t) (hk : 0 ≤ k) : mn (t - k) (n : Int) = ((min (t.toNat - k.toNat) n : Nat) : Int) := by
  unfold mn; split <;> omega
theorem mn1 (t k : Int) (n : Nat) (h : t ≤ k) : mn (t - k) (n : Int) ≤ 0 := by
  unfold mn; split <;> omega
theorem ctX_eq (f t : Int) (hf : 0 ≤ f) (ht : 0 ≤ t) : ∀ (l : List Pc) (k : Int), 0 ≤ k → (∀ p ∈ l, 0 ≤ p.f1) → tLP (ctX f t l k) = Ed.ct f.toNat t.toNat (tLP l) k.toNat := by
  intro l
  induction l with
  | nil => intro k _ _; rfl
  | cons p q ih =>
    intro k hk hp
    have i := ih (k + (p.f2.size : Int)) (by omega) (fun x hx => hp x (List.mem_cons_of_mem _ hx))
    have e1 : (k + (p.f2.size : Int)).toNat = k.toNat + (B p.f2).length := by rw [B_size]; omega
    rw [e1] at i
    have hp0 := hp p List.mem_cons_self
    have hcons : tLP (p :: q) = tP p :: tLP q := rfl
    rw [hcons, show tP p = (p.f0, p.f1.toNat, B p.f2) from rfl]
    simp only [ctX, Ed.ct, tLP_app, i]
    congr 1
    have hx := mx0 f k hf hk
    simp only [B_size]
    by_cases htk : t ≤ k
    · have := mn1 t k p.f2.size htk
      rw [if_neg (by omega), if_neg (by omega)]
      rfl
    · have hm := mn0 t k p.f2.size (by omega) hk
      rw [hx, hm]
      by_cases c : f.toNat - k.toNat < min (t.toNat - k.toNat) p.f2.size
      · rw [if_pos (by omega), if_pos c]
        simp only [tLP, List.map_cons, List.map_nil, tP, B_ext, Int.toNat_natCast]
        by_cases hk0 : p.f0 = true
        · rw [if_pos hk0, if_pos hk0, show (p.f1 + ((f.toNat - k.toNat : Nat) : Int)).toNat = p.f1.toNat + (f.toNat - k.toNat) from by omega]
        · rw [if_neg hk0, if_neg hk0]
      · rw [if_neg (by omega), if_neg c]
        rfl
theorem ctX_pos (f t : Int) (hf : 0 ≤ f) : ∀ (l : List Pc) (k : Int), 0 ≤ k → (∀ p ∈ l, 0 ≤ p.f1) → ∀ p ∈ ctX f t l k, 0 ≤ p.f1 := by
  intro l
  induction l with
  | nil => intro k _ _ p hp; simp [ctX] at hp
  | cons p q ih =>
    intro k hk hp x hx
    simp only [ctX, List.mem_append] at hx
    have hp0 := hp p List.mem_cons_self
    have hm := mx0 f k hf hk
    rcases hx with hx | hx
    · split at hx
      · simp only [List.mem_singleton] at hx
        rw [hx]
        show 0 ≤ if p.f0 = true then p.f1 + mx (f - k) 0 else p.f1
        split <;> omega
      · simp at hx
    · exact ih _ (by omega) (fun y hy => hp y (List.mem_cons_of_mem _ hy)) x hx
theorem ctX_len (f t : Int) : ∀ (l : List Pc) (k : Int), (ctX f t l k).length ≤ l.length := by
  intro l
  induction l with
  | nil => intro k; simp [ctX]
  | cons p q ih =>
    intro k
    have := ih (k + (p.f2.size : Int))
    simp only [ctX, List.length_append, List.length_cons]
    split <;> simp <;> omega
def tz : List Pc → Nat
  | [] => 0
  | p :: q => p.f2.size + tz q
theorem tz_eq (l : List Pc) : (Ed.tx (tLP l)).length = tz l := by
  induction l with
  | nil => rfl
  | cons p q ih =>
    have hcons : tLP (p :: q) = tP p :: tLP q := rfl
    rw [hcons]
    simp only [Ed.tx, List.length_append, ih, tz, tP, B_size]
theorem midP_assoc (p : List Pc) (e : Pc) (q : List Pc) : p ++ e :: q = (p ++ [e]) ++ q := by simp
theorem snocP_len (p : List Pc) (e : Pc) : ((p ++ [e]).length : Int) = (p.length : Int) + 1 := by simp
theorem midP_len (p : List Pc) (e : Pc) (q : List Pc) : (p ++ e :: q).length = p.length + q.length + 1 := by simp; omega
theorem cut_l0 (f t : Int) (hf : 0 ≤ f) (hf2 : f ≤ 1000000000) (ht : 0 ≤ t) (ht2 : t ≤ 1000000000) : ∀ (q p out : List Pc) (k : Nat) (a : Int), q.length < k → (p ++ q).length ≤ 4398046511103 → out.length + q.length < 4398046511104 → 0 ≤ a → a + tz q ≤ 1000000000 → (∀ p ∈ q, 0 ≤ p.f1 ∧ p.f1 ≤ 1000000000) →
    edits_cut.l0 k f t out a (p ++ q) ((p ++ q).length : Int) (p.length : Int) = some (out ++ ctX f t q a) := by
  intro q
  induction q with
  | nil =>
    intro p out k a hk hb ho ha _ _
    obtain ⟨k, rfl⟩ : ∃ m, k = m + 1 := ⟨k - 1, by simp at hk; omega⟩
    simp only [edits_cut.l0, ctX]
    rw [if_neg (by simp), List.append_nil]
  | cons e q ih =>
    intro p out k a hk hb ho ha hz hp
    obtain ⟨k, rfl⟩ : ∃ m, k = m + 1 := ⟨k - 1, by simp at hk; omega⟩
    have hl := midP_len p e q
    simp only [List.length_cons] at ho hk
    simp only [tz] at hz
    have hp0 := hp e List.mem_cons_self
    have w6 : wrap64 ((p.length : Int) + 1) = ((p ++ [e]).length : Int) := by rw [w64 _ (by omega) (by omega), snocP_len]
    have hl2 : ((p ++ e :: q).length : Int) = (((p ++ [e]) ++ q).length : Int) := by rw [← midP_assoc]
    have step := fun o ho => ih (p ++ [e]) o k (a + (e.f2.size : Int)) (by omega) (by rw [← midP_assoc]; exact hb) ho (by omega) (by omega) (fun x hx => hp x (List.mem_cons_of_mem _ hx))
    rw [← hl2, ← midP_assoc] at step
    have wa : wrap64 (a + (e.f2.size : Int)) = a + (e.f2.size : Int) := w64 _ (by omega) (by omega)
    have wf : wrap64 (f - a) = f - a := w64 _ (by omega) (by omega)
    have wt : wrap64 (t - a) = t - a := w64 _ (by omega) (by omega)
    rw [edits_cut.l0.eq_2]
    rw [if_pos (by omega), if_pos (by omega), if_pos (by omega)]
    rw [show rd_T52 (p ++ e :: q) (p.length : Int) = e from rdP_mid p e q]
    rw [w6, wa, wf, wt]
    simp only [ctX]
    have hm := mx0 f a hf ha
    by_cases c : mx (f - a) 0 < mn (t - a) (e.f2.size : Int)
    · have hmn : mn (t - a) (e.f2.size : Int) ≤ (e.f2.size : Int) := by unfold mn; split <;> omega
      have ww : wrap64 (e.f1 + mx (f - a) 0) = e.f1 + mx (f - a) 0 := w64 _ (by omega) (by omega)
      rw [if_pos c, if_pos (by omega), if_pos (by omega), if_pos hmn, if_pos c, ww]
      cases hk0 : e.f0 with
      | true =>
        rw [if_pos rfl, if_pos (by omega), if_pos rfl, step _ (by simp; omega)]
        simp
      | false =>
        rw [if_neg (by simp), if_pos (by omega), if_neg (by simp), step _ (by simp; omega)]
        simp
    · rw [if_neg c, if_neg c, step _ (by omega), List.nil_append]
theorem cut_eq (l : List Pc) (f t : Int) (k : Nat) (hf : 0 ≤ f) (hf2 : f ≤ 1000000000) (ht : 0 ≤ t) (ht2 : t ≤ 1000000000) (hk : l.length < k) (hb : l.length ≤ 4398046511103) (hz : tz l ≤ 1000000000) (hp : ∀ p ∈ l, 0 ≤ p.f1 ∧ p.f1 ≤ 1000000000) : edits_cut.f k l f t = some (ctX f t l 0) := by
  unfold edits_cut.f
  have := cut_l0 f t hf hf2 ht ht2 l [] [] k 0 hk (by simpa using hb) (by simp; omega) (Int.le_refl 0) (by omega) hp
  simpa using this
/-- The edits between kept pieces, not yet lean. -/
def gpX (s : ByteArray) : List Pc → Int → ByteArray → List X
  | [], a, w => [⟨a, (s.size : Int), w⟩]
  | p :: q, a, w => if p.f0 = true then ⟨a, p.f1, w⟩ :: gpX s q (p.f1 + (p.f2.size : Int)) ⟨#[]⟩ else gpX s q a (w ++ p.f2)
theorem gpX_eq (s : ByteArray) : ∀ (q : List Pc) (a : Int) (w : ByteArray), 0 ≤ a → (∀ p ∈ q, 0 ≤ p.f1) → tL (gpX s q a w) = Ed.gp s.size a.toNat (B w) (tLP q) := by
  intro q
  induction q with
  | nil => intro a w _ _; simp [gpX, tL, tE, Ed.gp, tLP]
  | cons p q ih =>
    intro a w ha hp
    have hp0 := hp p List.mem_cons_self
    have hcons : tLP (p :: q) = tP p :: tLP q := rfl
    rw [hcons, show tP p = (p.f0, p.f1.toNat, B p.f2) from rfl]
    simp only [gpX, Ed.gp]
    by_cases hk : p.f0 = true
    · rw [if_pos hk, if_pos hk]
      have i := ih (p.f1 + (p.f2.size : Int)) ⟨#[]⟩ (by omega) (fun x hx => hp x (List.mem_cons_of_mem _ hx))
      have e1 : (p.f1 + (p.f2.size : Int)).toNat = p.f1.toNat + (B p.f2).length := by rw [B_size]; omega
      rw [e1] at i
      show tE _ :: tL _ = _
      rw [i]
      rfl
    · rw [if_neg hk, if_neg hk, ih a _ ha (fun x hx => hp x (List.mem_cons_of_mem _ hx)), B_app]
theorem gpX_pos (s : ByteArray) (n : Nat) : ∀ (q : List Pc) (a : Int) (w : ByteArray), 0 ≤ a → (∀ p ∈ q, 0 ≤ p.f1) → w.size + tz q ≤ n → ∀ e ∈ gpX s q a w, 0 ≤ e.f0 ∧ 0 ≤ e.f1 ∧ e.f2.size ≤ n := by
  intro q
  induction q with
  | nil => intro a w ha _ hn e he; simp [gpX] at he; simp only [tz] at hn; rw [he]; exact ⟨ha, by show (0 : Int) ≤ s.size; omega, by show w.size ≤ n; omega⟩
  | cons p q ih =>
    intro a w ha hp hn e he
    have hp0 := hp p List.mem_cons_self
    simp only [gpX] at he
    simp only [tz] at hn
    split at he
    · rcases List.mem_cons.1 he with rfl | he
      · exact ⟨ha, hp0, by show w.size ≤ n; omega⟩
      · exact ih _ ⟨#[]⟩ (by omega) (fun x hx => hp x (List.mem_cons_of_mem _ hx)) (by have : (⟨#[]⟩ : ByteArray).size = 0 := rfl; omega) e he
    · exact ih _ _ ha (fun x hx => hp x (List.mem_cons_of_mem _ hx)) (by rw [ByteArray.size_append]; omega) e he
theorem gpX_len (s : ByteArray) : ∀ (q : List Pc) (a : Int) (w : ByteArray), (gpX s q a w).length ≤ q.length + 1 := by
  intro q
  induction q with
  | nil => intro a w; simp [gpX]
  | cons p q ih =>
    intro a w
    simp only [gpX]
    split
    · simp only [List.length_cons]; have := ih (p.f1 + (p.f2.size : Int)) ⟨#[]⟩; omega
    · have := ih a (w ++ p.f2); simp only [List.length_cons]; omega
theorem R_rt (n : Nat) : ∀ (l : List X) (a : Int), (∀ e ∈ l, 0 ≤ e.f0 ∧ 0 ≤ e.f1) → 0 ≤ a → Ed.R n a.toNat (tL l) → rt n a l = true := by
  intro l
  induction l with
  | nil => intro a _ _ _; rfl
  | cons e l ih =>
    intro a hp ha h
    obtain ⟨h1, h2, h3, h4⟩ := h
    obtain ⟨p1, p2⟩ := hp e List.mem_cons_self
    simp only [tE] at h1 h2 h3 h4
    simp only [rt]
    rw [if_neg (by omega), if_neg (by omega), if_neg (by omega)]
    exact ih e.f1 (fun x hx => hp x (List.mem_cons_of_mem _ hx)) p2 h4
theorem lnL_split (s : ByteArray) (e : X) (l : List X) : lnL s (e :: l) = lnL s [e] ++ lnL s l := by
  rw [lnL_cons, lnL_cons]
  cases br s e <;> rfl
theorem fl_eq (s : ByteArray) (a t : Int) (w : ByteArray) (out : List X) (hs : s.size ≤ 1000000) (hw : w.size ≤ 1000000) (ha : 0 ≤ a) (h1 : a ≤ t) (h2 : t ≤ (s.size : Int)) (ho : out.length < 4398046511104) : edits_edits.fl s a t w out = some (out ++ lnL s [(⟨a, t, w⟩ : X)]) := by
  unfold edits_edits.fl
  rw [if_pos ⟨ha, h1, h2, ho⟩]
  have e1 := lean_f s ⟨a, t, w⟩ hs hw ha h1 h2
  have e2 := bare_f s ⟨a, t, w⟩ ha h1 h2
  dsimp only at e1
  rw [e1, Option.bind_some]
  dsimp only
  rw [e2, Option.bind_some, lnL_cons]
  cases br s (⟨a, t, w⟩ : X) with
  | true => simp [lnL]
  | false => simp [lnL]
theorem edits_g (s : ByteArray) (hs : s.size ≤ 1000000) : ∀ (q : List Pc) (a : Int) (w : ByteArray) (out : List X), Ed.wf (B s) a.toNat (tLP q) s.size → (∀ p ∈ q, 0 ≤ p.f1) → 0 ≤ a → w.size + tz q ≤ 1000000 → out.length + q.length < 4398046511103 →
    edits_edits.g s q a w out = some (out ++ lnL s (gpX s q a w)) := by
  intro q
  induction q with
  | nil =>
    intro a w out hw hp ha hz ho
    have h1 : a.toNat ≤ s.size := hw
    simp only [tz, List.length_nil] at hz ho
    simp only [edits_edits.g, gpX]
    exact fl_eq s a s.size w out hs (by omega) ha (by omega) (Int.le_refl _) (by omega)
  | cons p q ih =>
    intro a w out hw hp ha hz ho
    have hp0 := hp p List.mem_cons_self
    have hp1 : ∀ x ∈ q, 0 ≤ x.f1 := fun x hx => hp x (List.mem_cons_of_mem _ hx)
    have hcons : tLP (p :: q) = tP p :: tLP q := rfl
    rw [hcons] at hw
    simp only [tz, List.length_cons] at hz ho
    simp only [edits_edits.g, gpX]
    have hP : tP p = (p.f0, p.f1.toNat, B p.f2) := rfl
    rw [hP] at hw
    cases hk : p.f0 with
    | true =>
      rw [hk] at hw
      obtain ⟨w1, w2, w3, w4⟩ := Ed.wf_K.1 hw
      rw [B_size] at w3 w4
      rw [B_size] at w3
      rw [if_pos rfl, if_pos rfl, fl_eq s a p.f1 w out hs (by omega) ha (by omega) (by omega) (by omega), Option.bind_some]
      have e1 : (p.f1 + (p.f2.size : Int)).toNat = p.f1.toNat + p.f2.size := by omega
      have hle : (lnL s [(⟨a, p.f1, w⟩ : X)]).length ≤ 1 := lnL_len s _
      rw [w64 _ (by omega) (by omega), ih _ ⟨#[]⟩ _ (by rw [e1]; exact w4) hp1 (by omega) (by have : (⟨#[]⟩ : ByteArray).size = 0 := rfl; omega) (by simp only [List.length_append]; omega)]
      rw [lnL_split s _ (gpX s q _ _), List.append_assoc]
    | false =>
      rw [hk] at hw
      rw [if_neg (by simp), if_pos (show w.size + p.f2.size ≤ 140737488355328 by omega), if_neg (by simp)]
      exact ih a (w ++ p.f2) out (Ed.wf_N.1 hw) hp1 ha (by rw [ByteArray.size_append]; omega) (by omega)
/-- The pieces of what the second edits make. -/
def cmX (l : List Pc) (n : Int) : Int → List X → List Pc
  | a, [] => ctX a n l 0
  | a, e :: q => (ctX a e.f0 l 0 ++ [⟨false, 0, e.f2⟩]) ++ cmX l n e.f1 q
theorem cmX_eq (l : List Pc) (n : Int) (hn : 0 ≤ n) (hp : ∀ p ∈ l, 0 ≤ p.f1) : ∀ (q : List X) (a : Int), 0 ≤ a → rt n a q = true → tLP (cmX l n a q) = Ed.cm (tLP l) n.toNat a.toNat (tL q) := by
  intro q
  induction q with
  | nil => intro a ha _; exact ctX_eq a n ha hn l 0 (Int.le_refl 0) hp
  | cons e q ih =>
    intro a ha h
    obtain ⟨h1, h2, h3, h4⟩ := rt_cons h
    have hcons : tL (e :: q) = tE e :: tL q := rfl
    rw [hcons]
    simp only [cmX, Ed.cm, tLP_app, ih e.f1 (by omega) h4, ctX_eq a e.f0 ha (by omega) l 0 (Int.le_refl 0) hp]
    rfl
theorem cmX_pos (l : List Pc) (n : Int) (hn : 0 ≤ n) (hp : ∀ p ∈ l, 0 ≤ p.f1) : ∀ (q : List X) (a : Int), 0 ≤ a → rt n a q = true → ∀ p ∈ cmX l n a q, 0 ≤ p.f1 := by
  intro q
  induction q with
  | nil => intro a ha _; exact ctX_pos a n ha l 0 (Int.le_refl 0) hp
  | cons e q ih =>
    intro a ha h x hx
    obtain ⟨h1, h2, h3, h4⟩ := rt_cons h
    simp only [cmX, List.mem_append, List.mem_singleton] at hx
    rcases hx with (hx | hx) | hx
    · exact ctX_pos a e.f0 ha l 0 (Int.le_refl 0) hp x hx
    · rw [hx]; exact Int.le_refl 0
    · exact ih e.f1 (by omega) h4 x hx
theorem Compose_l0 (s : ByteArray) (l : List Pc) (made : ByteArray) (hb0 : l.length ≤ 1000) (hmade : made.size ≤ 1000000) (hz : tz l ≤ 1000000000) (hp : ∀ p ∈ l, 0 ≤ p.f1 ∧ p.f1 ≤ 1000000000) (r : List X) : ∀ (q p : List X) (out : List Pc) (k : Nat) (a : Int), q.length < k → (p ++ q).length ≤ 1000 → out.length + (l.length + 1) * (q.length + 1) ≤ 4398046500000 → 0 ≤ a → a ≤ (made.size : Int) → rt made.size a q = true → (out ++ cmX l made.size a q).length ≤ 4398046511104 →
    edits_edits.f s (out ++ cmX l made.size a q) = some r → edits_Compose.l0 (k + l.length + 1) s l made out a (p ++ q) ((p ++ q).length : Int) (p.length : Int) = some (r, 0) := by
  intro q
  induction q with
  | nil =>
    intro p out k a hk hb ho ha ha2 _ hcl h
    obtain ⟨k, rfl⟩ : ∃ m, k = m + 1 := ⟨k - 1, by simp at hk; omega⟩
    have hc := ctX_len a made.size l 0
    rw [show k + 1 + l.length + 1 = (k + l.length + 1) + 1 from by omega]
    simp only [List.length_nil, Nat.zero_add, Nat.mul_one] at ho
    rw [edits_Compose.l0.eq_2, if_neg (by simp), cut_eq l a made.size _ ha (by omega) (by omega) (by omega) (by omega) (by omega) hz hp, Option.bind_some, if_pos (by omega)]
    simp only [cmX] at h
    rw [h]
    rfl
  | cons e q ih =>
    intro p out k a hk hb ho ha ha2 hr hcl h
    obtain ⟨k, rfl⟩ : ∃ m, k = m + 1 := ⟨k - 1, by simp at hk; omega⟩
    have hl := mid_len p e q
    obtain ⟨h1, h2, h3, h4⟩ := rt_cons hr
    have hc := ctX_len a e.f0 l 0
    simp only [List.length_cons] at ho hk
    rw [Nat.mul_succ] at ho
    rw [show k + 1 + l.length + 1 = (k + l.length + 1) + 1 from by omega]
    rw [edits_Compose.l0.eq_2, if_pos (by omega), if_pos (by omega), if_pos (by omega)]
    rw [show rd_T36 (p ++ e :: q) (p.length : Int) = e from rd_mid p e q]
    rw [cut_eq l a e.f0 _ ha (by omega) (by omega) (by omega) (by omega) (by omega) hz hp, Option.bind_some, if_pos (by omega), Option.bind_some, Option.bind_some, if_pos (by simp; omega)]
    have w6 : wrap64 ((p.length : Int) + 1) = ((p ++ [e]).length : Int) := by rw [w64 _ (by omega) (by omega), snoc_len]
    have hl2 : ((p ++ e :: q).length : Int) = (((p ++ [e]) ++ q).length : Int) := by rw [← mid_assoc]
    have hcm : out ++ cmX l made.size a (e :: q) = (out ++ ctX a e.f0 l 0 ++ [⟨false, 0, e.f2⟩]) ++ cmX l made.size e.f1 q := by simp [cmX]
    rw [w6, hl2, mid_assoc p e q]
    rw [hcm] at h hcl
    exact ih (p ++ [e]) _ k e.f1 (by omega) (by rw [← mid_assoc]; exact hb) (by simp only [List.length_append, List.length_cons, List.length_nil]; omega) (by omega) h3 h4 hcl h
end Go.Proofs.Ytgdkdamikcnjhaa.PEditsC
