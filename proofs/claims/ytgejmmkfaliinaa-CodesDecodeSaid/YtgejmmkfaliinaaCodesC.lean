/- Layer 4's laws, plain: loops over a text of code points. -/
import Derived.Test.YtgejmmkfaliinaaCodesB
import Derived.Test.YtgejmmkfaliinaaPCodesx4
import Derived.Test.YtgejmmkfaliinaaPCodesx5
import Derived.Test.YtgejmmkfaliinaaPCodesx6
import Derived.KernelRfl
namespace Go.Proofs.Ytgejmmkfaliinaa.PCodes
open Go.RowKit Go.Proofs.YtgejmmkfaliinaaW.PrintWords Go.Proofs.YtgejmmkfaliinaaW.PrintLast Go.Proofs.YtgejmmkfaliinaaW.PrintMore
open Codes (cb U U_val cb_le)
set_option linter.unusedVariables false
set_option linter.unusedSimpArgs false
def enc (l : List Int) : List UInt8 := l.flatMap cb
theorem enc_nil : enc [] = [] := rfl
theorem enc_cons (n : Int) (l : List Int) : enc (n :: l) = cb n ++ enc l := by simp [enc]
theorem enc_app (a b : List Int) : enc (a ++ b) = enc a ++ enc b := by simp [enc]
theorem enc_le (l : List Int) : (enc l).length ≤ 4 * l.length ∧ l.length ≤ (enc l).length := by
  induction l with
  | nil => simp [enc]
  | cons n l ih => have := cb_le n; rw [enc_cons, List.length_append, List.length_cons]; omega
def AR (l : List Int) : Prop := ∀ n ∈ l, ri n
theorem ar_nil : AR [] := by intro n hn; cases hn
def NoHead (r : List UInt8) : Prop := ∀ n u, ri n → r ≠ cb n ++ u
theorem nohead_nil : NoHead [] := by
  intro n u h e
  have := cb_le n
  have := congrArg List.length e
  simp only [List.length_nil, List.length_append] at this
  omega
theorem awake_eq : frisketlaw04_awake.f = some true := by
  have e : codes_Encode.f ([8364] : List Int) = some (⟨#[226, 130, 172]⟩, true) := by kernel_rfl
  unfold frisketlaw04_awake.f
  rw [e]
  simp only [Option.bind_some]
  rw [toList_eq, if_pos (by decide)]
theorem ext_B (s : ByteArray) (a r : List UInt8) (h : B s = a ++ r) : B (s.extract a.length s.size) = r := by
  rw [B_ext, h, List.drop_left]
  have : s.size = a.length + r.length := by rw [← B_size, h, List.length_append]
  rw [List.take_of_length_le (by omega)]
theorem stepf_yes (s : ByteArray) (k : Nat) (a r : List UInt8) (n : Int) (h : B s = a ++ (cb n ++ r)) (hn : ri n) (hk : 4 ≤ k) : codes_Step.f k s (a.length : Int) = some (n, ((cb n).length : Int), true) := by
  obtain ⟨k, rfl⟩ : ∃ m, k = m + 4 := ⟨k - 4, by omega⟩
  have hs : s.size = a.length + ((cb n).length + r.length) := by rw [← B_size, h, List.length_append, List.length_append]
  have := cb_le n
  unfold codes_Step.f
  rw [if_neg (by omega), if_neg (by omega)]
  exact step_yes _ k n hn r (by rw [Int.toNat_natCast]; exact ext_B s a _ h)
theorem stepf_no (s : ByteArray) (k : Nat) (a r : List UInt8) (h : B s = a ++ r) (hn : NoHead r) (hk : 4 ≤ k) : codes_Step.f k s (a.length : Int) = some (0, 0, false) := by
  obtain ⟨k, rfl⟩ : ∃ m, k = m + 4 := ⟨k - 4, by omega⟩
  unfold codes_Step.f
  rw [if_neg (by omega)]
  split
  · rfl
  exact step_no _ k (fun n u q e => hn n u q (by rw [Int.toNat_natCast, ext_B s a _ h] at e; exact e))
theorem rstep_yes (s : ByteArray) (k : Nat) (a r : List UInt8) (n : Int) (h : B s = a ++ (cb n ++ r)) (hn : ri n) (hk : 5 ≤ k) : frisketref04_Step.f k (s.extract (a.length : Int).toNat s.size) = some (n, ((cb n).length : Int)) := by
  obtain ⟨k, rfl⟩ : ∃ m, k = m + 5 := ⟨k - 5, by omega⟩
  exact ref_yes _ k n hn r (by rw [Int.toNat_natCast]; exact ext_B s a _ h)
theorem rstep_no (s : ByteArray) (k : Nat) (a r : List UInt8) (h : B s = a ++ r) (hn : NoHead r) (hk : 5 ≤ k) : frisketref04_Step.f k (s.extract (a.length : Int).toNat s.size) = some (-1, 0) := by
  obtain ⟨k, rfl⟩ : ∃ m, k = m + 5 := ⟨k - 5, by omega⟩
  exact ref_no _ k (fun n u q e => hn n u q (by rw [Int.toNat_natCast, ext_B s a _ h] at e; exact e))
theorem head_or (r : List UInt8) : (∃ n u, ri n ∧ r = cb n ++ u) ∨ NoHead r := by
  by_cases h : ∃ n u, ri n ∧ r = cb n ++ u
  · exact Or.inl h
  · exact Or.inr (fun n u q e => h ⟨n, u, q, e⟩)
theorem mx_pos (z : Nat) (h : 1 ≤ z) : mx (z : Int) 1 = (z : Int) := by unfold mx; rw [if_neg (by omega)]
/-! ### CodesColumns -/
theorem cols (s : ByteArray) (hs : s.size ≤ 500) : ∀ (m : Nat) (a r : List UInt8), r.length ≤ m → B s = a ++ r → ∃ c : Nat, c ≤ r.length ∧ (∀ k (y : Int), m + 10 ≤ k → 0 ≤ y → y + (m : Int) ≤ 1000000 → codes_Columns.l0 k s y (a.length : Int) = some (y + (c : Int))) ∧
    (∀ k (y : Int), m + 600 ≤ k → 0 ≤ y → y + (m : Int) ≤ 1000000 → (∀ K, 520 ≤ K → codes_Columns.f K s = some (y + (c : Int))) → frisketlaw04_CodesColumns.l0 k s y (a.length : Int) = some true) := by
  intro m
  induction m with
  | zero =>
    intro a r hr h
    obtain rfl : r = [] := List.eq_nil_of_length_eq_zero (by omega)
    have hz : s.size = a.length := by rw [← B_size, h]; simp
    refine ⟨0, Nat.zero_le _, ?_, ?_⟩
    · intro k y hk h0 h1
      obtain ⟨k, rfl⟩ : ∃ j, k = j + 1 := ⟨k - 1, by omega⟩
      simp only [codes_Columns.l0]
      rw [if_neg (by omega)]
      simp
    · intro k y hk h0 h1 hc
      obtain ⟨k, rfl⟩ : ∃ j, k = j + 1 := ⟨k - 1, by omega⟩
      simp only [frisketlaw04_CodesColumns.l0]
      rw [if_neg (by omega), hc k (by omega)]
      simp only [Option.bind_some]
      rw [if_pos (by simp), awake_eq]
      rfl
  | succ m ih =>
    intro a r hr h
    have hz : s.size = a.length + r.length := by rw [← B_size, h, List.length_append]
    cases hrr : r with
    | nil =>
      subst hrr
      have hz : s.size = a.length := by rw [hz]; simp
      refine ⟨0, Nat.zero_le _, ?_, ?_⟩
      · intro k y hk h0 h1
        obtain ⟨k, rfl⟩ : ∃ j, k = j + 1 := ⟨k - 1, by omega⟩
        simp only [codes_Columns.l0]
        rw [if_neg (by omega)]
        simp
      · intro k y hk h0 h1 hc
        obtain ⟨k, rfl⟩ : ∃ j, k = j + 1 := ⟨k - 1, by omega⟩
        simp only [frisketlaw04_CodesColumns.l0]
        rw [if_neg (by omega), hc k (by omega)]
        simp only [Option.bind_some]
        rw [if_pos (by simp), awake_eq]
        rfl
    | cons b0 r0 =>
      rw [← hrr]
      have hrl : 1 ≤ r.length := by rw [hrr]; simp
      -- one step, of e bytes
      have hstep : ∃ (d u : List UInt8), r = d ++ u ∧ 1 ≤ d.length ∧ (∀ k, 4 ≤ k → ∃ x z b, codes_Step.f k s (a.length : Int) = some (x, z, b) ∧ mx z 1 = (d.length : Int)) ∧ (∀ k, 5 ≤ k → ∃ x z, frisketref04_Step.f k (s.extract (a.length : Int).toNat s.size) = some (x, z) ∧ mx z 1 = (d.length : Int)) := by
        rcases head_or r with ⟨n, u, hn, e⟩ | hno
        · refine ⟨cb n, u, e, (cb_le n).2, fun k hk => ⟨_, _, _, stepf_yes s k a u n (by rw [h, e]) hn hk, mx_pos _ (cb_le n).2⟩, fun k hk => ⟨_, _, rstep_yes s k a u n (by rw [h, e]) hn hk, mx_pos _ (cb_le n).2⟩⟩
        · exact ⟨[b0], r0, hrr, Nat.le_refl _, fun k hk => ⟨_, _, _, stepf_no s k a r h hno hk, rfl⟩, fun k hk => ⟨_, _, rstep_no s k a r h hno hk, rfl⟩⟩
      obtain ⟨d, u, hdu, hd, st, rs⟩ := hstep
      have hrlen : r.length = d.length + u.length := by rw [hdu, List.length_append]
      obtain ⟨c, hcl, hc1, hc2⟩ := ih (a ++ d) u (by omega) (by rw [h, hdu, List.append_assoc])
      have hal : (a ++ d).length = a.length + d.length := List.length_append
      refine ⟨c + 1, by omega, ?_, ?_⟩
      · intro k y hk h0 h1
        obtain ⟨k, rfl⟩ : ∃ j, k = j + 1 := ⟨k - 1, by omega⟩
        obtain ⟨x, z, b, e, hm⟩ := st k (by omega)
        simp only [codes_Columns.l0]
        rw [if_pos (by omega), e]
        simp only [Option.bind_some]
        rw [hm, w64 _ (by omega) (by omega), w64 _ (by omega) (by omega), show (a.length : Int) + (d.length : Int) = ((a ++ d).length : Int) from by omega, hc1 k (y + 1) (by omega) (by omega) (by omega)]
        congr 1
        omega
      · intro k y hk h0 h1 hc
        obtain ⟨k, rfl⟩ : ∃ j, k = j + 1 := ⟨k - 1, by omega⟩
        obtain ⟨x, z, e, hm⟩ := rs k (by omega)
        simp only [frisketlaw04_CodesColumns.l0]
        rw [if_pos (by omega), if_pos (by omega), if_pos (by omega), e]
        simp only [Option.bind_some]
        rw [hm, w64 _ (by omega) (by omega), w64 _ (by omega) (by omega), show (a.length : Int) + (d.length : Int) = ((a ++ d).length : Int) from by omega]
        refine hc2 k (y + 1) (by omega) (by omega) (by omega) (fun K hK => ?_)
        rw [hc K hK]
        congr 1
        omega
theorem columns_law : frisketlaw04_CodesColumns.Pure := by
  intro s _
  refine ⟨1200, ?_⟩
  unfold frisketlaw04_CodesColumns.f
  by_cases c1 : (s.size : Int) > 500
  · rw [if_pos c1, awake_eq]; rfl
  rw [if_neg c1]
  obtain ⟨c, hcl, h1, h2⟩ := cols s (by omega) 500 [] (B s) (by rw [B_size]; omega) rfl
  refine h2 1200 0 (by omega) (by omega) (by omega) (fun K hK => ?_)
  exact h1 K 0 (by omega) (by omega) (by omega)
/-! ### Decode, Encode -/
theorem Encode_g : ∀ (l : List Int) (xb : List UInt8), AR l → codes_Encode.g l xb = some (xb ++ enc l) := by
  intro l
  induction l with
  | nil => intro xb _; simp [codes_Encode.g, enc]
  | cons n l ih =>
    intro xb h
    have hn := h n (List.mem_cons_self ..)
    simp only [codes_Encode.g]
    rw [if_pos (by unfold ri at hn; omega), ih _ (fun x hx => h x (List.mem_cons_of_mem _ hx)), enc_cons, List.append_assoc]
theorem Encode_g_no : ∀ (l : List Int) (xb : List UInt8), ¬ AR l → codes_Encode.g l xb = none := by
  intro l
  induction l with
  | nil => intro xb h; exact absurd (fun n hn => by cases hn) h
  | cons n l ih =>
    intro xb h
    simp only [codes_Encode.g]
    by_cases c : ri n
    · rw [if_pos (by unfold ri at c; omega)]
      refine ih _ (fun q => h (fun x hx => ?_))
      rcases List.mem_cons.1 hx with rfl | hx
      · exact c
      · exact q x hx
    · rw [if_neg (by unfold ri at c; omega)]
theorem Encode_yes (l : List Int) (h : AR l) (hl : l.length ≤ 1000000) : codes_Encode.f l = some (⟨(enc l).toArray⟩, true) := by
  unfold codes_Encode.f
  rw [if_pos hl, Encode_g l [] h]
  rfl
theorem Encode_no (l : List Int) (h : ¬ AR l) (hl : l.length ≤ 1000000) : codes_Encode.f l = some (⟨#[]⟩, false) := by
  unfold codes_Encode.f
  rw [if_pos hl, Encode_g_no l [] h]
theorem Decode_l0 (s : ByteArray) (r : List UInt8) (hr : NoHead r) (hs : s.size ≤ 1000000) : ∀ (q : List Int) (k : Nat) (a : List UInt8) (x5 : List Int), AR q → B s = a ++ (enc q ++ r) → q.length + 10 ≤ k → x5.length + q.length ≤ 1000000 →
    codes_Decode.l0 k s x5 (a.length : Int) = if r = [] then some (x5 ++ q, ((x5 ++ q).length : Int), 0) else some (([] : List Int), ((a ++ enc q).length : Int), 5) := by
  intro q
  induction q with
  | nil =>
    intro k a x5 _ h hk hx
    obtain ⟨k, rfl⟩ : ∃ j, k = j + 1 := ⟨k - 1, by omega⟩
    rw [enc_nil, List.nil_append] at h
    have hz : s.size = a.length + r.length := by rw [← B_size, h, List.length_append]
    simp only [codes_Decode.l0]
    by_cases c : r = []
    · subst c
      rw [if_neg (by simp at hz; omega), if_pos rfl, List.append_nil]
    · have : 1 ≤ r.length := by cases r with | nil => exact absurd rfl c | cons _ _ => simp
      rw [if_pos (by omega), stepf_no s k a r h hr (by omega)]
      simp only [Option.bind_some]
      rw [if_neg (by simp), if_neg c, enc_nil, List.append_nil]
  | cons n q ih =>
    intro k a x5 hq h hk hx
    obtain ⟨k, rfl⟩ : ∃ j, k = j + 1 := ⟨k - 1, by omega⟩
    have hn := hq n (List.mem_cons_self ..)
    rw [enc_cons, List.append_assoc] at h
    have hz : s.size = a.length + ((cb n).length + (enc q ++ r).length) := by rw [← B_size, h, List.length_append, List.length_append]
    have hcl := cb_le n
    rw [List.length_cons] at hk hx
    simp only [codes_Decode.l0]
    rw [if_pos (by omega), stepf_yes s k a _ n h hn (by omega)]
    simp only [Option.bind_some]
    rw [if_pos trivial, if_pos (by omega), w64 _ (by omega) (by omega), show (a.length : Int) + ((cb n).length : Int) = ((a ++ cb n).length : Int) from by rw [List.length_append]; omega]
    rw [ih k (a ++ cb n) (x5 ++ [n]) (fun x hx => hq x (List.mem_cons_of_mem _ hx)) (by rw [h, List.append_assoc]) (by omega) (by rw [List.length_append]; simp; omega)]
    rw [enc_cons]
    simp only [List.append_assoc, List.singleton_append]
theorem Decode_eq (s : ByteArray) (r : List UInt8) (hr : NoHead r) (hs : s.size ≤ 1000000) (q : List Int) (k : Nat) (hq : AR q) (h : B s = enc q ++ r) (hk : q.length + 10 ≤ k) :
    codes_Decode.f k s = if r = [] then some (q, (q.length : Int), 0) else some (([] : List Int), ((enc q).length : Int), 5) := by
  have hz : s.size = (enc q).length + r.length := by rw [← B_size, h, List.length_append]
  have := enc_le q
  have := Decode_l0 s r hr hs q k [] [] hq h hk (by simp; omega)
  simpa [codes_Decode.f] using this
/-- Every text is code points, and then either nothing or what begins with none. -/
theorem parse : ∀ (m : Nat) (l : List UInt8), l.length ≤ m → ∃ q r, AR q ∧ NoHead r ∧ l = enc q ++ r := by
  intro m
  induction m with
  | zero =>
    intro l h
    obtain rfl : l = [] := List.eq_nil_of_length_eq_zero (by omega)
    exact ⟨[], [], ar_nil, nohead_nil, rfl⟩
  | succ m ih =>
    intro l h
    rcases head_or l with ⟨n, u, hn, e⟩ | hno
    · have := cb_le n
      have hl : l.length = (cb n).length + u.length := by rw [e, List.length_append]
      obtain ⟨q, r, h1, h2, h3⟩ := ih u (by omega)
      refine ⟨n :: q, r, ?_, h2, by rw [e, h3, enc_cons, List.append_assoc]⟩
      intro x hx
      rcases List.mem_cons.1 hx with rfl | hx
      · exact hn
      · exact h1 x hx
    · exact ⟨[], l, ar_nil, hno, rfl⟩
theorem First_eq (s : ByteArray) (r : List UInt8) (hr : NoHead r) (hs : s.size ≤ 1000000) (q : List Int) (k : Nat) (hq : AR q) (h : B s = enc q ++ r) (hk : q.length + 10 ≤ k) :
    codes_First.f k s = if r = [] then some (-1) else some ((enc q).length : Int) := by
  unfold codes_First.f
  rw [Decode_eq s r hr hs q k hq h hk]
  by_cases c : r = []
  · rw [if_pos c, if_pos c]; rfl
  · rw [if_neg c, if_neg c]; rfl
theorem Size_eq (s : ByteArray) (r : List UInt8) (hr : NoHead r) (hs : s.size ≤ 1000000) (q : List Int) (k : Nat) (hq : AR q) (h : B s = enc q ++ r) (hk : q.length + 10 ≤ k) :
    codes_Size.f k s = some (q.length : Int) := by
  have hz : s.size = (enc q).length + r.length := by rw [← B_size, h, List.length_append]
  unfold codes_Size.f
  rw [First_eq s r hr hs q k hq h hk]
  by_cases c : r = []
  · rw [if_pos c]
    simp only [Option.bind_some]
    rw [if_neg (by omega), Decode_eq s r hr hs q k hq h hk, if_pos c]
    rfl
  · rw [if_neg c]
    simp only [Option.bind_some]
    rw [if_pos (by omega), if_pos (by omega), if_pos (by omega)]
    have hb : B (s.extract 0 ((enc q).length : Int).toNat) = enc q ++ [] := by
      rw [Int.toNat_natCast, B_ext, h]
      simp
    rw [Decode_eq _ [] nohead_nil (by rw [← B_size, hb]; simp; omega) q k hq hb hk, if_pos rfl]
    rfl
theorem refFirst_l0 (s : ByteArray) (r : List UInt8) (hr : NoHead r) (hs : s.size ≤ 1000000) : ∀ (q : List Int) (k : Nat) (a : List UInt8) (y : Nat), AR q → B s = a ++ (enc q ++ r) → q.length + 10 ≤ k → y + q.length ≤ 1000000 →
    frisketref04_First.l0 k s (y : Int) (a.length : Int) = if r = [] then some (-1, ((y + q.length : Nat) : Int)) else some (((a ++ enc q).length : Int), ((y + q.length : Nat) : Int)) := by
  intro q
  induction q with
  | nil =>
    intro k a y _ h hk hx
    obtain ⟨k, rfl⟩ : ∃ j, k = j + 1 := ⟨k - 1, by omega⟩
    rw [enc_nil, List.nil_append] at h
    have hz : s.size = a.length + r.length := by rw [← B_size, h, List.length_append]
    simp only [frisketref04_First.l0]
    by_cases c : r = []
    · subst c
      rw [if_neg (by simp at hz; omega), if_pos rfl]
      rfl
    · have : 1 ≤ r.length := by cases r with | nil => exact absurd rfl c | cons _ _ => simp
      rw [if_pos (by omega), if_pos (by omega), if_pos (by omega), rstep_no s k a r h hr (by omega)]
      simp only [Option.bind_some]
      rw [if_pos (by omega), if_neg c, enc_nil, List.append_nil]
      rfl
  | cons n q ih =>
    intro k a y hq h hk hx
    obtain ⟨k, rfl⟩ : ∃ j, k = j + 1 := ⟨k - 1, by omega⟩
    have hn := hq n (List.mem_cons_self ..)
    rw [enc_cons, List.append_assoc] at h
    have hz : s.size = a.length + ((cb n).length + (enc q ++ r).length) := by rw [← B_size, h, List.length_append, List.length_append]
    have hcl := cb_le n
    have hn0 := hn.1
    rw [List.length_cons] at hk hx
    simp only [frisketref04_First.l0]
    rw [if_pos (by omega), if_pos (by omega), if_pos (by omega), rstep_yes s k a _ n h hn (by omega)]
    simp only [Option.bind_some]
    rw [if_neg (by omega), w64 _ (by omega) (by omega), w64 _ (by omega) (by omega), show (a.length : Int) + ((cb n).length : Int) = ((a ++ cb n).length : Int) from by rw [List.length_append]; omega, show (y : Int) + 1 = ((y + 1 : Nat) : Int) from by omega]
    rw [ih k (a ++ cb n) (y + 1) (fun x hx => hq x (List.mem_cons_of_mem _ hx)) (by rw [h, List.append_assoc]) (by omega) (by omega)]
    rw [enc_cons, List.length_cons, show y + 1 + q.length = y + (q.length + 1) from by omega]
    simp only [List.append_assoc]
theorem refFirst_eq (s : ByteArray) (r : List UInt8) (hr : NoHead r) (hs : s.size ≤ 1000000) (q : List Int) (k : Nat) (hq : AR q) (h : B s = enc q ++ r) (hk : q.length + 10 ≤ k) :
    frisketref04_First.f k s = if r = [] then some (-1, (q.length : Int)) else some (((enc q).length : Int), (q.length : Int)) := by
  have hz : s.size = (enc q).length + r.length := by rw [← B_size, h, List.length_append]
  have := enc_le q
  have := refFirst_l0 s r hr hs q k [] 0 hq h hk (by omega)
  simpa [frisketref04_First.f] using this
theorem Columns_l0 (s : ByteArray) (hs : s.size ≤ 1000000) : ∀ (q : List Int) (k : Nat) (a : List UInt8) (y : Nat), AR q → B s = a ++ enc q → q.length + 10 ≤ k → y + q.length ≤ 1000000 →
    codes_Columns.l0 k s (y : Int) (a.length : Int) = some ((y + q.length : Nat) : Int) := by
  intro q
  induction q with
  | nil =>
    intro k a y _ h hk hx
    obtain ⟨k, rfl⟩ : ∃ j, k = j + 1 := ⟨k - 1, by omega⟩
    rw [enc_nil, List.append_nil] at h
    have hz : s.size = a.length := by rw [← B_size, h]
    simp only [codes_Columns.l0]
    rw [if_neg (by omega)]
    rfl
  | cons n q ih =>
    intro k a y hq h hk hx
    obtain ⟨k, rfl⟩ : ∃ j, k = j + 1 := ⟨k - 1, by omega⟩
    have hn := hq n (List.mem_cons_self ..)
    rw [enc_cons] at h
    have hz : s.size = a.length + ((cb n).length + (enc q).length) := by rw [← B_size, h, List.length_append, List.length_append]
    have hcl := cb_le n
    rw [List.length_cons] at hk hx
    simp only [codes_Columns.l0]
    rw [if_pos (by omega), stepf_yes s k a _ n h hn (by omega)]
    simp only [Option.bind_some]
    rw [mx_pos _ hcl.2, w64 _ (by omega) (by omega), w64 _ (by omega) (by omega), show (a.length : Int) + ((cb n).length : Int) = ((a ++ cb n).length : Int) from by rw [List.length_append]; omega, show (y : Int) + 1 = ((y + 1 : Nat) : Int) from by omega]
    rw [ih k (a ++ cb n) (y + 1) (fun x hx => hq x (List.mem_cons_of_mem _ hx)) (by rw [h, List.append_assoc]) (by omega) (by omega)]
    rw [List.length_cons, show y + 1 + q.length = y + (q.length + 1) from by omega]
theorem Columns_eq (s : ByteArray) (hs : s.size ≤ 1000000) (q : List Int) (k : Nat) (hq : AR q) (h : B s = enc q) (hk : q.length + 10 ≤ k) : codes_Columns.f k s = some (q.length : Int) := by
  have := enc_le q
  have hz : s.size = (enc q).length := by rw [← B_size, h]
  have := Columns_l0 s hs q k [] 0 hq h hk (by omega)
  simpa [codes_Columns.f] using this
/-! ### CodesEncode -/
theorem rd_at (p q : List Int) (n : Int) : rd (p ++ n :: q) (p.length : Int) = n := by simp [rd, List.getD]
theorem enc_l1 (l : List Int) (hl : l.length ≤ 1000000) : ∀ (q p : List Int) (k : Nat), l = p ++ q → q.length + 3 ≤ k → frisketlaw04_CodesEncode.l1 k l l (p.length : Int) = some true := by
  intro q
  induction q with
  | nil =>
    intro p k h hk
    obtain ⟨k, rfl⟩ : ∃ j, k = j + 1 := ⟨k - 1, by omega⟩
    simp only [frisketlaw04_CodesEncode.l1]
    rw [if_neg (by rw [h]; simp), awake_eq]
    rfl
  | cons n q ih =>
    intro p k h hk
    obtain ⟨k, rfl⟩ : ∃ j, k = j + 1 := ⟨k - 1, by omega⟩
    have hz : l.length = p.length + (q.length + 1) := by rw [h, List.length_append, List.length_cons]
    rw [List.length_cons] at hk
    simp only [frisketlaw04_CodesEncode.l1]
    rw [if_pos (by omega), if_pos (by omega), if_pos (by omega), if_pos trivial, w64 _ (by omega) (by omega), show (p.length : Int) + 1 = ((p ++ [n]).length : Int) from by rw [List.length_append]; simp]
    exact ih (p ++ [n]) k (by rw [h]; simp) (by omega)
theorem enc_l0 (l : List Int) (hl : l.length ≤ 100) : ∀ (q p : List Int) (k : Nat) (x5 : ByteArray) (x3 : ByteArray) (x4 : Bool), l = p ++ q → q.length + 300 ≤ k → AR p → B x5 = enc p → codes_Encode.f l = some (x3, x4) → frisketlaw04_CodesEncode.l0 k l x3 x4 x5 (p.length : Int) = some true := by
  intro q
  induction q with
  | nil =>
    intro p k x5 x3 x4 h hk hp hb he
    obtain ⟨k, rfl⟩ : ∃ j, k = j + 1 := ⟨k - 1, by omega⟩
    rw [List.append_nil] at h
    subst h
    rw [Encode_yes l hp (by omega)] at he
    simp only [Option.some.injEq, Prod.mk.injEq] at he
    obtain ⟨rfl, rfl⟩ := he
    have hle := enc_le l
    simp only [frisketlaw04_CodesEncode.l0]
    rw [if_neg (by omega), Decode_eq _ [] nohead_nil (by rw [← B_size, B_mk]; omega) l k hp (by rw [B_mk, List.append_nil]) (by omega), if_pos rfl]
    simp only [Option.bind_some]
    rw [if_pos (by rw [toList_eq, toList_eq, B_mk, hb]), if_pos trivial, if_pos trivial, if_pos trivial]
    obtain ⟨k, rfl⟩ : ∃ j, k = j + 1 := ⟨k - 1, by omega⟩
    simp only [frisketlaw04_CodesEncode.j1]
    rw [if_neg (by simp)]
    exact enc_l1 l (by omega) l [] k rfl (by omega)
  | cons n q ih =>
    intro p k x5 x3 x4 h hk hp hb he
    obtain ⟨k, rfl⟩ : ∃ j, k = j + 1 := ⟨k - 1, by omega⟩
    have hz : l.length = p.length + (q.length + 1) := by rw [h, List.length_append, List.length_cons]
    rw [List.length_cons] at hk
    have hrd : rd l (p.length : Int) = n := by rw [h]; exact rd_at p q n
    have hle := enc_le p
    simp only [frisketlaw04_CodesEncode.l0]
    rw [if_pos (by omega), if_pos (by omega), hrd, rRight_f]
    simp only [Option.bind_some]
    by_cases c : ri n
    · rw [if_pos (decide_eq_true c), rBytes_f n c]
      simp only [Option.bind_some]
      have hcl := cb_le n
      have hs1 : x5.size = (enc p).length := by rw [← B_size, hb]
      have hs2 : (⟨(cb n).toArray⟩ : ByteArray).size = (cb n).length := by rw [← B_size, B_mk]
      rw [if_pos (by omega), w64 _ (by omega) (by omega), show (p.length : Int) + 1 = ((p ++ [n]).length : Int) from by rw [List.length_append]; simp]
      refine ih (p ++ [n]) k _ x3 x4 (by rw [h]; simp) (by omega) ?_ ?_ he
      · intro x hx
        rcases List.mem_append.1 hx with hx | hx
        · exact hp x hx
        · rw [List.mem_singleton.1 hx]; exact c
      · have e := B_app x5 ⟨(cb n).toArray⟩
        rw [hb, B_mk] at e
        refine e.trans ?_
        rw [enc_app, enc_cons, enc_nil, List.append_nil]
    · rw [if_neg (by rw [decide_eq_false c]; simp)]
      rw [Encode_no l (fun q => c (q n (by rw [h]; simp))) (by omega)] at he
      simp only [Option.some.injEq, Prod.mk.injEq] at he
      obtain ⟨rfl, rfl⟩ := he
      rw [if_pos (by rw [toList_eq]), if_neg (by simp), awake_eq]
      rfl
theorem encode_law : frisketlaw04_CodesEncode.Pure := by
  intro l _ _ _
  refine ⟨500, ?_⟩
  unfold frisketlaw04_CodesEncode.f
  by_cases c1 : (l.length : Int) > 100
  · rw [if_pos c1, awake_eq]; rfl
  rw [if_neg c1]
  have hA : ∃ x3 x4, codes_Encode.f l = some (x3, x4) := by
    by_cases c : AR l
    · exact ⟨_, _, Encode_yes l c (by omega)⟩
    · exact ⟨_, _, Encode_no l c (by omega)⟩
  obtain ⟨x3, x4, he⟩ := hA
  rw [he]
  simp only [Option.bind_some]
  exact enc_l0 l (by omega) l [] 500 _ x3 x4 rfl (by omega) ar_nil rfl he
/-! ### CodesDecode -/
theorem dec_j2 (s : ByteArray) (hs : s.size ≤ 500) (q : List Int) (r : List UInt8) (hq : AR q) (hr : NoHead r) (h : B s = enc q ++ r) (k : Nat) (hk : 600 ≤ k) :
    (r = [] → frisketlaw04_CodesDecode.j2 k s q (q.length : Int) 0 (-1) (q.length : Int) false = some true) ∧ (r ≠ [] → frisketlaw04_CodesDecode.j2 k s [] ((enc q).length : Int) 5 ((enc q).length : Int) (q.length : Int) false = some true) := by
  have hz : s.size = (enc q).length + r.length := by rw [← B_size, h, List.length_append]
  have hle := enc_le q
  obtain ⟨k, rfl⟩ : ∃ j, k = j + 1 := ⟨k - 1, by omega⟩
  constructor
  · intro c
    subst c
    rw [List.append_nil] at h
    simp only [frisketlaw04_CodesDecode.j2]
    rw [if_neg (by simp), if_neg (by omega), Encode_yes q hq (by omega)]
    simp only [Option.bind_some]
    rw [if_pos trivial, if_pos trivial, if_pos trivial, if_pos (by rw [toList_eq, toList_eq, B_mk, h]), if_pos trivial, Columns_eq s (by omega) q k hq h (by omega)]
    simp only [Option.bind_some]
    rw [if_pos trivial, awake_eq]
    rfl
  · intro c
    simp only [frisketlaw04_CodesDecode.j2]
    rw [if_neg (by simp), if_pos (by omega), if_pos (by simp), if_pos trivial, if_pos trivial, awake_eq]
    rfl
theorem decode_law : frisketlaw04_CodesDecode.Pure := by
  intro s a1 _ _
  refine ⟨1000, ?_⟩
  unfold frisketlaw04_CodesDecode.f
  by_cases c1 : (s.size : Int) > 500
  · rw [if_pos c1, awake_eq]; rfl
  rw [if_neg c1]
  obtain ⟨q, r, hq, hr, h⟩ := parse s.size (B s) (by rw [B_size]; omega)
  have hz : s.size = (enc q).length + r.length := by rw [← B_size, h, List.length_append]
  have hle := enc_le q
  have j2 := fun k hk => dec_j2 s (by omega) q r hq hr h k hk
  -- the step at a1, and the reference's
  have hst : ∃ (n z : Int) (b : Bool) (m : Int), codes_Step.f 1000 s a1 = some (n, z, b) ∧ (b = decide (m ≥ 0)) ∧ n = mx m 0 ∧ ((0 ≤ a1 ∧ a1 < (s.size : Int) ∧ ∀ k, 5 ≤ k → frisketref04_Step.f k (s.extract (a1 : Int).toNat s.size) = some (m, z)) ∨ (¬ (0 ≤ a1 ∧ a1 < (s.size : Int)) ∧ m = -1 ∧ z = 0)) := by
    by_cases c : 0 ≤ a1 ∧ a1 < (s.size : Int)
    · have e1 : ∃ a u, B s = a ++ u ∧ (a.length : Int) = a1 := ⟨(B s).take a1.toNat, (B s).drop a1.toNat, (List.take_append_drop _ _).symm, by rw [List.length_take, B_size]; omega⟩
      obtain ⟨a, u, e1, e2⟩ := e1
      rw [← e2]
      rcases head_or u with ⟨n, v, hn, e⟩ | hno
      · rw [e] at e1
        have hn0 := hn.1
        exact ⟨n, _, true, n, stepf_yes s 1000 a v n e1 hn (by omega), (decide_eq_true (by omega)).symm, by unfold mx; rw [if_neg (by omega)], Or.inl ⟨by omega, by omega, fun k hk => rstep_yes s k a v n e1 hn hk⟩⟩
      · exact ⟨0, 0, false, -1, stepf_no s 1000 a u e1 hno (by omega), by decide, by decide, Or.inl ⟨by omega, by omega, fun k hk => rstep_no s k a u e1 hno hk⟩⟩
    · refine ⟨0, 0, false, -1, ?_, by decide, by decide, Or.inr ⟨c, rfl, rfl⟩⟩
      unfold codes_Step.f
      by_cases d1 : a1 < 0
      · rw [if_pos d1]
      · rw [if_neg d1, if_pos (by omega)]
  obtain ⟨n, z, b, m, hs1, hb, hn, hcase⟩ := hst
  have hF := fun k hk => First_eq s r hr (by omega) q k hq h hk
  have hZ := fun k hk => Size_eq s r hr (by omega) q k hq h hk
  rw [Decode_eq s r hr (by omega) q 1000 hq h (by omega), refFirst_eq s r hr (by omega) q 1000 hq h (by omega)]
  have hj1 : ∀ k, 700 ≤ k → ∀ x5 x6 x7 x8, (if r = [] then some (-1) else some ((enc q).length : Int)) = some x8 → frisketlaw04_CodesDecode.j2 (k - 1) s x5 x6 x7 x8 (q.length : Int) false = some true → frisketlaw04_CodesDecode.j1 k s x5 x6 x7 x8 (q.length : Int) n z b m z = some true := by
    intro k hk x5 x6 x7 x8 h8 hj
    obtain ⟨k, rfl⟩ : ∃ j, k = j + 1 := ⟨k - 1, by omega⟩
    simp only [frisketlaw04_CodesDecode.j1]
    rw [if_neg (by rw [hb]; simp), if_pos hn, if_pos trivial, hF k (by omega), h8]
    simp only [Option.bind_some]
    rw [if_pos trivial, hZ k (by omega)]
    simp only [Option.bind_some]
    rw [show ((q.length : Int) != (q.length : Int)) = false from by simp]
    exact hj
  have hj0 : ∀ x5 x6 x7 x8, (if r = [] then some (-1) else some ((enc q).length : Int)) = some x8 → (∀ k, 600 ≤ k → frisketlaw04_CodesDecode.j2 k s x5 x6 x7 x8 (q.length : Int) false = some true) → (if a1 ≥ 0 then (frisketlaw04_CodesDecode.j0 1000 s a1 x5 x6 x7 x8 (q.length : Int) n z b (-1) 0 (decide (a1 < (s.size : Int)))) else (frisketlaw04_CodesDecode.j0 1000 s a1 x5 x6 x7 x8 (q.length : Int) n z b (-1) 0 false)) = some true := by
    intro x5 x6 x7 x8 h8 hj
    have out : ∀ c, (¬ (0 ≤ a1 ∧ a1 < (s.size : Int)) ∧ m = -1 ∧ z = 0) → c = false → frisketlaw04_CodesDecode.j0 1000 s a1 x5 x6 x7 x8 (q.length : Int) n z b (-1) 0 c = some true := by
      intro c ⟨_, hm, hz0⟩ hc
      subst hc
      have e := hj1 999 (by omega) x5 x6 x7 x8 h8 (hj _ (by omega))
      rw [show (1000 : Nat) = 999 + 1 from rfl]
      simp only [frisketlaw04_CodesDecode.j0]
      rw [if_neg (by simp)]
      rw [hm] at e
      rw [hz0] at e ⊢
      exact e
    rcases hcase with ⟨d1, d2, d3⟩ | hc
    · rw [if_pos d1, decide_eq_true d2]
      have e := hj1 999 (by omega) x5 x6 x7 x8 h8 (hj _ (by omega))
      rw [show (1000 : Nat) = 999 + 1 from rfl]
      simp only [frisketlaw04_CodesDecode.j0]
      rw [if_pos trivial, if_pos d1, if_pos (by omega), d3 999 (by omega)]
      exact e
    · by_cases d : a1 ≥ 0
      · rw [if_pos d]
        exact out _ hc (decide_eq_false (by omega))
      · rw [if_neg d]
        exact out _ hc rfl
  by_cases c : r = []
  · rw [if_pos c, if_pos c]
    simp only [Option.bind_some]
    rw [hs1]
    simp only [Option.bind_some]
    exact hj0 q _ 0 (-1) (if_pos c) (fun k hk => (j2 k hk).1 c)
  · rw [if_neg c, if_neg c]
    simp only [Option.bind_some]
    rw [hs1]
    simp only [Option.bind_some]
    exact hj0 [] _ 5 _ (if_neg c) (fun k hk => (j2 k hk).2 c)
/-! ### CodesCuts -/
theorem cuts_l0 (s x8 x9 : ByteArray) (l : List Int) (hl : l.length ≤ 60) (ha : AR l) (hs : B s = enc l) (c : Nat) (hc : c ≤ s.size) (h8 : B x8 = (enc l).take c) (h9 : B x9 = (enc l).drop c) : ∀ (q p : List Int) (k : Nat), l = p ++ q → q.length + 300 ≤ k → (enc p).length ≤ c →
    frisketlaw04_CodesCuts.l0 k s (c : Int) x8 x9 ((enc p).length : Int) (p.length : Int) = some true := by
  have hsz : s.size = (enc l).length := by rw [← B_size, hs]
  have hle := enc_le l
  have stop : ∀ (q p : List Int) (k : Nat), l = p ++ q → 300 ≤ k → (enc p).length = c → frisketlaw04_CodesCuts.l0 k s (c : Int) x8 x9 ((enc p).length : Int) (p.length : Int) = some true := by
    intro q p k h hk he
    obtain ⟨k, rfl⟩ : ∃ j, k = j + 1 := ⟨k - 1, by omega⟩
    have hlen : l.length = p.length + q.length := by rw [h, List.length_append]
    have hp : AR p := fun n hn => ha n (by rw [h]; exact List.mem_append_left _ hn)
    have hq : AR q := fun n hn => ha n (by rw [h]; exact List.mem_append_right _ hn)
    have e8 : B x8 = enc p ++ [] := by rw [h8, h, enc_app, ← he, List.take_left, List.append_nil]
    have e9 : B x9 = enc q ++ [] := by rw [h9, h, enc_app, ← he, List.drop_left, List.append_nil]
    have es : B s = enc l ++ [] := by rw [hs, List.append_nil]
    have z8 : x8.size ≤ 1000000 := by have := enc_le p; rw [← B_size, e8, List.append_nil]; omega
    have z9 : x9.size ≤ 1000000 := by have := enc_le q; rw [← B_size, e9, List.append_nil]; omega
    simp only [frisketlaw04_CodesCuts.l0]
    rw [if_neg (by omega), if_pos (by omega), First_eq x8 [] nohead_nil z8 p k hp e8 (by omega), if_pos rfl]
    simp only [Option.bind_some]
    rw [if_pos trivial, First_eq x9 [] nohead_nil z9 q k hq e9 (by omega), if_pos rfl]
    simp only [Option.bind_some]
    rw [if_pos trivial, Size_eq x8 [] nohead_nil z8 p k hp e8 (by omega)]
    simp only [Option.bind_some]
    rw [if_pos trivial, Size_eq x9 [] nohead_nil z9 q k hq e9 (by omega), Size_eq s [] nohead_nil (by omega) l k ha es (by omega)]
    simp only [Option.bind_some]
    rw [w64 _ (by omega) (by omega), show (p.length : Int) + (q.length : Int) = (l.length : Int) from by omega]
    simp
  intro q
  induction q with
  | nil =>
    intro p k h hk hp
    rw [List.append_nil] at h
    subst h
    exact stop [] l k (by simp) (by omega) (by omega)
  | cons n q ih =>
    intro p k h hk hpc
    by_cases he : (enc p).length = c
    · exact stop (n :: q) p k h (by omega) he
    obtain ⟨k, rfl⟩ : ∃ j, k = j + 1 := ⟨k - 1, by omega⟩
    rw [List.length_cons] at hk
    have hlen : l.length = p.length + (q.length + 1) := by rw [h, List.length_append, List.length_cons]
    have hn : ri n := ha n (by rw [h]; simp)
    have hp : AR p := fun n hn => ha n (by rw [h]; exact List.mem_append_left _ hn)
    have hel : enc l = enc p ++ (cb n ++ enc q) := by rw [h, enc_app, enc_cons]
    have hcl := cb_le n
    have hz : s.size = (enc p).length + ((cb n).length + (enc q).length) := by rw [hsz, hel, List.length_append, List.length_append]
    have e1 : enc (p ++ [n]) = enc p ++ cb n := by rw [enc_app, enc_cons, enc_nil, List.append_nil]
    have e2 : (enc (p ++ [n])).length = (enc p).length + (cb n).length := by rw [e1, List.length_append]
    simp only [frisketlaw04_CodesCuts.l0]
    rw [if_pos (by omega), stepf_yes s k (enc p) (enc q) n (by rw [hs, hel]) hn (by omega)]
    simp only [Option.bind_some]
    rw [mx_pos _ hcl.2, w64 _ (by omega) (by omega), w64 _ (by omega) (by omega), show ((enc p).length : Int) + ((cb n).length : Int) = ((enc (p ++ [n])).length : Int) from by omega, show (p.length : Int) + 1 = ((p ++ [n]).length : Int) from by rw [List.length_append]; simp]
    by_cases c2 : (enc (p ++ [n])).length ≤ c
    · exact ih (p ++ [n]) k (by rw [h]; simp) (by omega) c2
    · obtain ⟨k, rfl⟩ : ∃ j, k = j + 1 := ⟨k - 1, by omega⟩
      have hd : (cb n).take (c - (enc p).length) ++ (cb n).drop (c - (enc p).length) = cb n := List.take_append_drop _ _
      have e8 : B x8 = enc p ++ (cb n).take (c - (enc p).length) := by
        rw [h8, hel, List.take_append, List.take_of_length_le (by omega), List.take_append, show c - (enc p).length - (cb n).length = 0 from by omega, List.take_zero, List.append_nil]
      have hno : NoHead ((cb n).take (c - (enc p).length)) := by
        intro m u hm e
        rw [e, List.append_assoc] at hd
        have hh : cb n ++ [] = cb m ++ (u ++ (cb n).drop (c - (enc p).length)) := by rw [List.append_nil]; exact hd.symm
        obtain ⟨_, e4⟩ := cb_pre n m hn hm _ _ hh
        have := congrArg List.length e4
        rw [List.length_append, List.length_drop, List.length_nil] at this
        omega
      have hne : (cb n).take (c - (enc p).length) ≠ [] := by
        intro e
        have := congrArg List.length e
        rw [List.length_take, List.length_nil] at this
        omega
      have z8 : x8.size ≤ 1000000 := by rw [← B_size, h8, List.length_take]; omega
      simp only [frisketlaw04_CodesCuts.l0]
      rw [if_neg (by omega), if_neg (by omega), First_eq x8 _ hno z8 p k hp e8 (by omega), if_neg hne]
      simp only [Option.bind_some]
      rw [decide_eq_true (by omega)]
end Go.Proofs.Ytgejmmkfaliinaa.PCodes
