/- The code point at the head of a text: the given code and the reference agree. Plain Lean. -/
import Derived.Test.YtjgaikmejccdkaaDoorPDocx3
import Derived.Laws.BitsAllLaws
import Derived.Lib.LazyBuf
namespace Go.Proofs.YtjgaikmejccdkaaDoor.PDoc
open Go.RowKit Go.Proofs.YtjgaikmejccdkaaDoorW.PrintWords Go.Proofs.YtjgaikmejccdkaaDoorW.PrintLast
open Codes (cb U U_val cb_le)
set_option linter.unusedVariables false
set_option linter.unusedSimpArgs false
abbrev B (b : ByteArray) : List UInt8 := b.data.toList
theorem B_size (b : ByteArray) : (B b).length = b.size := by simp [B]
theorem B_ext (b : ByteArray) (i j : Nat) : B (b.extract i j) = ((B b).drop i).take (j - i) := by
  simp [B, ByteArray.data_extract, Array.toList_extract, List.extract_eq_take_drop]
theorem B_mk (l : List UInt8) : B ⟨l.toArray⟩ = l := by simp [B]
theorem B_app (a b : ByteArray) : B (a ++ b) = B a ++ B b := by simp [B]
theorem B_inj {a b : ByteArray} (h : B a = B b) : a = b := by
  have : a.data = b.data := Array.toList_inj.1 h
  cases a; cases b; simp_all
theorem toList_eq (b : ByteArray) : b.toList = B b := ByteArray.toList_eq b
theorem w64 (x : Int) (h1 : -9223372036854775808 ≤ x) (h2 : x ≤ 9223372036854775807) : wrap64 x = x := by unfold wrap64; omega
theorem bt_B (s : ByteArray) (i : Nat) : bt s (i : Int) = (((B s).getD i 0).toNat : Int) := by
  unfold bt
  simp only [Int.toNat_natCast]
  split
  · rename_i h
    have : (B s).getD i 0 = s[i] := by
      rw [List.getD_eq_getElem?_getD, List.getElem?_eq_getElem (by rw [B_size]; exact h)]
      simp [B, ByteArray.getElem_eq_getElem_data]
    rw [this]
  · rename_i h
    rw [List.getD_eq_getElem?_getD, List.getElem?_eq_none (by rw [B_size]; omega)]
    rfl
/-- A right code point. -/
def ri (n : Int) : Prop := 0 ≤ n ∧ n ≤ 1114111 ∧ (n < 55296 ∨ 57343 < n)
instance (n : Int) : Decidable (ri n) := by unfold ri; infer_instance
theorem right_f (n : Int) : codes_right.f n = some (decide (ri n)) := by
  have key : ∀ b : Bool, (ri n ↔ b = true) → some b = some (decide (ri n)) := by
    intro b h
    congr 1
    cases b with
    | true => exact (decide_eq_true (h.2 rfl)).symm
    | false => exact (decide_eq_false (fun q => by have := h.1 q; cases this)).symm
  unfold codes_right.f
  by_cases c1 : n ≥ 0
  · rw [if_pos c1]
    by_cases c2 : n ≤ 1114111
    · rw [if_pos c2]
      by_cases c3 : n < 55296
      · rw [if_pos c3]; exact key _ (by unfold ri; simp; omega)
      · rw [if_neg c3]; exact key _ (by unfold ri; simp; omega)
    · rw [if_neg c2]; exact key _ (by unfold ri; simp; omega)
  · rw [if_neg c1]; exact key _ (by unfold ri; simp; omega)
theorem rRight_f (n : Int) : frisketref04_Right.f n = some (decide (ri n)) := by
  have key : ∀ b : Bool, (ri n ↔ b = true) → some b = some (decide (ri n)) := by
    intro b h
    congr 1
    cases b with
    | true => exact (decide_eq_true (h.2 rfl)).symm
    | false => exact (decide_eq_false (fun q => by have := h.1 q; cases this)).symm
  unfold frisketref04_Right.f
  by_cases c1 : n ≥ 0
  · rw [if_pos c1]
    by_cases c2 : n ≤ 1114111
    · rw [if_pos c2]
      by_cases c3 : n ≥ 55296
      · rw [if_pos c3]; exact key _ (by unfold ri; simp; omega)
      · rw [if_neg c3]; exact key _ (by unfold ri; simp; omega)
    · rw [if_neg c2]; exact key _ (by unfold ri; simp; omega)
  · rw [if_neg c1]; exact key _ (by unfold ri; simp; omega)
theorem sn_cb (n : Int) (l : List Int) (h : l = (cb n).map fun b => (b.toNat : Int)) : strOfNums l = ⟨(cb n).toArray⟩ := by rw [h]; simp only [strOfNums, List.map_map]; congr 1; congr 1; exact (List.map_congr_left (fun b _ => by simp)).trans (List.map_id _)
theorem tdv (n d : Int) (h : 0 ≤ n) : Int.tdiv n d = n / d := Int.tdiv_eq_ediv_of_nonneg h
theorem tmd (n d : Int) (h : 0 ≤ n) : Int.tmod n d = n % d := Int.tmod_eq_emod_of_nonneg h
theorem rBytes_f (n : Int) (h : ri n) : frisketref04_Bytes.f n = some ⟨(cb n).toArray⟩ := by
  obtain ⟨h0, h1, _⟩ := h
  unfold frisketref04_Bytes.f
  by_cases c1 : n < 128
  · rw [if_pos c1, sn_cb n]
    unfold cb
    rw [if_pos c1]
    simp only [List.map_cons, List.map_nil]
    rw [U_val _ h0 (by omega), Int.emod_eq_of_lt h0 (by omega)]
  rw [if_neg c1]
  have m0 : wrap64 (128 + Int.tmod n 64) % 256 = 128 + n % 64 := by rw [tmd _ _ h0, w64 _ (by omega) (by omega)]; omega
  have d0 : wrap64 (Int.tdiv n 64) = n / 64 := by rw [tdv _ _ h0, w64 _ (by omega) (by omega)]
  have m1 : wrap64 (128 + Int.tmod (n / 64) 64) % 256 = 128 + n / 64 % 64 := by rw [tmd _ _ (by omega), w64 _ (by omega) (by omega)]; omega
  by_cases c2 : n < 2048
  · rw [if_pos c2, sn_cb n]
    unfold cb
    rw [if_neg c1, if_pos c2]
    simp only [List.map_cons, List.map_nil]
    rw [m0, d0, w64 (192 + n / 64) (by omega) (by omega), U_val _ (by omega) (by omega), U_val _ (by omega) (by omega), Int.emod_eq_of_lt (a := 192 + n / 64) (by omega) (by omega)]
  rw [if_neg c2]
  have d1 : wrap64 (Int.tdiv n 4096) = n / 4096 := by rw [tdv _ _ h0, w64 _ (by omega) (by omega)]
  have m2 : wrap64 (128 + Int.tmod (n / 4096) 64) % 256 = 128 + n / 4096 % 64 := by rw [tmd _ _ (by omega), w64 _ (by omega) (by omega)]; omega
  by_cases c3 : n < 65536
  · rw [if_pos c3, sn_cb n]
    unfold cb
    rw [if_neg c1, if_neg c2, if_pos c3]
    simp only [List.map_cons, List.map_nil]
    rw [m0, d0, m1, d1, w64 (224 + n / 4096) (by omega) (by omega), U_val _ (by omega) (by omega), U_val _ (by omega) (by omega), U_val _ (by omega) (by omega), Int.emod_eq_of_lt (a := 224 + n / 4096) (by omega) (by omega)]
  rw [if_neg c3]
  have d2 : wrap64 (Int.tdiv n 262144) = n / 262144 := by rw [tdv _ _ h0, w64 _ (by omega) (by omega)]
  rw [sn_cb n]
  unfold cb
  rw [if_neg c1, if_neg c2, if_neg c3]
  simp only [List.map_cons, List.map_nil]
  rw [m0, d0, m1, d1, m2, d2, w64 (240 + n / 262144) (by omega) (by omega), U_val _ (by omega) (by omega), U_val _ (by omega) (by omega), U_val _ (by omega) (by omega), U_val _ (by omega) (by omega), Int.emod_eq_of_lt (a := 240 + n / 262144) (by omega) (by omega)]
/-! ### Bits -/
theorem and192 (b : Int) (h0 : 0 ≤ b) (h1 : b ≤ 255) : bits .and .u8 b 192 = 128 ↔ 128 ≤ b ∧ b < 192 := by
  have key : ∀ m : Fin 256, (bits .and .u8 (m.val : Int) 192 = 128) ↔ (128 ≤ (m.val : Int) ∧ (m.val : Int) < 192) := by decide +kernel
  have := key ⟨b.toNat, by omega⟩
  rw [show ((b.toNat : Nat) : Int) = b from by omega] at this
  exact this
theorem xor_ok (b l : Int) (h0 : 0 ≤ b) (h1 : b ≤ 255) (hl : l = 0 ∨ l = 192 ∨ l = 224 ∨ l = 240) : 0 ≤ bits .xor .u8 b l ∧ bits .xor .u8 b l ≤ 255 := by
  have k0 : ∀ m : Fin 256, 0 ≤ bits .xor .u8 (m.val : Int) 0 ∧ bits .xor .u8 (m.val : Int) 0 ≤ 255 := by decide +kernel
  have k1 : ∀ m : Fin 256, 0 ≤ bits .xor .u8 (m.val : Int) 192 ∧ bits .xor .u8 (m.val : Int) 192 ≤ 255 := by decide +kernel
  have k2 : ∀ m : Fin 256, 0 ≤ bits .xor .u8 (m.val : Int) 224 ∧ bits .xor .u8 (m.val : Int) 224 ≤ 255 := by decide +kernel
  have k3 : ∀ m : Fin 256, 0 ≤ bits .xor .u8 (m.val : Int) 240 ∧ bits .xor .u8 (m.val : Int) 240 ≤ 255 := by decide +kernel
  have e : ((b.toNat : Nat) : Int) = b := by omega
  rcases hl with rfl | rfl | rfl | rfl
  · have := k0 ⟨b.toNat, by omega⟩; rw [e] at this; exact this
  · have := k1 ⟨b.toNat, by omega⟩; rw [e] at this; exact this
  · have := k2 ⟨b.toNat, by omega⟩; rw [e] at this; exact this
  · have := k3 ⟨b.toNat, by omega⟩; rw [e] at this; exact this
theorem xor_0 (q : Int) (h0 : 0 ≤ q) (h1 : q < 128) : bits .xor .u8 q 0 = q := by
  have k0 : ∀ m : Fin 128, bits .xor .u8 (m.val : Int) 0 = (m.val : Int) := by decide +kernel
  have := k0 ⟨q.toNat, by omega⟩
  rw [show ((q.toNat : Nat) : Int) = q from by omega] at this
  exact this
theorem xor_192 (q : Int) (h0 : 0 ≤ q) (h1 : q < 32) : bits .xor .u8 (192 + q) 192 = q := by
  have k0 : ∀ m : Fin 32, bits .xor .u8 (192 + (m.val : Int)) 192 = (m.val : Int) := by decide +kernel
  have := k0 ⟨q.toNat, by omega⟩
  rw [show ((q.toNat : Nat) : Int) = q from by omega] at this
  exact this
theorem xor_224 (q : Int) (h0 : 0 ≤ q) (h1 : q < 16) : bits .xor .u8 (224 + q) 224 = q := by
  have k0 : ∀ m : Fin 16, bits .xor .u8 (224 + (m.val : Int)) 224 = (m.val : Int) := by decide +kernel
  have := k0 ⟨q.toNat, by omega⟩
  rw [show ((q.toNat : Nat) : Int) = q from by omega] at this
  exact this
theorem xor_240 (q : Int) (h0 : 0 ≤ q) (h1 : q < 8) : bits .xor .u8 (240 + q) 240 = q := by
  have k0 : ∀ m : Fin 8, bits .xor .u8 (240 + (m.val : Int)) 240 = (m.val : Int) := by decide +kernel
  have := k0 ⟨q.toNat, by omega⟩
  rw [show ((q.toNat : Nat) : Int) = q from by omega] at this
  exact this
theorem or6 (x y : Int) (h0 : 0 ≤ x) (h1 : x < 1152921504606846976) (h2 : x % 64 = 0) (h3 : 0 ≤ y) (h4 : y < 64) : bits .or .i64 x y = x + y :=
  bits_join .i64 60 (by decide) (fun n a b => by rw [IntKind.wrap_i64]; omega) 6 x y h0 h2 (by omega) h3 (by omega) (by omega)
/-! ### One form, and the four -/
/-- A round of a form. -/
theorem read_step (t : ByteArray) (k : Nat) (x : Int) (i z : Nat) (m l : Int) (hx : 0 ≤ x) (hx2 : x ≤ 1099511627776) (hi : i < z) (hz : z ≤ t.size) (hz4 : z ≤ 4) :
    codes_form_read.l0 (k + 1) t x (i : Int) m (z : Int) l = if 128 ≤ bt t (i : Int) ∧ bt t (i : Int) < 192 then codes_form_read.l0 k t (x * 64 + bt t (i : Int) % 64) ((i + 1 : Nat) : Int) m (z : Int) l else some (0, false) := by
  have hb := bt_range t (i : Int)
  simp only [codes_form_read.l0]
  rw [if_pos (by omega), if_pos (by omega), if_pos (by omega)]
  by_cases c : 128 ≤ bt t (i : Int) ∧ bt t (i : Int) < 192
  · rw [if_pos c, if_pos ((and192 _ hb.1 hb.2).2 c), u8_and63 _ hb.1 (by omega), w64 (x * 64) (by omega) (by omega), w64 (bt t (i : Int) % 64) (by omega) (by omega), or6 _ _ (by omega) (by omega) (by omega) (by omega) (by omega), w64 ((i : Int) + 1) (by omega) (by omega)]
    rfl
  · rw [if_neg c, if_neg (fun h => c ((and192 _ hb.1 hb.2).1 h))]
theorem read_last (t : ByteArray) (k : Nat) (x : Int) (z : Nat) (m l : Int) (hz : z ≤ t.size) :
    codes_form_read.l0 (k + 1) t x (z : Int) m (z : Int) l = some (x, decide (ri x ∧ cb x = (B t).take z)) := by
  simp only [codes_form_read.l0]
  rw [if_neg (by omega), right_f]
  simp only [Option.bind_some]
  by_cases c : ri x
  · rw [if_pos (decide_eq_true c)]
    have hc := c
    obtain ⟨c1, c2, _⟩ := c
    unfold codes_bytes.f
    rw [if_pos ⟨c1, c2⟩]
    simp only [Option.bind_some]
    rw [if_pos (by omega), if_pos (by omega), toList_eq, toList_eq, B_ext, show strOfNums (codes_bytes.l x) = ⟨(cb x).toArray⟩ from sn_cb x _ rfl, B_mk]
    simp only [Int.toNat_natCast, List.drop_zero, Nat.sub_zero, hc, true_and]
    congr 1
    congr 1
    by_cases e : cb x = (B t).take z
    · rw [decide_eq_true e]; exact beq_iff_eq.2 e
    · rw [decide_eq_false e]; exact beq_eq_false_iff_ne.2 e
  · rw [if_neg (by rw [decide_eq_false c]; simp), decide_eq_false (fun h => c h.1)]
/-- What a form may tell. -/
def Tells (t : ByteArray) (z : Nat) (r : Option (Int × Bool)) : Prop :=
  ∃ x b, r = some (x, b) ∧ (b = true → ri x ∧ cb x = (B t).take z ∧ z ≤ t.size)
theorem tells_no (t : ByteArray) (z : Nat) : Tells t z (some (0, false)) := ⟨0, false, rfl, fun h => by cases h⟩
theorem tells_last (t : ByteArray) (k : Nat) (x : Int) (z : Nat) (m l : Int) (hz : z ≤ t.size) : Tells t z (codes_form_read.l0 (k + 1) t x (z : Int) m (z : Int) l) := by
  rw [read_last t k x z m l hz]
  exact ⟨_, _, rfl, fun h => by have := of_decide_eq_true h; exact ⟨this.1, this.2, hz⟩⟩
theorem tells (t : ByteArray) (k : Nat) (z : Nat) (m l : Int) (h1 : 1 ≤ z) (h4 : z ≤ 4) (hl : l = 0 ∨ l = 192 ∨ l = 224 ∨ l = 240) : Tells t z (codes_form_read.f (k + 4) m (z : Int) l t) := by
  unfold codes_form_read.f
  by_cases c : (t.size : Int) < (z : Int)
  · rw [if_pos c]; exact tells_no t z
  rw [if_neg c, if_pos (by omega)]
  have hb := bt_range t 0
  have hx := xor_ok _ l hb.1 hb.2 hl
  generalize bits .xor .u8 (bt t 0) l = x at hx
  rw [w64 x (by omega) (by omega)]
  have hz : z ≤ t.size := by omega
  obtain ⟨hx0, hx1⟩ := hx
  rcases (show z = 1 ∨ z = 2 ∨ z = 3 ∨ z = 4 from by omega) with rfl | rfl | rfl | rfl
  · exact tells_last t _ x 1 m l hz
  · rw [show (1 : Int) = ((1 : Nat) : Int) from rfl, read_step t (k + 3) x 1 2 m l hx0 (by omega) (by omega) hz h4]
    split
    · exact tells_last t _ _ 2 m l hz
    · exact tells_no _ _
  · rw [show (1 : Int) = ((1 : Nat) : Int) from rfl, read_step t (k + 3) x 1 3 m l hx0 (by omega) (by omega) hz h4]
    have hb1 := bt_range t ((1 : Nat) : Int)
    split
    · rw [read_step t (k + 2) _ 2 3 m l (by omega) (by omega) (by omega) hz h4]
      split
      · exact tells_last t _ _ 3 m l hz
      · exact tells_no _ _
    · exact tells_no _ _
  · rw [show (1 : Int) = ((1 : Nat) : Int) from rfl, read_step t (k + 3) x 1 4 m l hx0 (by omega) (by omega) hz h4]
    have hb1 := bt_range t ((1 : Nat) : Int)
    split
    · rw [read_step t (k + 2) _ 2 4 m l (by omega) (by omega) (by omega) hz h4]
      have hb2 := bt_range t ((2 : Nat) : Int)
      split
      · rw [read_step t (k + 1) _ 3 4 m l (by omega) (by omega) (by omega) hz h4]
        split
        · exact tells_last t _ _ 4 m l hz
        · exact tells_no _ _
      · exact tells_no _ _
    · exact tells_no _ _
/-- The form of a code point finds it. -/
theorem finds (t : ByteArray) (k : Nat) (n : Int) (h : ri n) (r : List UInt8) (ht : B t = cb n ++ r) (m l : Int) (hl : l = if n < 128 then 0 else if n < 2048 then 192 else if n < 65536 then 224 else 240) :
    codes_form_read.f (k + 4) m ((cb n).length : Int) l t = some (n, true) := by
  have hsz : t.size = (cb n).length + r.length := by rw [← B_size, ht, List.length_append]
  have hlast : ∀ j, codes_form_read.l0 (j + 1) t n ((cb n).length : Int) m ((cb n).length : Int) l = some (n, true) := by
    intro j
    rw [read_last t j n _ m l (by omega), decide_eq_true]
    exact ⟨h, by rw [ht]; simp⟩
  have hcl := cb_le n
  obtain ⟨h0, h1, _⟩ := h
  unfold codes_form_read.f
  rw [if_neg (by omega), if_pos (by omega)]
  have hbt : ∀ i : Nat, bt t (i : Int) = (((cb n ++ r).getD i 0).toNat : Int) := fun i => by rw [bt_B, ht]
  have hb0 := hbt 0
  have hb1 := hbt 1
  have hb2 := hbt 2
  have hb3 := hbt 3
  clear hbt ht
  by_cases c1 : n < 128
  · rw [if_pos c1] at hl
    subst hl
    have e : cb n = [U n] := by unfold cb; rw [if_pos c1]
    have hl2 : (cb n).length = 1 := by rw [e]; rfl
    rw [hl2] at hlast hsz ⊢
    rw [e] at hb0 hb1 hb2 hb3
    have b0 : bt t 0 = n := by
      refine hb0.trans ?_
      exact U_val n h0 (by omega)
    rw [b0, xor_0 n h0 c1, w64 n (by omega) (by omega)]
    exact hlast _
  rw [if_neg c1] at hl
  by_cases c2 : n < 2048
  · rw [if_pos c2] at hl
    subst hl
    have e : cb n = [U (192 + n / 64), U (128 + n % 64)] := by unfold cb; rw [if_neg c1, if_pos c2]
    have hl2 : (cb n).length = 2 := by rw [e]; rfl
    rw [hl2] at hlast hsz ⊢
    rw [e] at hb0 hb1 hb2 hb3
    have b0 : bt t 0 = 192 + n / 64 := hb0.trans (U_val _ (by omega) (by omega))
    have b1 : bt t ((1 : Nat) : Int) = 128 + n % 64 := hb1.trans (U_val _ (by omega) (by omega))
    rw [b0, xor_192 _ (by omega) (by omega), w64 _ (by omega) (by omega)]
    refine (read_step t (k + 3) _ 1 2 m 192 (by omega) (by omega) (by omega) (by omega) (by omega)).trans ?_
    rw [b1, if_pos (by omega), show n / 64 * 64 + (128 + n % 64) % 64 = n from by omega]
    exact hlast _
  rw [if_neg c2] at hl
  by_cases c3 : n < 65536
  · rw [if_pos c3] at hl
    subst hl
    have e : cb n = [U (224 + n / 4096), U (128 + n / 64 % 64), U (128 + n % 64)] := by unfold cb; rw [if_neg c1, if_neg c2, if_pos c3]
    have hl2 : (cb n).length = 3 := by rw [e]; rfl
    rw [hl2] at hlast hsz ⊢
    rw [e] at hb0 hb1 hb2 hb3
    have b0 : bt t 0 = 224 + n / 4096 := hb0.trans (U_val _ (by omega) (by omega))
    have b1 : bt t ((1 : Nat) : Int) = 128 + n / 64 % 64 := hb1.trans (U_val _ (by omega) (by omega))
    have b2 : bt t ((2 : Nat) : Int) = 128 + n % 64 := hb2.trans (U_val _ (by omega) (by omega))
    rw [b0, xor_224 _ (by omega) (by omega), w64 _ (by omega) (by omega)]
    refine (read_step t (k + 3) _ 1 3 m 224 (by omega) (by omega) (by omega) (by omega) (by omega)).trans ?_
    rw [b1, if_pos (by omega)]
    refine (read_step t (k + 2) _ 2 3 m 224 (by omega) (by omega) (by omega) (by omega) (by omega)).trans ?_
    rw [b2, if_pos (by omega), show (n / 4096 * 64 + (128 + n / 64 % 64) % 64) * 64 + (128 + n % 64) % 64 = n from by omega]
    exact hlast _
  rw [if_neg c3] at hl
  subst hl
  have e : cb n = [U (240 + n / 262144), U (128 + n / 4096 % 64), U (128 + n / 64 % 64), U (128 + n % 64)] := by unfold cb; rw [if_neg c1, if_neg c2, if_neg c3]
  have hl2 : (cb n).length = 4 := by rw [e]; rfl
  rw [hl2] at hlast hsz ⊢
  rw [e] at hb0 hb1 hb2 hb3
  have b0 : bt t 0 = 240 + n / 262144 := hb0.trans (U_val _ (by omega) (by omega))
  have b1 : bt t ((1 : Nat) : Int) = 128 + n / 4096 % 64 := hb1.trans (U_val _ (by omega) (by omega))
  have b2 : bt t ((2 : Nat) : Int) = 128 + n / 64 % 64 := hb2.trans (U_val _ (by omega) (by omega))
  have b3 : bt t ((3 : Nat) : Int) = 128 + n % 64 := hb3.trans (U_val _ (by omega) (by omega))
  rw [b0, xor_240 _ (by omega) (by omega), w64 _ (by omega) (by omega)]
  refine (read_step t (k + 3) _ 1 4 m 240 (by omega) (by omega) (by omega) (by omega) (by omega)).trans ?_
  rw [b1, if_pos (by omega)]
  refine (read_step t (k + 2) _ 2 4 m 240 (by omega) (by omega) (by omega) (by omega) (by omega)).trans ?_
  rw [b2, if_pos (by omega)]
  refine (read_step t (k + 1) _ 3 4 m 240 (by omega) (by omega) (by omega) (by omega) (by omega)).trans ?_
  rw [b3, if_pos (by omega), show ((n / 262144 * 64 + (128 + n / 4096 % 64) % 64) * 64 + (128 + n / 64 % 64) % 64) * 64 + (128 + n % 64) % 64 = n from by omega]
  exact hlast _
/-! ### Which code point heads a text -/
theorem U_inj {x y : Int} (hx : 0 ≤ x) (hx1 : x < 256) (hy : 0 ≤ y) (hy1 : y < 256) (h : U x = U y) : x = y := by
  rw [← U_val x hx hx1, ← U_val y hy hy1, h]
/-- The first byte tells the length. -/
theorem cb_first (n : Int) (h0 : 0 ≤ n) (h1 : n ≤ 1114111) : ∃ x r, cb n = U x :: r ∧ 0 ≤ x ∧ x < 256 ∧ (cb n).length = (if x < 128 then 1 else if x < 224 then 2 else if x < 240 then 3 else 4) := by
  unfold cb
  by_cases c1 : n < 128
  · rw [if_pos c1]; exact ⟨n, _, rfl, h0, by omega, by rw [if_pos c1]; rfl⟩
  rw [if_neg c1]
  by_cases c2 : n < 2048
  · rw [if_pos c2]; exact ⟨192 + n / 64, _, rfl, by omega, by omega, by rw [if_neg (by omega), if_pos (by omega)]; rfl⟩
  rw [if_neg c2]
  by_cases c3 : n < 65536
  · rw [if_pos c3]; exact ⟨224 + n / 4096, _, rfl, by omega, by omega, by rw [if_neg (by omega), if_neg (by omega), if_pos (by omega)]; rfl⟩
  rw [if_neg c3]
  exact ⟨240 + n / 262144, _, rfl, by omega, by omega, by rw [if_neg (by omega), if_neg (by omega), if_neg (by omega)]; rfl⟩
theorem cb_inj (a b : Int) (ha : ri a) (hb : ri b) (h : cb a = cb b) : a = b := by
  obtain ⟨a0, a1, _⟩ := ha
  obtain ⟨b0, b1, _⟩ := hb
  unfold cb at h
  by_cases c1 : a < 128
  · rw [if_pos c1] at h
    by_cases d1 : b < 128
    · rw [if_pos d1] at h
      simp only [List.cons.injEq, and_true] at h
      exact U_inj (by omega) (by omega) (by omega) (by omega) h
    · rw [if_neg d1] at h
      repeat' split at h
      all_goals simp at h
  rw [if_neg c1] at h
  by_cases c2 : a < 2048
  · rw [if_pos c2] at h
    by_cases d1 : b < 128
    · rw [if_pos d1] at h; simp at h
    rw [if_neg d1] at h
    by_cases d2 : b < 2048
    · rw [if_pos d2] at h
      simp only [List.cons.injEq, and_true] at h
      have e1 := U_inj (by omega) (by omega) (by omega) (by omega) h.1
      have e2 := U_inj (by omega) (by omega) (by omega) (by omega) h.2
      omega
    · rw [if_neg d2] at h
      repeat' split at h
      all_goals simp at h
  rw [if_neg c2] at h
  by_cases c3 : a < 65536
  · rw [if_pos c3] at h
    by_cases d1 : b < 128
    · rw [if_pos d1] at h; simp at h
    rw [if_neg d1] at h
    by_cases d2 : b < 2048
    · rw [if_pos d2] at h; simp at h
    rw [if_neg d2] at h
    by_cases d3 : b < 65536
    · rw [if_pos d3] at h
      simp only [List.cons.injEq, and_true] at h
      have e1 := U_inj (by omega) (by omega) (by omega) (by omega) h.1
      have e2 := U_inj (by omega) (by omega) (by omega) (by omega) h.2.1
      have e3 := U_inj (by omega) (by omega) (by omega) (by omega) h.2.2
      omega
    · rw [if_neg d3] at h; simp at h
  rw [if_neg c3] at h
  by_cases d1 : b < 128
  · rw [if_pos d1] at h; simp at h
  rw [if_neg d1] at h
  by_cases d2 : b < 2048
  · rw [if_pos d2] at h; simp at h
  rw [if_neg d2] at h
  by_cases d3 : b < 65536
  · rw [if_pos d3] at h; simp at h
  rw [if_neg d3] at h
  simp only [List.cons.injEq, and_true] at h
  have e1 := U_inj (by omega) (by omega) (by omega) (by omega) h.1
  have e2 := U_inj (by omega) (by omega) (by omega) (by omega) h.2.1
  have e3 := U_inj (by omega) (by omega) (by omega) (by omega) h.2.2.1
  have e4 := U_inj (by omega) (by omega) (by omega) (by omega) h.2.2.2
  omega
theorem cb_len_of_first (a b : Int) (ha : ri a) (hb : ri b) (r s : List UInt8) (h : cb a ++ r = cb b ++ s) : (cb a).length = (cb b).length := by
  obtain ⟨x, p, e1, x0, x1, l1⟩ := cb_first a ha.1 ha.2.1
  obtain ⟨y, q, e2, y0, y1, l2⟩ := cb_first b hb.1 hb.2.1
  rw [e1, e2] at h
  simp only [List.cons_append, List.cons.injEq] at h
  have := U_inj x0 x1 y0 y1 h.1
  subst this
  rw [l1, l2]
theorem cb_pre (a b : Int) (ha : ri a) (hb : ri b) (r s : List UInt8) (h : cb a ++ r = cb b ++ s) : a = b ∧ r = s := by
  have hl := cb_len_of_first a b ha hb r s h
  obtain ⟨e1, e2⟩ := List.append_inj h hl
  exact ⟨cb_inj a b ha hb e1, e2⟩
theorem take_pre (x : Int) (t : ByteArray) (z : Nat) (h : cb x = (B t).take z) : B t = cb x ++ (B t).drop z := by
  rw [h, List.take_append_drop]
theorem z_len (x : Int) (t : ByteArray) (z : Nat) (h : cb x = (B t).take z) (hz : z ≤ t.size) : (cb x).length = z := by
  rw [h, List.length_take, B_size]; omega
/-- A head: some right code point's bytes begin the text. -/
theorem step_yes (t : ByteArray) (k : Nat) (n : Int) (h : ri n) (r : List UInt8) (ht : B t = cb n ++ r) : codes_Step.g (k + 4) t = some (n, ((cb n).length : Int), true) := by
  have other : ∀ (z : Nat) (m l : Int), 1 ≤ z → z ≤ 4 → (l = 0 ∨ l = 192 ∨ l = 224 ∨ l = 240) → z ≠ (cb n).length → ∃ x, codes_form_read.f (k + 4) m (z : Int) l t = some (x, false) := by
    intro z m l h1 h4 hl hne
    obtain ⟨x, b, e, hb⟩ := tells t k z m l h1 h4 hl
    cases b with
    | false => exact ⟨x, e⟩
    | true =>
      exfalso
      obtain ⟨q1, q2, q3⟩ := hb rfl
      have e1 := take_pre x t z q2
      have e2 := z_len x t z q2 q3
      rw [ht] at e1
      obtain ⟨rfl, _⟩ := cb_pre n x h q1 _ _ e1
      exact hne e2.symm
  have hf := fun m l hl => finds t k n h r ht m l hl
  unfold codes_Step.g
  obtain ⟨h0, h1, _⟩ := h
  by_cases c1 : n < 128
  · have e : (cb n).length = 1 := by unfold cb; rw [if_pos c1]; rfl
    have := hf 127 0 (by rw [if_pos c1])
    rw [e] at this
    rw [show ((1 : Nat) : Int) = 1 from rfl] at this
    rw [this, e]
    rfl
  by_cases c2 : n < 2048
  · have e : (cb n).length = 2 := by unfold cb; rw [if_neg c1, if_pos c2]; rfl
    obtain ⟨x1, f1⟩ := other 1 127 0 (by omega) (by omega) (by simp) (by omega)
    have := hf 2047 192 (by rw [if_neg c1, if_pos c2])
    rw [e] at this
    rw [show ((1 : Nat) : Int) = 1 from rfl] at f1
    rw [show ((2 : Nat) : Int) = 2 from rfl] at this
    rw [f1, e]
    simp only [Option.bind_some]
    rw [if_neg (by simp), this]
    rfl
  by_cases c3 : n < 65536
  · have e : (cb n).length = 3 := by unfold cb; rw [if_neg c1, if_neg c2, if_pos c3]; rfl
    obtain ⟨x1, f1⟩ := other 1 127 0 (by omega) (by omega) (by simp) (by omega)
    obtain ⟨x2, f2⟩ := other 2 2047 192 (by omega) (by omega) (by simp) (by omega)
    have := hf 65535 224 (by rw [if_neg c1, if_neg c2, if_pos c3])
    rw [e] at this
    rw [show ((1 : Nat) : Int) = 1 from rfl] at f1
    rw [show ((2 : Nat) : Int) = 2 from rfl] at f2
    rw [show ((3 : Nat) : Int) = 3 from rfl] at this
    rw [f1, e]
    simp only [Option.bind_some]
    rw [if_neg (by simp), f2]
    simp only [Option.bind_some]
    rw [if_neg (by simp), this]
    rfl
  · have e : (cb n).length = 4 := by unfold cb; rw [if_neg c1, if_neg c2, if_neg c3]; rfl
    obtain ⟨x1, f1⟩ := other 1 127 0 (by omega) (by omega) (by simp) (by omega)
    obtain ⟨x2, f2⟩ := other 2 2047 192 (by omega) (by omega) (by simp) (by omega)
    obtain ⟨x3, f3⟩ := other 3 65535 224 (by omega) (by omega) (by simp) (by omega)
    have := hf 1114111 240 (by rw [if_neg c1, if_neg c2, if_neg c3])
    rw [e] at this
    rw [show ((1 : Nat) : Int) = 1 from rfl] at f1
    rw [show ((2 : Nat) : Int) = 2 from rfl] at f2
    rw [show ((3 : Nat) : Int) = 3 from rfl] at f3
    rw [show ((4 : Nat) : Int) = 4 from rfl] at this
    rw [f1, e]
    simp only [Option.bind_some]
    rw [if_neg (by simp), f2]
    simp only [Option.bind_some]
    rw [if_neg (by simp), f3]
    simp only [Option.bind_some]
    rw [if_neg (by simp), this]
    rfl
theorem step_no (t : ByteArray) (k : Nat) (h : ∀ n r, ri n → B t ≠ cb n ++ r) : codes_Step.g (k + 4) t = some (0, 0, false) := by
  have other : ∀ (z : Nat) (m l : Int), 1 ≤ z → z ≤ 4 → (l = 0 ∨ l = 192 ∨ l = 224 ∨ l = 240) → ∃ x, codes_form_read.f (k + 4) m (z : Int) l t = some (x, false) := by
    intro z m l h1 h4 hl
    obtain ⟨x, b, e, hb⟩ := tells t k z m l h1 h4 hl
    cases b with
    | false => exact ⟨x, e⟩
    | true =>
      exfalso
      obtain ⟨q1, q2, q3⟩ := hb rfl
      exact h x _ q1 (take_pre x t z q2)
  unfold codes_Step.g
  obtain ⟨x1, f1⟩ := other 1 127 0 (by omega) (by omega) (by simp)
  obtain ⟨x2, f2⟩ := other 2 2047 192 (by omega) (by omega) (by simp)
  obtain ⟨x3, f3⟩ := other 3 65535 224 (by omega) (by omega) (by simp)
  obtain ⟨x4, f4⟩ := other 4 1114111 240 (by omega) (by omega) (by simp)
  rw [show ((1 : Nat) : Int) = 1 from rfl] at f1
  rw [show ((2 : Nat) : Int) = 2 from rfl] at f2
  rw [show ((3 : Nat) : Int) = 3 from rfl] at f3
  rw [show ((4 : Nat) : Int) = 4 from rfl] at f4
  rw [f1]
  simp only [Option.bind_some]
  rw [if_neg (by simp), f2]
  simp only [Option.bind_some]
  rw [if_neg (by simp), f3]
  simp only [Option.bind_some]
  rw [if_neg (by simp), f4]
  rfl
/-! ### The reference -/
theorem ref_round (t : ByteArray) (k : Nat) (x : Int) (i z : Nat) (hx : -1000 ≤ x) (hx2 : x ≤ 1099511627776) (hi : i < z) (hz : z ≤ t.size) (hz4 : z ≤ 4) :
    frisketref04_Step.l0 (k + 1) t (z : Int) x (i : Int) = frisketref04_Step.l0 k t (z : Int) (x * 64 + bt t (i : Int) % 64) ((i + 1 : Nat) : Int) := by
  have hb := bt_range t (i : Int)
  simp only [frisketref04_Step.l0]
  rw [if_pos (by omega), if_pos (by omega), if_pos (by omega), w64 (bt t (i : Int)) (by omega) (by omega), tmd _ _ hb.1, w64 (x * 64) (by omega) (by omega), w64 _ (by omega) (by omega), w64 ((i : Int) + 1) (by omega) (by omega)]
  rfl
theorem ref_last (t : ByteArray) (k : Nat) (x : Int) (z : Nat) (hz : z ≤ t.size) :
    frisketref04_Step.l0 (k + 1) t (z : Int) x (z : Int) = if ri x ∧ cb x = (B t).take z then some (x, (z : Int)) else some (-1, 0) := by
  simp only [frisketref04_Step.l0]
  rw [if_neg (by omega), rRight_f]
  simp only [Option.bind_some]
  by_cases c : ri x
  · rw [if_pos (decide_eq_true c), rBytes_f x c]
    simp only [Option.bind_some]
    rw [if_pos (by omega), if_pos (by omega), toList_eq, toList_eq, B_ext, B_mk]
    simp only [Int.toNat_natCast, List.drop_zero, Nat.sub_zero, c, true_and]
  · rw [if_neg (by rw [decide_eq_false c]; simp), if_neg (fun h => c h.1)]
/-- What the reference may tell of a text. -/
def RTells (t : ByteArray) (r : Option (Int × Int)) : Prop :=
  r = some (-1, 0) ∨ ∃ x z, r = some (x, ((z : Nat) : Int)) ∧ ri x ∧ cb x = (B t).take z ∧ z ≤ t.size
theorem rtells_last (t : ByteArray) (k : Nat) (x : Int) (z : Nat) (hz : z ≤ t.size) : RTells t (frisketref04_Step.l0 (k + 1) t (z : Int) x (z : Int)) := by
  rw [ref_last t k x z hz]
  split
  · rename_i h; exact Or.inr ⟨x, z, rfl, h.1, h.2, hz⟩
  · exact Or.inl rfl
theorem rtells_j (t : ByteArray) (k : Nat) (x : Int) (z : Nat) (hx : 0 ≤ x) (hx2 : x ≤ 255) (h1 : 1 ≤ z) (h4 : z ≤ 4) : RTells t (frisketref04_Step.j0 (k + 5) t (z : Int) x) := by
  simp only [frisketref04_Step.j0]
  by_cases c : (t.size : Int) < (z : Int)
  · rw [if_pos c]; exact Or.inl rfl
  rw [if_neg c]
  have hz : z ≤ t.size := by omega
  rw [show (1 : Int) = ((1 : Nat) : Int) from rfl]
  have hb1 := bt_range t ((1 : Nat) : Int)
  have hb2 := bt_range t ((2 : Nat) : Int)
  rcases (show z = 1 ∨ z = 2 ∨ z = 3 ∨ z = 4 from by omega) with rfl | rfl | rfl | rfl
  · exact rtells_last t _ x 1 hz
  · rw [ref_round t (k + 3) x 1 2 (by omega) (by omega) (by omega) hz h4]
    exact rtells_last t _ _ 2 hz
  · rw [ref_round t (k + 3) x 1 3 (by omega) (by omega) (by omega) hz h4, ref_round t (k + 2) _ 2 3 (by omega) (by omega) (by omega) hz h4]
    exact rtells_last t _ _ 3 hz
  · rw [ref_round t (k + 3) x 1 4 (by omega) (by omega) (by omega) hz h4, ref_round t (k + 2) _ 2 4 (by omega) (by omega) (by omega) hz h4, ref_round t (k + 1) _ 3 4 (by omega) (by omega) (by omega) hz h4]
    exact rtells_last t _ _ 4 hz
theorem rtells (t : ByteArray) (k : Nat) : RTells t (frisketref04_Step.f (k + 5) t) := by
  unfold frisketref04_Step.f
  by_cases c : (t.size : Int) = 0
  · rw [if_pos c]; exact Or.inl rfl
  rw [if_neg c, if_pos (by omega)]
  have hb := bt_range t 0
  generalize bt t 0 = b at hb
  rw [w64 b (by omega) (by omega)]
  by_cases c1 : b ≥ 240
  · rw [if_pos c1, w64 _ (by omega) (by omega)]
    exact rtells_j t k _ 4 (by omega) (by omega) (by omega) (by omega)
  rw [if_neg c1]
  by_cases c2 : b ≥ 224
  · rw [if_pos c2, w64 _ (by omega) (by omega)]
    exact rtells_j t k _ 3 (by omega) (by omega) (by omega) (by omega)
  rw [if_neg c2]
  by_cases c3 : b ≥ 192
  · rw [if_pos c3, w64 _ (by omega) (by omega)]
    exact rtells_j t k _ 2 (by omega) (by omega) (by omega) (by omega)
  rw [if_neg c3]
  exact rtells_j t k _ 1 (by omega) (by omega) (by omega) (by omega)
theorem ref_no (t : ByteArray) (k : Nat) (h : ∀ n r, ri n → B t ≠ cb n ++ r) : frisketref04_Step.f (k + 5) t = some (-1, 0) := by
  rcases rtells t k with e | ⟨x, z, e, q1, q2, q3⟩
  · exact e
  · exact absurd (take_pre x t z q2) (h x _ q1)
theorem ref_yes (t : ByteArray) (k : Nat) (n : Int) (h : ri n) (r : List UInt8) (ht : B t = cb n ++ r) : frisketref04_Step.f (k + 5) t = some (n, ((cb n).length : Int)) := by
  have hsz : t.size = (cb n).length + r.length := by rw [← B_size, ht, List.length_append]
  have hlast : ∀ j, frisketref04_Step.l0 (j + 1) t ((cb n).length : Int) n ((cb n).length : Int) = some (n, ((cb n).length : Int)) := by
    intro j
    rw [ref_last t j n _ (by omega), if_pos]
    exact ⟨h, by rw [ht]; simp⟩
  have hcl := cb_le n
  obtain ⟨h0, h1, _⟩ := h
  have hbt : ∀ i : Nat, bt t (i : Int) = (((cb n ++ r).getD i 0).toNat : Int) := fun i => by rw [bt_B, ht]
  have hb0 := hbt 0
  have hb1 := hbt 1
  have hb2 := hbt 2
  have hb3 := hbt 3
  clear hbt ht
  unfold frisketref04_Step.f
  rw [if_neg (by omega), if_pos (by omega)]
  by_cases c1 : n < 128
  · have e : cb n = [U n] := by unfold cb; rw [if_pos c1]
    have hl2 : (cb n).length = 1 := by rw [e]; rfl
    rw [hl2] at hlast hsz ⊢
    rw [e] at hb0 hb1 hb2 hb3
    have b0 : bt t 0 = n := hb0.trans (U_val n h0 (by omega))
    rw [b0, w64 n (by omega) (by omega), if_neg (by omega), if_neg (by omega), if_neg (by omega)]
    simp only [frisketref04_Step.j0]
    rw [if_neg (by omega)]
    exact hlast _
  by_cases c2 : n < 2048
  · have e : cb n = [U (192 + n / 64), U (128 + n % 64)] := by unfold cb; rw [if_neg c1, if_pos c2]
    have hl2 : (cb n).length = 2 := by rw [e]; rfl
    rw [hl2] at hlast hsz ⊢
    rw [e] at hb0 hb1 hb2 hb3
    have b0 : bt t 0 = 192 + n / 64 := hb0.trans (U_val _ (by omega) (by omega))
    have b1 : bt t ((1 : Nat) : Int) = 128 + n % 64 := hb1.trans (U_val _ (by omega) (by omega))
    rw [b0, w64 (192 + n / 64) (by omega) (by omega), if_neg (by omega), if_neg (by omega), if_pos (by omega), w64 _ (by omega) (by omega)]
    simp only [frisketref04_Step.j0]
    rw [if_neg (by omega)]
    refine (ref_round t (k + 3) _ 1 2 (by omega) (by omega) (by omega) (by omega) (by omega)).trans ?_
    rw [b1, show (192 + n / 64 - 192) * 64 + (128 + n % 64) % 64 = n from by omega]
    exact hlast _
  by_cases c3 : n < 65536
  · have e : cb n = [U (224 + n / 4096), U (128 + n / 64 % 64), U (128 + n % 64)] := by unfold cb; rw [if_neg c1, if_neg c2, if_pos c3]
    have hl2 : (cb n).length = 3 := by rw [e]; rfl
    rw [hl2] at hlast hsz ⊢
    rw [e] at hb0 hb1 hb2 hb3
    have b0 : bt t 0 = 224 + n / 4096 := hb0.trans (U_val _ (by omega) (by omega))
    have b1 : bt t ((1 : Nat) : Int) = 128 + n / 64 % 64 := hb1.trans (U_val _ (by omega) (by omega))
    have b2 : bt t ((2 : Nat) : Int) = 128 + n % 64 := hb2.trans (U_val _ (by omega) (by omega))
    rw [b0, w64 (224 + n / 4096) (by omega) (by omega), if_neg (by omega), if_pos (by omega), w64 _ (by omega) (by omega)]
    simp only [frisketref04_Step.j0]
    rw [if_neg (by omega)]
    refine (ref_round t (k + 3) _ 1 3 (by omega) (by omega) (by omega) (by omega) (by omega)).trans ?_
    rw [b1]
    refine (ref_round t (k + 2) _ 2 3 (by omega) (by omega) (by omega) (by omega) (by omega)).trans ?_
    rw [b2, show ((224 + n / 4096 - 224) * 64 + (128 + n / 64 % 64) % 64) * 64 + (128 + n % 64) % 64 = n from by omega]
    exact hlast _
  have e : cb n = [U (240 + n / 262144), U (128 + n / 4096 % 64), U (128 + n / 64 % 64), U (128 + n % 64)] := by unfold cb; rw [if_neg c1, if_neg c2, if_neg c3]
  have hl2 : (cb n).length = 4 := by rw [e]; rfl
  rw [hl2] at hlast hsz ⊢
  rw [e] at hb0 hb1 hb2 hb3
  have b0 : bt t 0 = 240 + n / 262144 := hb0.trans (U_val _ (by omega) (by omega))
  have b1 : bt t ((1 : Nat) : Int) = 128 + n / 4096 % 64 := hb1.trans (U_val _ (by omega) (by omega))
  have b2 : bt t ((2 : Nat) : Int) = 128 + n / 64 % 64 := hb2.trans (U_val _ (by omega) (by omega))
  have b3 : bt t ((3 : Nat) : Int) = 128 + n % 64 := hb3.trans (U_val _ (by omega) (by omega))
  rw [b0, w64 (240 + n / 262144) (by omega) (by omega), if_pos (by omega), w64 _ (by omega) (by omega)]
  simp only [frisketref04_Step.j0]
  rw [if_neg (by omega)]
  refine (ref_round t (k + 3) _ 1 4 (by omega) (by omega) (by omega) (by omega) (by omega)).trans ?_
  rw [b1]
  refine (ref_round t (k + 2) _ 2 4 (by omega) (by omega) (by omega) (by omega) (by omega)).trans ?_
  rw [b2]
  refine (ref_round t (k + 1) _ 3 4 (by omega) (by omega) (by omega) (by omega) (by omega)).trans ?_
  rw [b3, show (((240 + n / 262144 - 240) * 64 + (128 + n / 4096 % 64) % 64) * 64 + (128 + n / 64 % 64) % 64) * 64 + (128 + n % 64) % 64 = n from by omega]
  exact hlast _
end Go.Proofs.YtjgaikmejccdkaaDoor.PDoc
