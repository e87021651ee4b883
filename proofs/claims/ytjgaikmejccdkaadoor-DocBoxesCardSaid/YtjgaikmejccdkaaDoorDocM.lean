/- Layer 24: what the maker of the law makes, plain: the boxes of the document, and the boxes of each. -/
import Derived.Test.YtjgaikmejccdkaaDoorDoc6
namespace Go.Proofs.YtjgaikmejccdkaaDoor.PDoc
open Go.RowKit Go.Proofs.YtjgaikmejccdkaaDoorW.PrintWords Go.Proofs.YtjgaikmejccdkaaDoorW.PrintLast Go.Proofs.YtjgaikmejccdkaaDoorW.PrintMore
set_option linter.unusedVariables false
set_option linter.unusedSimpArgs false
abbrev Bo := S27
abbrev kB := k27
/-- A box without parts. -/
def leaf (w k : Int) (h : Bool) : D := some ⟨w, h, 1, k, ⟨#[]⟩, 0, []⟩
mutual
/-- The box of the document's box. -/
def dB : S27 → Option SD
  | ⟨k, t, b, l⟩ => if k = 0 then tD t else if k = 1 then leaf 1 1 false else if k = 2 then leaf 0 2 false else if k = 3 then leaf 0 3 true else bD k b (dBL l)
def dBL : List (S27) → List (Option SD)
  | [] => []
  | b :: r => dB b :: dBL r
end
theorem dBL_map (l : List Bo) : dBL l = l.map dB := by
  induction l with
  | nil => rfl
  | cons b r ih => simp [dBL, ih]
mutual
/-- The document's boxes that are made. -/
def WB : S27 → Prop
  | ⟨k, t, b, l⟩ => (k = 0 ∧ t.size ≤ 30 ∧ b = 0 ∧ l = []) ∨ ((k = 1 ∨ k = 2 ∨ k = 3) ∧ t = ⟨#[]⟩ ∧ b = 0 ∧ l = []) ∨ ((k = 4 ∨ k = 5 ∨ k = 6) ∧ t = ⟨#[]⟩ ∧ 0 ≤ b ∧ b ≤ 100 ∧ WBL l)
def WBL : List (S27) → Prop
  | [] => True
  | b :: r => WB b ∧ WBL r
end
theorem WBL_all {l : List Bo} : WBL l ↔ ∀ b ∈ l, WB b := by
  induction l with
  | nil => simp [WBL]
  | cons x r ih => simp [WBL, ih]
/-- How great what was made in i acts is. -/
structure Bd (i : Nat) (zs : List D) : Prop where
  n : zs.length ≤ i
  w : wds zs ≤ 30 * (i : Int)
  s : szs zs ≤ (i : Int)
  f : (flL [32] zs).length ≤ 30 * i
  nn : ∀ d ∈ zs, Nn d
  sm : ∀ d ∈ zs, Sm d
theorem Bd.mono {i j : Nat} {zs : List D} (h : Bd i zs) (hij : i ≤ j) : Bd j zs :=
  ⟨by have := h.n; omega, by have := h.w; omega, by have := h.s; omega, by have := h.f; omega, h.nn, h.sm⟩
theorem Bd.nil : Bd 0 [] := ⟨by simp, by simp [wds], by simp [szs], by simp [flL], by simp, by simp⟩
theorem Bd.add {i : Nat} {zs : List D} (h : Bd i zs) {d : D} (hw : wd d ≤ 30) (hs : sz d ≤ 1) (hf : (fl [32] d).length ≤ 30) (hn : Nn d) (hm : Sm d) : Bd (i + 1) (zs ++ [d]) := by
  have h1 := h.n
  have h2 := h.w
  have h3 := h.s
  have h4 := h.f
  refine ⟨by simp; omega, by rw [wds_snoc]; omega, by rw [szs_snoc]; omega, by simp only [flL_append, flL, List.length_append, List.append_nil]; omega, ?_, ?_⟩
  · intro x hx
    rcases List.mem_append.1 hx with hx | hx
    · exact h.nn x hx
    · rw [List.mem_singleton.1 hx]; exact hn
  · intro x hx
    rcases List.mem_append.1 hx with hx | hx
    · exact h.sm x hx
    · rw [List.mem_singleton.1 hx]; exact hm
theorem wds_app (a b : List D) : wds (a ++ b) = wds a + wds b := by
  induction a with
  | nil => simp [wds]
  | cons x r ih => simp only [wds, List.cons_append, List.map_cons, List.foldr_cons] at ih ⊢; omega
theorem szs_app (a b : List D) : szs (a ++ b) = szs a + szs b := by
  induction a with
  | nil => simp [szs]
  | cons x r ih => simp only [szs, List.cons_append, List.map_cons, List.foldr_cons] at ih ⊢; omega
theorem hds_app (a b : List D) : hds (a ++ b) = (hds a || hds b) := by simp [hds]
theorem fl_b (bl : List UInt8) (k b : Int) (l : List D) (hk : k ≠ 1) : fl bl (bD k b l) = flL bl l := by
  unfold bD
  rw [fl_some]
  simp [hk]
theorem Bd.box {i : Nat} {zs : List D} (h : Bd i zs) (hi : i ≤ 1000) (r : Nat) (hr : r ≤ zs.length) (k b : Int) (hk : k ≠ 1) : Bd (i + 1) (zs.take r ++ [bD k b (zs.drop r)]) := by
  have h1 := h.n
  have h2 := h.w
  have h3 := h.s
  have h4 := h.f
  have e : zs = zs.take r ++ zs.drop r := (List.take_append_drop r zs).symm
  have e1 : wds zs = wds (zs.take r) + wds (zs.drop r) := by rw [← wds_app, ← e]
  have e2 : szs zs = szs (zs.take r) + szs (zs.drop r) := by rw [← szs_app, ← e]
  have e3 : flL [32] zs = flL [32] (zs.take r) ++ flL [32] (zs.drop r) := by rw [← flL_append, ← e]
  have e4 := congrArg List.length e3
  rw [List.length_append] at e4
  have hd : ∀ d ∈ zs.drop r, Nn d := fun d hd => h.nn d (List.mem_of_mem_drop hd)
  refine ⟨by simp; omega, by rw [wds_snoc]; show _ + wds (zs.drop r) ≤ _; omega, by rw [szs_snoc]; show _ + (1 + szs (zs.drop r)) ≤ _; omega, ?_, ?_, ?_⟩
  · simp only [flL_append, flL, List.length_append, List.append_nil, fl_b _ _ _ _ hk]
    omega
  · intro x hx
    rcases List.mem_append.1 hx with hx | hx
    · exact h.nn x (List.mem_of_mem_take hx)
    · rw [List.mem_singleton.1 hx]; exact nn_b hd
  · intro x hx
    rcases List.mem_append.1 hx with hx | hx
    · exact h.sm x (List.mem_of_mem_take hx)
    · rw [List.mem_singleton.1 hx]; exact b_sm (by rw [List.length_drop]; have := h.n; omega) (fun d hd => h.sm d (List.mem_of_mem_drop hd))
theorem Bd.drop {i : Nat} {zs : List D} (h : Bd i zs) (r : Nat) : wds (zs.drop r) ≤ 30 * (i : Int) ∧ szs (zs.drop r) ≤ (i : Int) ∧ ∀ d ∈ zs.drop r, Nn d := by
  have h2 := h.w
  have h3 := h.s
  have e : zs = zs.take r ++ zs.drop r := (List.take_append_drop r zs).symm
  have e1 : wds zs = wds (zs.take r) + wds (zs.drop r) := by rw [← wds_app, ← e]
  have e2 : szs zs = szs (zs.take r) + szs (zs.drop r) := by rw [← szs_app, ← e]
  have := pre_le zs h.nn r
  exact ⟨by omega, by omega, fun d hd => h.nn d (List.mem_of_mem_drop hd)⟩
theorem tD_bd (s : ByteArray) (hs : s.size ≤ 30) : wd (tD s) ≤ 30 ∧ sz (tD s) ≤ 1 ∧ (fl [32] (tD s)).length ≤ 30 := by
  have h := (col_eq (cl s) (by rw [cl_size]; omega)).1
  rw [cl_size] at h
  refine ⟨by show (col (cl s) : Int) ≤ 30; omega, by show (1 : Int) ≤ 1; omega, ?_⟩
  unfold tD
  rw [fl_some]
  simp [flL]
  have := cl_size s
  have e : (cl s).data.size = (cl s).size := rfl
  omega
theorem leaf_bd (w k : Int) (h : Bool) (hw : w ≤ 30) : wd (leaf w k h) ≤ 30 ∧ sz (leaf w k h) ≤ 1 ∧ (fl [32] (leaf w k h)).length ≤ 30 := by
  refine ⟨hw, by show (1 : Int) ≤ 1; omega, ?_⟩
  unfold leaf
  rw [fl_some]
  simp [flL]
  split <;> simp
/-- Words of a box are no more than its flat text. -/
theorem fl_le (bl : List UInt8) : ∀ (n : Nat) (d : D), SizeOf.sizeOf d ≤ n → (fl [] d).length ≤ (fl bl d).length := by
  intro n
  induction n with
  | zero =>
    intro d hd
    cases d with
    | none => simp at hd
    | some x => simp at hd
  | succ n ih =>
    intro d hd
    cases d with
    | none => simp [fl]
    | some x =>
      rw [fl_some, fl_some]
      have hl : ∀ l : List D, (∀ y ∈ l, SizeOf.sizeOf y ≤ n) → (flL [] l).length ≤ (flL bl l).length := by
        intro l
        induction l with
        | nil => intro _; simp [flL]
        | cons y r ih2 =>
          intro hy
          simp only [flL, List.length_append]
          have h1 := ih y (hy y List.mem_cons_self)
          have h2 := ih2 (fun z hz => hy z (List.mem_cons_of_mem _ hz))
          omega
      have h3 := hl x.l (by
        intro y hy
        obtain ⟨i, hi, e⟩ := List.getElem_of_mem hy
        have := size_part x i hi
        rw [e] at this
        omega)
      simp only [List.length_append]
      split <;> simp <;> omega
/-- What an act makes out of what there is. -/
structure Ac where
  k : Int
  n : Int
  s : ByteArray
def kA : Kd Ac := Kd.iso (Kd.pair (Kd.int .i64) (Kd.pair (Kd.int .i64) Kd.string)) (fun x : Ac => (x.k, x.n, x.s))
theorem kA_open {w : World} {x : Ac} {cs : List Value} (h : kA.K w x cs) : cs = [.int .i64 x.k, .int .i64 x.n, .string x.s] := by
  obtain ⟨_, _, rfl, rfl, ⟨_, _, rfl, rfl, rfl⟩⟩ := h
  rfl
theorem at_A {w : World} {A : Option Addr} {n : Nat} {xs : List Ac} (h : Kd.C kA w A n xs) (i : Nat) (hi : i < xs.length) : ∃ ad, A = some ad ∧ w.cell? (ad.add (i * 3)) = some (.int .i64 xs[i].k) ∧ w.cell? ⟨(ad.add (i * 3)).block, (ad.add (i * 3)).off + 1, none⟩ = some (.int .i64 xs[i].n) ∧ w.cell? ⟨(ad.add (i * 3)).block, (ad.add (i * 3)).off + 2, none⟩ = some (.string xs[i].s) := by
  have hn : xs.length = n := h.1
  obtain ⟨ad, c, e, _, hK, hc0⟩ := Kd.C_get h ⟨0, 0, ⟨#[]⟩⟩ (i : Int) (by omega) (by omega)
  rw [Int.toNat_natCast] at hK hc0
  have hc : ∀ j u, c[j]? = some u → w.cell? (ad.add (i * 3 + j)) = some u := hc0
  have e2 : xs.getD i ⟨0, 0, ⟨#[]⟩⟩ = xs[i] := by simp [List.getD, hi]
  rw [e2] at hK
  obtain rfl := kA_open hK
  exact ⟨ad, e, hc 0 _ rfl, by rw [← add_field _ _ 1 (by omega)]; exact hc 1 _ rfl, by rw [← add_field _ _ 2 (by omega)]; exact hc 2 _ rfl⟩
/-- What has been made is right. -/
structure Ok (i : Nat) (bs : List Bo) : Prop where
  wb : ∀ b ∈ bs, WB b
  bd : Bd i (bs.map dB)
theorem Ok.n {i : Nat} {bs : List Bo} (h : Ok i bs) : bs.length ≤ i := by have := h.bd.n; simpa using this
theorem Ok.mono {i j : Nat} {bs : List Bo} (h : Ok i bs) (hij : i ≤ j) : Ok j bs := ⟨h.wb, h.bd.mono hij⟩
theorem Ok.nil : Ok 0 [] := ⟨by simp, Bd.nil⟩
theorem Ok.put {i : Nat} {bs : List Bo} (h : Ok i bs) {b : Bo} (hb : WB b) (h1 : wd (dB b) ≤ 30 ∧ sz (dB b) ≤ 1 ∧ (fl [32] (dB b)).length ≤ 30) (h2 : Nn (dB b)) (h3 : Sm (dB b)) : Ok (i + 1) (bs ++ [b]) := by
  refine ⟨?_, ?_⟩
  · intro x hx
    rcases List.mem_append.1 hx with hx | hx
    · exact h.wb x hx
    · rw [List.mem_singleton.1 hx]; exact hb
  · rw [List.map_append]
    exact h.bd.add h1.1 h1.2.1 h1.2.2 h2 h3
theorem Ok.text {i : Nat} {bs : List Bo} (h : Ok i bs) (s : ByteArray) (hs : s.size ≤ 30) : Ok (i + 1) (bs ++ [⟨0, s, 0, []⟩]) :=
  h.put (by simp [WB, hs]) (tD_bd s hs) (tD_nn s) (tD_sm s)
theorem Ok.blank {i : Nat} {bs : List Bo} (h : Ok i bs) : Ok (i + 1) (bs ++ [⟨1, ⟨#[]⟩, 0, []⟩]) := h.put (by simp [WB]) (leaf_bd 1 1 false (by omega)) (leaf_nn 1 1 false (by omega)) (leaf_sm 1 1 false)
theorem Ok.tight {i : Nat} {bs : List Bo} (h : Ok i bs) : Ok (i + 1) (bs ++ [⟨2, ⟨#[]⟩, 0, []⟩]) := h.put (by simp [WB]) (leaf_bd 0 2 false (by omega)) (leaf_nn 0 2 false (by omega)) (leaf_sm 0 2 false)
theorem Ok.hard {i : Nat} {bs : List Bo} (h : Ok i bs) : Ok (i + 1) (bs ++ [⟨3, ⟨#[]⟩, 0, []⟩]) := h.put (by simp [WB]) (leaf_bd 0 3 true (by omega)) (leaf_nn 0 3 true (by omega)) (leaf_sm 0 3 true)
theorem dB_box (k b : Int) (l : List Bo) (t : ByteArray) (hk : k = 4 ∨ k = 5 ∨ k = 6) : dB ⟨k, t, b, l⟩ = bD k b (l.map dB) := by
  simp only [dB, dBL_map]
  rw [if_neg (by omega), if_neg (by omega), if_neg (by omega), if_neg (by omega)]
theorem Ok.box {i : Nat} {bs : List Bo} (h : Ok i bs) (hi : i ≤ 1000) (r : Nat) (hr : r ≤ bs.length) (k b : Int) (hk : k = 4 ∨ k = 5 ∨ k = 6) (h0 : 0 ≤ b) (h1 : b ≤ 100) : Ok (i + 1) (bs.take r ++ [⟨k, ⟨#[]⟩, b, bs.drop r⟩]) := by
  refine ⟨?_, ?_⟩
  · intro x hx
    rcases List.mem_append.1 hx with hx | hx
    · exact h.wb x (List.mem_of_mem_take hx)
    · rw [List.mem_singleton.1 hx]
      exact Or.inr (Or.inr ⟨hk, rfl, h0, h1, WBL_all.2 (fun y hy => h.wb y (List.mem_of_mem_drop hy))⟩)
  · rw [List.map_append, List.map_singleton, dB_box k b _ _ hk, List.map_take, List.map_drop]
    exact h.bd.box hi r (by simpa using hr) k b (by omega)
end Go.Proofs.YtjgaikmejccdkaaDoor.PDoc
