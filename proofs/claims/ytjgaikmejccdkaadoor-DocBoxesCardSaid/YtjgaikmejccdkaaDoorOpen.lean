/- What a row's argument holds, as the kinds of the printed texts say it: slices of structs, of slices, whatever their fields. -/
import Derived.Test.YtjgaikmejccdkaaDoorWMore
import Derived.Test.YtjgaikmejccdkaaDoorProg
import Derived.Deep.Slices
import Derived.Deep.Fields
import Derived.ChangeSame
import Derived.SizedLaws
import Derived.ChangeSlices
import Derived.ProofKit
namespace Go.Proofs.YtjgaikmejccdkaaDoor.Open
open Go.ChangeShapes Go.WideShapes Go.Deep Go.RowKit Go.Proofs.YtjgaikmejccdkaaDoorW.PrintWords
set_option linter.unusedVariables false
section
variable {H : Type} {enc : TypeId × Value → H} {P : Program} {w : World} {base : Nat} {spare : Nat → Bool} {held : Bool}
/-- Whatever reads as a t has what the kind d says. -/
def Rdr (enc : TypeId × Value → H) (P : Program) (w : World) (base : Nat) (spare : Nat → Bool) (held : Bool) (t : TypeId) {α : Type} (d : Kd α) : Prop :=
  ∀ (n : Nat) (cs : List Value) (y : DataW H × List MemPlace), DataW.trod enc P w base spare held n t cs = some y → ∃ x, d.K w x cs
theorem rdr_int {t : TypeId} {k : IntKind} (ht : P.underlying t = some (.int k)) : Rdr enc P w base spare held t (Kd.int k) := by
  intro n cs y h
  obtain ⟨x, rfl, _, _⟩ := DataW.trod_int ht h
  exact ⟨x, rfl⟩
theorem rdr_bool {t : TypeId} (ht : P.underlying t = some .bool) : Rdr enc P w base spare held t Kd.bool := by
  intro n cs y h
  obtain ⟨x, rfl, _⟩ := DataW.trod_bool ht h
  exact ⟨x, rfl⟩
theorem rdr_string {t : TypeId} (ht : P.underlying t = some .string) : Rdr enc P w base spare held t Kd.string := by
  intro n cs y h
  obtain ⟨x, rfl, _⟩ := DataW.trod_string ht h
  exact ⟨x, rfl⟩
theorem rdr_slice {t e : TypeId} {α : Type} {d : Kd α} (ht : P.underlying t = some (.slice e)) (hd : Rdr enc P w base spare held e d) (hsz : P.cellsOf e = d.sz) : Rdr enc P w base spare held t (Kd.slice e d) := by
  intro n cs y h
  rcases open_slice ht h with ⟨rfl, _⟩ | ⟨a, len, cap, m, n', D, Pl, rfl, hb, hl, hm, hmm, hx, hi⟩
  · exact ⟨[], none, 0, rfl, Nat.le_refl _, rfl, by simp, fun h => absurd h (by simp)⟩
  · have hlm : len ≤ m := by rw [hmm]; split <;> omega
    have hex : ∀ i, i < len → ∃ x : α, ∃ c, c.length = d.sz ∧ d.K w x c ∧ ∀ j u, c[j]? = some u → w.cell? (a.add (i * d.sz + j)) = some u := by
      intro i hil
      obtain ⟨cs', hc, htr⟩ := hi i (by omega)
      rw [hsz] at hc
      obtain ⟨x, hK⟩ := hd _ _ _ htr
      obtain ⟨_, hcl, hat⟩ := World.cells?_some hc
      refine ⟨x, cs', hcl, hK, fun j u hj => ?_⟩
      have hjl : j < d.sz := by rw [← hcl]; exact (List.getElem?_eq_some_iff.1 hj).1
      rw [← Go.Deep.add_add, hat j hjl]
      exact hj
    have hxs : ∃ xs : List α, xs.length = len ∧ ∀ j p, xs[j]? = some p → ∃ c, c.length = d.sz ∧ d.K w p c ∧ ∀ i u, c[i]? = some u → w.cell? (a.add (j * d.sz + i)) = some u := by
      have key : ∀ m, m ≤ len → ∃ xs : List α, xs.length = m ∧ ∀ j p, xs[j]? = some p → ∃ c, c.length = d.sz ∧ d.K w p c ∧ ∀ i u, c[i]? = some u → w.cell? (a.add (j * d.sz + i)) = some u := by
        intro m
        induction m with
        | zero => intro _; exact ⟨[], rfl, fun j p hj => by simp at hj⟩
        | succ m ih =>
          intro hm
          obtain ⟨xs, hxl, hx⟩ := ih (by omega)
          obtain ⟨x, c, hc⟩ := hex m (by omega)
          refine ⟨xs ++ [x], by simp [hxl], fun j p hj => ?_⟩
          rcases Nat.lt_or_ge j xs.length with h1 | h1
          · rw [List.getElem?_append_left h1] at hj
            exact hx j p hj
          · rw [List.getElem?_append_right h1] at hj
            have h0 : j - xs.length = 0 := by
              rcases Nat.eq_zero_or_pos (j - xs.length) with h0 | h0
              · exact h0
              · rw [List.getElem?_eq_none (by simp; omega)] at hj; cases hj
            rw [h0] at hj
            simp only [List.getElem?_cons_zero, Option.some.injEq] at hj
            subst hj
            have : j = m := by omega
            subst this
            exact ⟨c, hc⟩
      exact key len (Nat.le_refl _)
    obtain ⟨xs, hxl, hrow⟩ := hxs
    subst hxl
    exact ⟨xs, some a, cap, rfl, hl, rfl, by unfold maxLen at hm; omega, fun _ => ⟨a, rfl, hrow⟩⟩
/-- A struct whose fields' kinds are known, one behind the other. -/
theorem rdr_field {fs : Array Field} {α : Type} {d : Kd α} (i : Nat) (f : Field) (hf : fs[i]? = some f) (hd : Rdr enc P w base spare held f.type d) {n : Nat} {cs : List Value} {xs : List (DataW H × List MemPlace)} (hl : xs.length = fs.size)
    (h : ∀ (i : Nat) (f : Field), fs[i]? = some f → DataW.trod enc P w base spare held n f.type ((cs.drop f.offset).take (P.cellsOf f.type)) = xs[i]?) : ∃ x, d.K w x ((cs.drop f.offset).take (P.cellsOf f.type)) := by
  have hil : i < fs.size := (Array.getElem?_eq_some_iff.1 hf).1
  have h1 := h i f hf
  rw [List.getElem?_eq_getElem (by omega)] at h1
  exact hd _ _ _ h1
theorem cut2 {cs : List Value} (a b : Nat) (h : cs.length = a + b) : cs = cs.take a ++ cs.drop a := (List.take_append_drop a cs).symm
end
/-- An argument that is a slice. -/
theorem open_arg {H : Type} {enc : TypeId × Value → H} {P : Program} {W : World} {base b0 : Nat} {spare : Nat → Bool} {held : Bool} {t e : TypeId} {v : Value} {d : DataW H} {ps : List MemPlace} {ts : List TypeId} {ds : List (DataW H)} {j : Nat} {α : Type} {K : Kd α}
    (hsz : (DataW.weightsEach P ts ds).all (· ≤ reachBytes) = true) (ht : ts[j]? = some t) (hd : ds[j]? = some d) (hu : P.underlying t = some (.slice e)) (hK : Rdr enc P W base spare held e K) (hc : P.cellsOf e = K.sz) {B : Nat} (hB : P.bytesOf e = B)
    (hw : Value.okWide P W .any b0 t v) (h : DataW.Trod enc P W base spare held t v d ps) : ∃ (A : Option Addr) (cap : Nat) (xs : List α), v = .slice A xs.length cap ∧ xs.length ≤ cap ∧ Kd.C K W A xs.length xs ∧ xs.length * B ≤ 140737488351232 := by
  obtain ⟨A, len, cap, rfl⟩ := okWide_slice hu hw
  obtain ⟨fuel, hf⟩ := h
  obtain ⟨xs, A', c', he, hl, hC⟩ := rdr_slice hu hK hc fuel _ _ hf
  have he' : Value.slice A len cap = .slice A' xs.length c' := by simpa [Value.cells] using he
  injection he' with e1 e2 e3
  subst e1 e2 e3
  refine ⟨A, cap, xs, rfl, hl, hC, ?_⟩
  rcases open_slice hu hf with ⟨he0, _⟩ | ⟨a, len2, cap2, m, n', D, Pl, he0, hb, hl2, hm, hmm, hx, hi⟩
  · have : Value.slice A xs.length cap = .slice none 0 0 := by simpa [Value.cells] using he0
    injection this with _ e2 _
    rw [e2]; simp
  · have h2 : Value.slice A xs.length cap = .slice (some a) len2 cap2 := by simpa [Value.cells] using he0
    injection h2 with _ e2 _
    obtain ⟨hx1, _⟩ := Prod.mk.inj hx
    subst hx1
    have z := sized_slice hsz ht hd hu
    rw [hB] at z
    simp only [List.length_map, List.length_range] at z
    have z2 : len2 * B ≤ (len2 + (m - len2)) * B := Nat.mul_le_mul_right _ (by omega)
    rw [e2]
    exact Nat.le_trans z2 z
end Go.Proofs.YtjgaikmejccdkaaDoor.Open
