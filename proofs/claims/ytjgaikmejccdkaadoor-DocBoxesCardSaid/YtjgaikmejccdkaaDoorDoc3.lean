/- Layer 24: a text's box; boxes of boxes. -/
import Derived.Test.YtjgaikmejccdkaaDoorDoc2
import Derived.Test.YtjgaikmejccdkaaDoorDocC
import Derived.Outline
namespace Go.Proofs.YtjgaikmejccdkaaDoor.PDoc
open Go.RowKit Go.Proofs.YtjgaikmejccdkaaDoorW.PrintWords Go.Proofs.YtjgaikmejccdkaaDoorW.PrintLast Go.Proofs.YtjgaikmejccdkaaDoorW.PrintMore
set_option linter.unusedVariables false
set_option linter.unusedSimpArgs false
/-- The library's own variable, as it lies. -/
def Mx (w : World) : Prop := ∃ m, w.cell? ⟨0, 0, none⟩ = some (.int .i64 m)
theorem Mx.below {w w' : World} {b : Nat} (h : Mx w) (hb : Below b w w') (h0 : 0 < b) : Mx w' := by
  obtain ⟨m, hm⟩ := h
  exact ⟨m, (hb.cell (p := ⟨0, 0, none⟩) h0).trans hm⟩
theorem Mx.pos {w : World} (h : Mx w) : 0 < w.heap.size := by
  obtain ⟨m, hm⟩ := h
  exact World.block_lt_of_cell? w _ hm
/-- A text's box. -/
def tD (s : ByteArray) : D := some ⟨(col (cl s) : Int), false, 1, 0, cl s, 0, []⟩
set_option maxHeartbeats 1000000 in
set_option maxRecDepth 100000 in
theorem Text_X (S : Nat → Prop) (s : ByteArray) (w : World) (hM : Mx w) (hs : s.size ≤ 1000000) (hS : ∀ k, S k → k < w.heap.size) : Calls Tryd.prog 30 #[.string s] w fun e w' => ∃ v, e = .returned v ∧ DVX S w' v (tD s) ∧ Below w.heap.size w w' := by
  obtain ⟨m, hm⟩ := hM
  have HR := Aside0.mk (Tryd.strings_ReplaceAll s ⟨#[10]⟩ ⟨#[32]⟩ m w (by omega) hm (by decide) (by have := Lib.count_le s.data.toList [10]; have e : Lib.countB s ⟨#[10]⟩ = Lib.count s.data.toList [10] := rfl; have e2 : s.data.toList.length = s.size := data_length s; have e3 : (⟨#[32]⟩ : ByteArray).size = 1 := rfl; rw [e, e3]; omega))
  have hcl : (⟨(Lib.replaceAll s.data.toList ([10] : List UInt8) [32]).toArray⟩ : ByteArray) = cl s := by
    rw [rep_all 10 32 (by decide)]; rfl
  have HCL := Aside0.mk hcl
  have HC := Aside0.mk ((col_eq (cl s) (by rw [cl_size]; exact hs)).2 _ (Nat.le_refl _)).1
  have HS := Aside0.mk hS
  clear hm hcl hS
  go_enter Tryd.func30, Tryd.ntmps30
  go_wp2_with (first | (go_at_call 44; refine HR.out.mono ?_; clear HR; rintro e w1 ⟨rfl, hb⟩; rw [show (⟨#[10]⟩ : ByteArray).data.toList = [10] from rfl, show (⟨#[32]⟩ : ByteArray).data.toList = [32] from rfl, HCL.out]; have HB := Aside0.mk hb; clear hb) | (go_at_call 45; refine (codes_Columns.calls _ (cl s) _ _ HC.out).mono ?_; rintro e w2 ⟨rfl, hb⟩; have n0_ := Aside0.mk (below_step HB.out hb); clear HB hb; have HB := n0_; clear n0_))
  go_ret
  exact ⟨_, rfl, fun w' h' => Bx.dv (A := none) (c := 0) ⟨(h'.block _ (by simp) (fun hs => by have h1 := HS.out _ hs; have h2 := HB.out.size; omega)).trans (heap_alloc_new w2 _), Nat.zero_le _, ⟨rfl, Nat.zero_le _, fun h => absurd h (Nat.lt_irrefl 0)⟩⟩, below_alloc HB.out _⟩
theorem Text_ (s : ByteArray) (w : World) (hM : Mx w) (hs : s.size ≤ 1000000) : Calls Tryd.prog 30 #[.string s] w fun e w' => ∃ v, e = .returned v ∧ DV w' v (tD s) ∧ Below w.heap.size w w' :=
  (Text_X (fun _ => False) s w hM hs (fun _ h => h.elim)).mono fun e w' ⟨v, h1, h2, h3⟩ => ⟨v, h1, h2.dv, h3⟩
end Go.Proofs.YtjgaikmejccdkaaDoor.PDoc
