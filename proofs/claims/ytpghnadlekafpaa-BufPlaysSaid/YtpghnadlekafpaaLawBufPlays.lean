/- Law BufPlays, for every input: the row, out of the walk and the plain law. Its conditions: none beyond what the form itself says. -/
import Derived.Test.YtpghnadlekafpaaRows
import Derived.Test.YtpghnadlekafpaaOpen
import Derived.Test.YtpghnadlekafpaaBufS
import Derived.WalkKit
import Derived.ProofKit
import Derived.OpenShut
import Derived.ShutString
import Derived.ChangeOld
import Derived.Below
import Derived.SizedLaws
namespace Go.Proofs.Ytpghnadlekafpaa.bufPlays
open Go.ChangeShapes Go.WideShapes Go.ChangeAt Go.RowKit Go.Proofs.YtpghnadlekafpaaW.PrintWords
open Go.ChangeMaps (open_string shut_string)
set_option linter.unusedVariables false
theorem own : ownKnob Try.prog.godebug = none := by kernel_rfl
theorem laidOut : laidOutB Try.prog = true := by kernel_rfl
theorem rdr40 {H : Type} {enc : TypeId × Value → H} {W : World} {base : Nat} {spare : Nat → Bool} {held : Bool} : Open.Rdr enc Try.prog W base spare held 40 PBuf.k40 := by
  intro n cs y h
  obtain ⟨xs, n', _, _, hlen, hxl, hf⟩ := DataW.trod_struct Try.underlying40 h
  have hc : Try.prog.cellsOf 40 = 3 := by kernel_rfl
  rw [hc] at hlen
  obtain ⟨x0, h0⟩ := Open.rdr_field 0 _ rfl (d := (Kd.int .i64)) (Open.rdr_int Try.underlying3) hxl hf
  obtain ⟨x1, h1⟩ := Open.rdr_field 1 _ rfl (d := (Kd.int .i64)) (Open.rdr_int Try.underlying3) hxl hf
  obtain ⟨x2, h2⟩ := Open.rdr_field 2 _ rfl (d := Kd.string) (Open.rdr_string Try.underlying9) hxl hf
  have e0 : Try.prog.cellsOf 3 = 1 := by kernel_rfl
  have e1 : Try.prog.cellsOf 3 = 1 := by kernel_rfl
  have e2 : Try.prog.cellsOf 9 = 1 := by kernel_rfl
  match cs, hlen with
  | [c0, c1, c2], _ =>
    have g0 : Kd.K (Kd.int .i64) W x0 [c0] := by have z := h0; simp [e0] at z; exact z
    have g1 : Kd.K (Kd.int .i64) W x1 [c1] := by have z := h1; simp [e1] at z; exact z
    have g2 : Kd.K Kd.string W x2 [c2] := by have z := h2; simp [e2] at z; exact z
    exact ⟨⟨x0, x1, x2⟩, ⟨[c0], [c1, c2], rfl, g0, ⟨[c1], [c2], rfl, g1, g2⟩⟩⟩
theorem rdr37 {H : Type} {enc : TypeId × Value → H} {W : World} {base : Nat} {spare : Nat → Bool} {held : Bool} : Open.Rdr enc Try.prog W base spare held 37 PBuf.k37 := by
  intro n cs y h
  obtain ⟨xs, n', _, _, hlen, hxl, hf⟩ := DataW.trod_struct Try.underlying37 h
  have hc : Try.prog.cellsOf 37 = 5 := by kernel_rfl
  rw [hc] at hlen
  obtain ⟨x0, h0⟩ := Open.rdr_field 0 _ rfl (d := (Kd.int .i64)) (Open.rdr_int Try.underlying3) hxl hf
  obtain ⟨x1, h1⟩ := Open.rdr_field 1 _ rfl (d := (Kd.int .i64)) (Open.rdr_int Try.underlying3) hxl hf
  obtain ⟨x2, h2⟩ := Open.rdr_field 2 _ rfl (d := (Kd.int .i64)) (Open.rdr_int Try.underlying3) hxl hf
  obtain ⟨x3, h3⟩ := Open.rdr_field 3 _ rfl (d := Kd.string) (Open.rdr_string Try.underlying9) hxl hf
  obtain ⟨x4, h4⟩ := Open.rdr_field 4 _ rfl (d := (Kd.slice 40 PBuf.k40)) (Open.rdr_slice Try.underlying29 rdr40 (by kernel_rfl)) hxl hf
  have e0 : Try.prog.cellsOf 3 = 1 := by kernel_rfl
  have e1 : Try.prog.cellsOf 3 = 1 := by kernel_rfl
  have e2 : Try.prog.cellsOf 3 = 1 := by kernel_rfl
  have e3 : Try.prog.cellsOf 9 = 1 := by kernel_rfl
  have e4 : Try.prog.cellsOf 29 = 1 := by kernel_rfl
  match cs, hlen with
  | [c0, c1, c2, c3, c4], _ =>
    have g0 : Kd.K (Kd.int .i64) W x0 [c0] := by have z := h0; simp [e0] at z; exact z
    have g1 : Kd.K (Kd.int .i64) W x1 [c1] := by have z := h1; simp [e1] at z; exact z
    have g2 : Kd.K (Kd.int .i64) W x2 [c2] := by have z := h2; simp [e2] at z; exact z
    have g3 : Kd.K Kd.string W x3 [c3] := by have z := h3; simp [e3] at z; exact z
    have g4 : Kd.K (Kd.slice 40 PBuf.k40) W x4 [c4] := by have z := h4; simp [e4] at z; exact z
    exact ⟨⟨x0, x1, x2, x3, x4⟩, ⟨[c0], [c1, c2, c3, c4], rfl, g0, ⟨[c1], [c2, c3, c4], rfl, g1, ⟨[c2], [c3, c4], rfl, g2, ⟨[c3], [c4], rfl, g3, g4⟩⟩⟩⟩⟩
set_option maxRecDepth 100000 in
theorem lifted (os : Os) (started : os.Started) (H : Type) (enc : TypeId × Value → H) :
    ReturnsInHanded {} Try.checked os 6 .any (Rows.bufPlaysSpec.pre6 enc Try.prog Try.f6 Rows.bufPlaysRow.domain false) (Rows.bufPlaysSpec.post enc Try.prog Try.f6 false true false false) := by
  refine returnsInHanded_of_change_sized (C := Try.checked) own started (by kernel_rfl) Try.func6
    (ChangeSpec.witness6 (enc := enc) (C := Try.checked) false ⟨#[], #[.string ByteArray.empty, .slice none 0 0], []⟩ 8 (by kernel_rfl) (by kernel_rfl) (by kernel_rfl) (by kernel_rfl)) ?_
  intro W base args ds gs before hval0 hW hcnd hsz0 _
  have hsz : (DataW.weightsEach Try.prog (Try.f6.params.toList ++ Rows.bufPlaysSpec.plain.varTypes Try.prog) (ds ++ gs)).all (· ≤ reachBytes) = true := hsz0
  have hval : ∀ (j : Nat) t v, Try.f6.params[j]? = some t → args[j]? = some v → Value.okWide Try.prog W .any base t v := hval0
  have hW' := hW
  obtain ⟨p, q, hA0, hV, rfl, hfz, hnd⟩ := hW
  have hA : DataW.TrodAll enc Try.prog W 0 (fun _ => true) true Try.f6.params.toList args.toList ds p := hA0
  rw [Try.params6] at hA hval hsz
  obtain ⟨v0, vs0, d0, ds0, p0, q0, hargs, rfl, rfl, h0, r0⟩ := trodAll_cons hA
  obtain ⟨v1, vs1, d1, ds1, p1, q1, rfl, rfl, rfl, h1, r1⟩ := trodAll_cons r0
  obtain ⟨rfl, rfl, rfl⟩ := trodAll_nil r1
  obtain rfl : args = #[v0, v1] := by cases args; simp_all
  obtain ⟨rfl, rfl⟩ := trodVars_none hV
  obtain ⟨a0, rfl, rfl, rfl, y0⟩ := open_string Try.underlying9 (hval 0 9 v0 rfl rfl) h0
  have w0 : a0.size ≤ 140737488351232 := by
    have z := sized_string hsz (j := 0) (t := 9) rfl rfl
    rw [Array.length_toList] at z
    exact z
  have k1 := h1
  have lt1 : ∀ x ∈ p1, x.block < W.heap.size := by obtain ⟨m, hm⟩ := k1; exact DataW.trod_lt m _ _ _ hm
  obtain ⟨A1, cap1, a1, rfl, hc1, hr1, y1⟩ := Open.open_arg hsz (j := 1) (t := 34) rfl rfl Try.underlying34 rdr37 (by kernel_rfl) (B := Try.prog.bytesOf 37) rfl (hval 1 34 v1 rfl rfl) h1
  have yb1 : Try.prog.bytesOf 37 = 64 := by kernel_rfl
  rw [yb1] at y1
  clear hA0 hval0 hsz0 hsz
  refine (PBuf.BufPlays a0 A1 cap1 a1 W hr1 hc1).mono fun e W' ⟨he, bel⟩ => ?_
  subst he
  exact ⟨_, rfl, _, _, _, [], _, [], hW', trodAll_mk1 (shut_bool Try.underlying4 _), (trodAll_cons_mk (shut_string Try.underlying9 y0) (trodAll_cons_mk (Below.trod laidOut (by kernel_rfl) (of_decide_eq_true (by kernel_rfl)) k1 bel lt1) trodAll_mk0)), rfl, bel.frame _, fun h => by cases h⟩
theorem over : Rows.bufPlaysRow.holds Try.pinned (OpenSpec.ofChange Rows.bufPlaysSpec) :=
  OpenClaim.holds_of_wide 6 Try.f6 rfl rfl rfl rfl rfl rfl rfl ⟨rfl, rfl, rfl, rfl, rfl⟩ rfl rfl rfl rfl rfl (by kernel_rfl) Try.func6 (by kernel_rfl)
    (of_decide_eq_true (by kernel_rfl)) (by unfold Func.isWrapper; first | (rw [if_pos (by decide +kernel)]; kernel_rfl) | (rw [if_neg (by decide +kernel)]; exact ⟨rfl, rfl⟩))
    (fun os started H enc _ => lifted os started H enc)
theorem proved : Rows.BufPlaysSaid := over
#print axioms proved
end Go.Proofs.Ytpghnadlekafpaa.bufPlays
namespace Go.Proofs.Ytpghnadlekafpaa
/-- The row, under a short name, for the claim. -/
theorem bufPlays_holds : Rows.BufPlaysSaid := bufPlays.proved
end Go.Proofs.Ytpghnadlekafpaa
