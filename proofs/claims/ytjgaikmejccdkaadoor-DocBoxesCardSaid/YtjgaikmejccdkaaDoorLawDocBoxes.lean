/- Law DocBoxes, for every input: the row and its tied card, out of the walk. Its conditions: none beyond what the form itself says (the listed variables read as the program's text lays them; the card ties them). -/
import Derived.Test.YtjgaikmejccdkaaDoorRows
import Derived.Test.YtjgaikmejccdkaaDoorCards
import Derived.Test.YtjgaikmejccdkaaDoorTie
import Derived.Test.YtjgaikmejccdkaaDoorOpen
import Derived.Test.YtjgaikmejccdkaaDoorDoc9
import Derived.WalkKit
import Derived.ProofKit
import Derived.OpenShut
import Derived.ShutString
import Derived.ChangeOld
import Derived.Below
import Derived.SizedLaws
import Derived.HandedShaped
import Derived.LaidMore
import Derived.Lay
import Derived.LaidOnce
import Derived.SevenTiedAt
namespace Go.Proofs.YtjgaikmejccdkaaDoor.docBoxes
open Go.ChangeShapes Go.WideShapes Go.ChangeAt Go.RowKit Go.Lib Go.Proofs.YtjgaikmejccdkaaDoorW.PrintWords
open Go.ChangeMaps (open_string shut_string)
set_option linter.unusedVariables false
theorem own : ownKnob Tryd.prog.godebug = none := by kernel_rfl
theorem laidOut : laidOutB Tryd.prog = true := by kernel_rfl
set_option maxRecDepth 100000 in
theorem rdr59 {H : Type} {enc : TypeId × Value → H} {W : World} {base : Nat} {spare : Nat → Bool} {held : Bool} : Open.Rdr enc Tryd.prog W base spare held 59 PDoc.kA := by
  intro n cs y h
  obtain ⟨xs, n', _, _, hlen, hxl, hf⟩ := DataW.trod_struct Tryd.underlying59 h
  have hc : Tryd.prog.cellsOf 59 = 3 := by kernel_rfl
  rw [hc] at hlen
  obtain ⟨x0, h0⟩ := Open.rdr_field 0 _ rfl (d := (Kd.int .i64)) (Open.rdr_int Tryd.underlying3) hxl hf
  obtain ⟨x1, h1⟩ := Open.rdr_field 1 _ rfl (d := (Kd.int .i64)) (Open.rdr_int Tryd.underlying3) hxl hf
  obtain ⟨x2, h2⟩ := Open.rdr_field 2 _ rfl (d := Kd.string) (Open.rdr_string Tryd.underlying9) hxl hf
  have e0 : Tryd.prog.cellsOf 3 = 1 := by kernel_rfl
  have e1 : Tryd.prog.cellsOf 3 = 1 := by kernel_rfl
  have e2 : Tryd.prog.cellsOf 9 = 1 := by kernel_rfl
  match cs, hlen with
  | [c0, c1, c2], _ =>
    have g0 : Kd.K (Kd.int .i64) W x0 [c0] := by have z := h0; simp [e0] at z; exact z
    have g1 : Kd.K (Kd.int .i64) W x1 [c1] := by have z := h1; simp [e1] at z; exact z
    have g2 : Kd.K Kd.string W x2 [c2] := by have z := h2; simp [e2] at z; exact z
    exact ⟨⟨x0, x1, x2⟩, ⟨[c0], [c1, c2], rfl, g0, ⟨[c1], [c2], rfl, g1, g2⟩⟩⟩
set_option maxRecDepth 100000 in
theorem lifted (os : Os) (started : os.Started) (H : Type) (enc : TypeId × Value → H) :
    ReturnsInHanded {} Tryd.checked os 5 .any (fun w args => (Rows.docBoxesSpec.pre enc Tryd.prog Tryd.f5 [] false w args ∧ laidMetH Tryd.prog Rows.docBoxesRow.laid w) ∧ sizedMet enc Tryd.prog Tryd.f5 (OpenSpec.ofChange Rows.docBoxesSpec) false w args)
      (Rows.docBoxesSpec.post enc Tryd.prog Tryd.f5 false true false false) := by
  refine returnsInHanded_of_calls (C := Tryd.checked) own started (by kernel_rfl)
    (ChangeSpec.witness_shaped (enc := enc) (C := Tryd.checked) (os := os) (X := fun w _ => laidMetH Tryd.prog Rows.docBoxesRow.laid w) false (World.laidAll Tryd.prog os Rows.docBoxesRow.laid) #[.slice none 0 0] 8 (World.laidAll_os _ _ _)
      (World.shaped_of_ZipB (by kernel_rfl) (by kernel_rfl)) (by kernel_rfl) (by kernel_rfl) (by kernel_rfl)
      (by rw [MakeChecks.laidMetH_plain _ _ _ (by kernel_rfl)]; exact laidMet_laidAll _ (by kernel_rfl) (by kernel_rfl))) ?_
  intro w0 tape inp _ hsh _ hok hpre _
  obtain ⟨_, _, _, fn', hfn', _, _, _, _, hval0⟩ := hok
  have efn : fn' = Tryd.f5 := Option.some.inj (hfn'.symm.trans Tryd.func5)
  subst efn
  obtain ⟨⟨⟨ds, gs, before, hw, hc0⟩, hx⟩, hz⟩ := hpre
  have hW := DataW.Whole.of_heap (w' := w0.forCall tape inp) (by rfl) hw
  have hsz0 := hz.weights hw
  have hM := Tryd.laysM155.s1_3 _ hsh
  generalize hWW : w0.forCall tape inp = W at hW hval0 hM
  generalize w0.heap.size = base at hval0
  generalize haa : inp.args = args at hW hval0 hsz0
  suffices hmain : Calls Tryd.prog 5 args W (fun e W' => ∃ v, e = .returned v ∧ Rows.docBoxesSpec.post enc Tryd.prog Tryd.f5 false true false false W args v W') from by
    subst hWW; subst haa
    refine hmain.mono fun e W' ⟨v, he, hp⟩ => ?_
    subst he
    exact ChangeSpec.post_blind hp
  clear hw hx hz hc0 hfn' hsh
  have hsz : (DataW.weightsEach Tryd.prog (Tryd.f5.params.toList ++ Rows.docBoxesSpec.plain.varTypes Tryd.prog) (ds ++ gs)).all (· ≤ reachBytes) = true := hsz0
  have hval : ∀ (j : Nat) t v, Tryd.f5.params[j]? = some t → args[j]? = some v → Value.okWide Tryd.prog W .any base t v := hval0
  have hW' := hW
  obtain ⟨p, q, hA0, hV, rfl, hfz, hnd⟩ := hW
  have hA : DataW.TrodAll enc Tryd.prog W 0 (fun _ => true) true Tryd.f5.params.toList args.toList ds p := hA0
  rw [Tryd.params5] at hA hval hsz
  obtain ⟨v0, vs0, d0, ds0, p0, q0, hargs, rfl, rfl, h0, r0⟩ := trodAll_cons hA
  obtain ⟨rfl, rfl, rfl⟩ := trodAll_nil r0
  have hav : args = #[v0] := by cases args; simp_all
  subst hav
  obtain ⟨rfl, rfl⟩ := trodVars_none hV
  have k0 := h0
  have lt0 : ∀ x ∈ p0, x.block < W.heap.size := by obtain ⟨m, hm⟩ := k0; exact DataW.trod_lt m _ _ _ hm
  obtain ⟨A0, cap0, a0, rfl, hc0, hr0, y0⟩ := Open.open_arg hsz (j := 0) (t := 22) rfl rfl Tryd.underlying22 rdr59 (by kernel_rfl) (B := Tryd.prog.bytesOf 59) rfl (hval 0 22 v0 rfl rfl) h0
  clear hA0 hval0 hsz0 hsz
  refine (PDoc.DocBoxes A0 cap0 a0 W hM hr0 hc0).mono fun e W' ⟨he, bel⟩ => ?_
  subst he
  exact ⟨_, rfl, _, _, _, [], _, [], hW', trodAll_mk1 (shut_bool Tryd.underlying4 _), (trodAll_cons_mk (Below.trod laidOut (by kernel_rfl) (of_decide_eq_true (by kernel_rfl)) k0 bel lt0) trodAll_mk0), rfl, bel.frame _, fun h => by cases h⟩
theorem over : Rows.docBoxesRow.holds Tryd.pinned (OpenSpec.ofChange Rows.docBoxesSpec) :=
  OpenClaim.holds_of_wide 5 Tryd.f5 rfl rfl rfl rfl rfl rfl rfl ⟨rfl, rfl, rfl, rfl, rfl⟩ rfl rfl rfl rfl rfl (by kernel_rfl) Tryd.func5 (by kernel_rfl)
    (of_decide_eq_true (by kernel_rfl)) (by unfold Func.isWrapper; first | (rw [if_pos (by decide +kernel)]; kernel_rfl) | (rw [if_neg (by decide +kernel)]; exact ⟨rfl, rfl⟩))
    (fun os started H enc _ => lifted os started H enc)
theorem card : Rows.DocBoxesCardSaid :=
  Claim7.holds_tied_plain_at .later [] [.data, .pinned] true (true, "61fa81242cd9a5cb899370e663f7f79e09de6db72f64616e1f24868c121aa594") false over (fun _ h => by cases h) (by kernel_rfl) (fun _ h => by cases h) docBoxes_row_tie rfl ⟨rfl, rfl⟩ (by kernel_rfl) rfl
    (fun f fn hf hfn => by
      obtain rfl : f = 5 := Option.some.inj ((show Tryd.prog.funcNamed "frisket/frisketlaw24.DocBoxes" = some 5 by kernel_rfl).symm.trans hf) |>.symm
      obtain rfl : fn = Tryd.f5 := (Option.some.inj (Tryd.func5.symm.trans hfn)).symm
      exact ⟨by kernel_rfl, fun j t ht => by
        rw [Tryd.params5] at ht
        have hm : t ∈ [22] := by simpa using Array.mem_of_getElem? ht
        have hall : ([22].all fun u => !Tryd.prog.wantsStandIn u) = true := by kernel_rfl
        exact (show Tryd.prog.wantsStandIn t = false by simpa using List.all_eq_true.1 hall t hm)⟩)
    (by kernel_rfl)
#print axioms card
end Go.Proofs.YtjgaikmejccdkaaDoor.docBoxes
namespace Go.Proofs.YtjgaikmejccdkaaDoor
/-- The card, under a short name, for the claim. -/
theorem docBoxes_holds : Rows.DocBoxesCardSaid := docBoxes.card
end Go.Proofs.YtjgaikmejccdkaaDoor
