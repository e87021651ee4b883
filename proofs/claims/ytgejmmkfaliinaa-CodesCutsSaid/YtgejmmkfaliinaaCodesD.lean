/- CodesCuts, plain. -/
import Derived.Test.YtgejmmkfaliinaaCodesC
namespace Go.Proofs.Ytgejmmkfaliinaa.PCodes
open Go.RowKit Go.Proofs.YtgejmmkfaliinaaW.PrintWords Go.Proofs.YtgejmmkfaliinaaW.PrintLast Go.Proofs.YtgejmmkfaliinaaW.PrintMore
open Codes (cb U U_val cb_le)
set_option linter.unusedVariables false
set_option linter.unusedSimpArgs false
theorem cuts_j0 (K : Nat) (l : List Int) (a1 : Int) (s : ByteArray) (hl : l.length ≤ 60) (ha : AR l) (hs : B s = enc l) (he : codes_Encode.f l = some (s, true)) (h0 : 0 ≤ a1) (h1 : a1 ≤ 255) (hK : 400 ≤ K) : frisketlaw04_CodesCuts.j0 (K + 1) l a1 false = some true := by
  have hle := enc_le l
  have hsz : s.size = (enc l).length := by rw [← B_size, hs]
  obtain ⟨d, hd⟩ : ∃ d : Nat, d = s.size + 1 := ⟨_, rfl⟩
  have e0 : wrap64 ((s.size : Int) + 1) = (d : Int) := by rw [w64 _ (by omega) (by omega)]; omega
  have hm0 := Int.emod_nonneg a1 (show (d : Int) ≠ 0 by omega)
  have hm1 := Int.emod_lt_of_pos a1 (show 0 < (d : Int) by omega)
  obtain ⟨m, hm⟩ : ∃ m : Nat, a1 % (d : Int) = (m : Int) := ⟨(a1 % (d : Int)).toNat, (Int.toNat_of_nonneg hm0).symm⟩
  have e1 : Int.tmod (wrap64 a1) (d : Int) = (m : Int) := by rw [w64 a1 (by omega) (by omega), tmd _ _ h0, hm]
  rw [hm] at hm1
  have ef : ((s, true) : ByteArray × Bool).1 = s := rfl
  simp only [frisketlaw04_CodesCuts.j0]
  rw [if_neg (by simp), he, Option.bind_some, if_pos rfl, ef, e0, e1, if_neg (by omega), if_pos (by omega), if_pos (by omega), Int.toNat_natCast]
  have h8 : B (s.extract 0 m) = (enc l).take m := by rw [B_ext, hs]; simp
  have h9 : B (s.extract m s.size) = (enc l).drop m := by rw [B_ext, hs, List.take_of_length_le]; rw [List.length_drop]; omega
  exact cuts_l0 s _ _ l (by omega) ha hs m (by omega) h8 h9 l [] K rfl (by omega) (Nat.zero_le _)
theorem cuts_law : frisketlaw04_CodesCuts.Pure := by
  intro l a1 _ _ _ hw
  have h1 : 0 ≤ a1 ∧ a1 ≤ 255 := by
    have := hw
    simp [Lit.wf, IntKind.min, IntKind.max, IntKind.signed, IntKind.bits] at this
    omega
  obtain ⟨K, hK⟩ : ∃ K : Nat, K = 999 := ⟨_, rfl⟩
  refine ⟨K + 1, ?_⟩
  unfold frisketlaw04_CodesCuts.f
  by_cases c1 : (l.length : Int) > 60
  · rw [if_pos c1]
    simp only [frisketlaw04_CodesCuts.j0]
    rw [if_pos trivial, awake_eq]
    rfl
  rw [if_neg c1, awake_eq]
  simp only [Option.bind_some]
  by_cases c : AR l
  · exact cuts_j0 K l a1 _ (by omega) c (B_mk _) (Encode_yes l c (by omega)) h1.1 h1.2 (by omega)
  · simp only [frisketlaw04_CodesCuts.j0]
    rw [if_neg (by simp), Encode_no l c (by omega)]
    simp only [Option.bind_some]
    rw [if_neg (by simp), toList_eq]
    rfl
end Go.Proofs.Ytgejmmkfaliinaa.PCodes
