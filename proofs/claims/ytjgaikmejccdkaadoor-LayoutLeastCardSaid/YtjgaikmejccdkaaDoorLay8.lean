/- Layer 25: no box is laid as nothing; too many are not laid. -/
import Derived.Test.YtjgaikmejccdkaaDoorLay7
namespace Go.Proofs.YtjgaikmejccdkaaDoor.PDoc
open Go.RowKit Go.Proofs.YtjgaikmejccdkaaDoorW.PrintWords Go.Proofs.YtjgaikmejccdkaaDoorW.PrintLast Go.Proofs.YtjgaikmejccdkaaDoorW.PrintMore
set_option linter.unusedVariables false
set_option linter.unusedSimpArgs false
/-- Tight's box. -/
def tiD : D := some ⟨0, false, 1, 2, ⟨#[]⟩, 0, []⟩
def tiC : List Value := [.int .i64 0, .bool false, .int .i64 1, .int .i64 2, .string ⟨#[]⟩, .int .i64 0, .slice none 0 0]
def kTi0 : Kd Unit where
  sz := 7
  E := []
  K := fun _ _ cs => cs = tiC
  M := fun _ _ _ _ cs => cs = tiC
  K_len := by rintro _ _ _ rfl; rfl
  K_one := by
    rintro _ _ _ rfl u hu
    simp only [tiC, List.mem_cons, List.not_mem_nil, or_false] at hu
    rcases hu with rfl | rfl | rfl | rfl | rfl | rfl | rfl <;> rfl
  K_below := fun _ h => h
  K_of_M := fun h => h
  M_mono := fun _ h => h
  M_bound := fun h => h
  M_move := fun _ h => h
  M_lower := fun _ h => h
def kTi : Kd Unit := ptrK 65 kTi0 |> fun k => Kd.iso k (fun u : Unit => some u)
theorem kTi_mk {w : World} {base g : Nat} (h : w.heap[g]? = some (.cells tiC.toArray 65 (0, 0))) (hb : base ≤ g) : kTi.M w base (fun k => k = g) () [.pointer (some ⟨g, 0, none⟩)] := ⟨g, _, rfl, rfl, hb, h, rfl⟩
theorem kTi_D {w : World} {cs : List Value} (h : kTi.K w () cs) : kD.K w tiD cs := by
  obtain ⟨g, cells, rfl, hg, hc⟩ := h
  obtain rfl : cells = tiC.toArray := Array.toList_inj.1 hc
  exact kD_mk (x := ⟨0, false, 1, 2, ⟨#[]⟩, 0, []⟩) (A := none) (c := 0) hg (Nat.le_refl _) ⟨rfl, by show 0 ≤ 9223372036854775807; omega, fun h => absurd h (Nat.lt_irrefl 0)⟩
theorem kTi_C {w : World} {A : Option Addr} {n : Nat} (h : kTi.C w A n (List.replicate n ())) : kD.C w A n (List.replicate n tiD) := by
  obtain ⟨h1, h2, h3⟩ := h
  refine ⟨by simp, h2, fun hp => ?_⟩
  obtain ⟨ad, e, hc⟩ := h3 hp
  refine ⟨ad, e, fun j p hj => ?_⟩
  obtain ⟨hjn, hp2⟩ := List.getElem?_eq_some_iff.1 hj
  have hjn2 : j < n := by simpa using hjn
  obtain rfl : tiD = p := by simpa using hp2
  obtain ⟨cs, hl, hK, hcell⟩ := hc j () (by rw [List.getElem?_replicate, if_pos hjn2])
  exact ⟨cs, hl, kTi_D hK, hcell⟩
set_option maxHeartbeats 1000000 in
set_option maxRecDepth 100000 in
theorem Tight_new (w : World) : Calls Tryd.prog 26 #[] w fun e w' => e = .returned (.pointer (some ⟨w.heap.size, 0, none⟩)) ∧ w' = w.alloc (.cells tiC.toArray 65) := by
  go_enter Tryd.func26, Tryd.ntmps26
  go_wp2
  go_ret
  exact ⟨rfl, rfl⟩
theorem rep_w (n : Nat) : wds (List.replicate n tiD) = 0 := by
  induction n with
  | zero => rfl
  | succ n ih => rw [List.replicate_succ]; show wd tiD + wds _ = 0; rw [ih]; rfl
theorem rep_s (n : Nat) : szs (List.replicate n tiD) = n := by
  induction n with
  | zero => rfl
  | succ n ih => rw [List.replicate_succ]; show sz tiD + szs _ = _; rw [ih]; show (1 : Int) + n = _; omega
theorem rep_nb (n : Nat) : nbL (List.replicate n tiD) = n := by
  induction n with
  | zero => rfl
  | succ n ih => rw [List.replicate_succ]; show nb tiD + nbL _ = _; rw [ih]; show 1 + n = _; omega
theorem rep_tb (n : Nat) : tbL (List.replicate n tiD) = n := by
  induction n with
  | zero => rfl
  | succ n ih => rw [List.replicate_succ]; show tb tiD + tbL _ = _; rw [ih]; show 1 + n = _; omega
theorem rep_ib (n : Nat) : ibL (List.replicate n tiD) = 0 := by
  induction n with
  | zero => rfl
  | succ n ih => rw [List.replicate_succ]; show ib tiD + ibL _ = _; rw [ih]; rfl
theorem ti_wf : Wf tiD := by unfold tiD; simp [Wf, WfS, WfL]; decide
theorem ti_nn : Nn tiD := ⟨by show (0 : Int) ≤ 0; omega, by show (0 : Int) ≤ 1; omega⟩
theorem gN_pb {l : List D} (h1 : nbL l ≤ 19998) (h2 : tbL l ≤ 19998) (h3 : ibL l = 0) (h4 : ∀ d ∈ l, Wf d) : Pb (bD 6 0 [bD 4 0 l]) := by
  have hwf : Wf (bD 4 0 l) := by
    unfold bD
    rw [wf_some]
    exact ⟨by show 0 ≤ 1000000; omega, Int.le_refl 0, WfL_all.2 h4⟩
  have e1 : ib (bD 4 0 l) = 0 := by unfold bD; rw [ib_some]; show 0 + ibL l = 0; omega
  have e2 : nb (bD 4 0 l) ≤ 19999 := by unfold bD; rw [nb_some]; show 1 + nbL l ≤ _; omega
  have e3 : tb (bD 4 0 l) ≤ 19999 := by unfold bD; rw [tb_some]; show 0 + 1 + tbL l ≤ _; omega
  generalize bD 4 0 l = d at hwf e1 e2 e3
  refine ⟨?_, ?_, ?_, ?_⟩
  · unfold bD
    rw [wf_some]
    exact ⟨by show 0 ≤ 1000000; omega, Int.le_refl 0, ⟨hwf, trivial⟩⟩
  · unfold bD; rw [ib_some]; show 0 + (ib d + 0) ≤ _; omega
  · unfold bD; rw [nb_some]; show 1 + (nb d + 0) ≤ _; omega
  · unfold bD; rw [tb_some]; show 0 + 1 + (tb d + 0) ≤ _; omega
/-- Many Tights. -/
structure Ti (n : Nat) (l : List D) : Prop where
  len : l.length = n
  w : wds l = 0
  s : szs l = n
  nb : nbL l = n
  tb : tbL l = n
  ib : ibL l = 0
  wf : ∀ d ∈ l, Wf d
  nn : ∀ d ∈ l, Nn d
theorem Ti.rep (n : Nat) : Ti n (List.replicate n tiD) := ⟨by simp, rep_w n, rep_s n, rep_nb n, rep_tb n, rep_ib n, fun d hd => by rw [List.eq_of_mem_replicate hd]; exact ti_wf, fun d hd => by rw [List.eq_of_mem_replicate hd]; exact ti_nn⟩
theorem Ti.ex (n : Nat) : ∃ l, l = List.replicate n tiD ∧ Ti n l := ⟨_, rfl, Ti.rep n⟩
theorem none_pb : Pb none := ⟨trivial, by show 0 ≤ _; omega, by show 1 ≤ _; omega, by show 0 ≤ _; omega⟩
theorem prt_none (W : Int) : prt W none = ⟨#[]⟩ := rfl
end Go.Proofs.YtjgaikmejccdkaaDoor.PDoc
