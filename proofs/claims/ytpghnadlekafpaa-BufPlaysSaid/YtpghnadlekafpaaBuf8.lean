/- A buffer's edits done, from the last one on; a step put on a stack. -/
import Derived.Test.YtpghnadlekafpaaBuf7
namespace Go.Proofs.Ytpghnadlekafpaa.PBuf
open Go.RowKit Go.Proofs.YtpghnadlekafpaaW.PrintWords Go.Proofs.YtpghnadlekafpaaW.PrintLast Go.Proofs.YtpghnadlekafpaaW.PrintMore
set_option linter.unusedVariables false
set_option linter.unusedSimpArgs false
def dosP (P : List Pc) (l : List X) : List Pc := l.foldr (fun e Q => spP Q e.f0.toNat e.f1.toNat e.f2) P
theorem R_fr {w w' : World} {base g lb : Nat} {ok : Nat → Prop} {Vp Vf Vl V : Value} {n : Int} {P : List Pc} {past fut : List St} {l : List X} (h : Kd.R kX 40 w lb ok V l) (hB : Bf w base g Vp Vf Vl n P past fut) (hf : Fr (fun i => i = g) w w') : Kd.R kX 40 w' lb ok V l :=
  Kd.R_mono (Kd.R_step (Kd.R_types h hB.c (by rw [show kX.E = [] from rfl]; decide)) (fun k hk hlt => hf.block k hlt hk.2)) (fun _ hk => hk.1)
def okAt (P : List Pc) (l : List X) (i : Nat) : Prop := 0 ≤ (rd_T40 l i).f0 ∧ (rd_T40 l i).f0 ≤ (rd_T40 l i).f1 ∧ (rd_T40 l i).f1 ≤ ((tx (dosP P (l.drop (i + 1)))).length : Int) ∧ (rd_T40 l i).f2.size ≤ 10000000000000 ∧ (dosP P (l.drop (i + 1))).length ≤ 1000000000000 ∧ (tx (dosP P (l.drop (i + 1)))).length ≤ 100000000000000
set_option maxHeartbeats 4000000 in
set_option maxRecDepth 100000 in
theorem do_ {w : World} {base g lb : Nat} {ok : Nat → Prop} {Vp Vf Vl : Value} {n : Int} {P : List Pc} {past fut : List St} (hB : Bf w base g Vp Vf Vl n P past fut) (A : Option Addr) (c : Nat) (l : List X) (hR : Kd.R kX 40 w lb ok (.slice A l.length c) l) (hl : l.length ≤ 4398046511103) (hok : ∀ i, i < l.length → okAt P l i) :
    Calls Try.prog 26 #[.pointer (some ⟨g, 0, none⟩), .slice A l.length c] w fun e w' => e = .returned (.tuple #[]) ∧ ∃ Vl' n', Bf w' base g Vp Vf Vl' n' (dosP P l) past fut ∧ Fr (fun i => i = g) w w' := by
  have HB := Aside0.mk hB
  have HR := Aside0.mk hR
  have HL := Aside0.mk hl
  have HK := Aside0.mk hok
  have e0 : wrap64 ((l.length : Int) - 1) = (l.length : Int) - 1 := by unfold wrap64; omega
  have E0 := Aside0.mk e0
  clear hB hR hl hok e0
  go_enter Try.func26, Try.ntmps26
  go_wp2
  rw [E0.out]
  go_loopg [4] (l.length + 1) (fun kq v4 w' => ∃ (x4 : Int) (Vl' : Value) (n' : Int) (P' : List Pc), v4 = .int .i64 x4 ∧ Aside0 (-1 ≤ x4 ∧ x4 < (l.length : Int) ∧ kq = (x4 + 1).toNat + 1) ∧ Aside0 (P' = dosP P (l.drop (x4 + 1).toNat)) ∧ Aside0 (Bf w' base g Vp Vf Vl' n' P' past fut) ∧ Aside0 (Kd.R kX 40 w' lb ok (.slice A l.length c) l) ∧ Aside0 (Fr (fun i => i = g) w w'))
  case atStart => exact ⟨_, Vl, n, P, rfl, ⟨by omega, by omega, by omega⟩, ⟨by rw [show ((l.length : Int) - 1 + 1).toNat = l.length from by omega, List.drop_length]; rfl⟩, HB, HR, ⟨Fr.refl _ _⟩⟩
  case round =>
    clear HB HR
    obtain ⟨x4, Vl', n', P', rfl, HI, HP, HB, HR, HF⟩ := hrel
    by_cases c1 : 0 ≤ x4
    · have d1 : decide (x4 ≥ 0) = true := decide_eq_true c1
      have c2 : x4 < (l.length : Int) := HI.out.2.1
      have hk := HK.out x4.toNat (by omega)
      have e3 : (x4 + 1).toNat = x4.toNat + 1 := by omega
      have hp := HP.out
      rw [e3] at hp
      unfold okAt at hk
      rw [← hp, show ((x4.toNat : Nat) : Int) = x4 from by omega] at hk
      obtain ⟨-, -, hC⟩ := Kd.Q_reads' (Kd.Q_of_R HR.out)
      obtain ⟨ad, e1, hx0, hx1, hx2⟩ := at_T40 hC x4 c1 c2
      cases e1
      have hd : l.drop x4.toNat = rd_T40 l x4 :: l.drop (x4.toNat + 1) := by
        have hlt : x4.toNat < l.length := by omega
        rw [List.drop_eq_getElem_cons hlt]
        congr 1
        simp [rd_T40, List.getD, hlt]
      have hnext : dosP P (l.drop x4.toNat) = spP P' (rd_T40 l x4).f0.toNat (rd_T40 l x4).f1.toNat (rd_T40 l x4).f2 := by
        rw [hd, hp]; rfl
      generalize rd_T40 l x4 = e at hk hx0 hx1 hx2 hnext hd
      obtain ⟨f0, f1, f2⟩ := e
      dsimp only at hk hx0 hx1 hx2 hnext
      have HNX := Aside0.mk hnext
      have HK1 := Aside0.mk hk
      have HSP := Aside0.mk (splice HB.out hk.2.2.2.2.1 hk.2.2.2.2.2 f0 f1 f2 hk.1 hk.2.1 (by rw [HB.out.n]; exact hk.2.2.1) hk.2.2.2.1)
      have e4 : wrap64 (x4 - 1) = x4 - 1 := by have := HL.out; unfold wrap64; omega
      have E4 := Aside0.mk e4
      have g0 := eq_true c1
      have g1 := eq_true c2
      have C1 := Aside0.mk c1
      clear hk hp hC hd hnext e3 e4 c1 c2
      go_wp2_with (go_at_call 34; refine HSP.out.mono ?_; clear HSP; rintro e w7 ⟨rfl, Vl2, n2, hB2, hF2⟩; have n0_ := Aside0.mk (R_fr HR.out HB.out hF2); have n1_ := Aside0.mk (HF.out.trans hF2 (fun i _ hi => hi)); clear HB HR HF; have HB := Aside0.mk hB2; have HR := n0_; have HF := n1_; clear hB2 hF2 n0_ n1_)
      go_roundg (gk - 1)
      case measure => have := HI.out; have := C1.out; omega
      case rel =>
        have hi := HI.out
        have hc := C1.out
        exact ⟨_, _, _, _, rfl, by rw [E4.out]; exact ⟨by omega, by omega, by omega⟩, by rw [E4.out, show (x4 - 1 + 1).toNat = x4.toNat from by omega]; exact ⟨HNX.out.symm⟩, HB, HR, HF⟩
    · have d1 : decide (x4 ≥ 0) = false := decide_eq_false c1
      obtain rfl : x4 = -1 := by have := HI.out; omega
      clear c1
      go_wp2
      go_end0
      have hp := HP.out
      rw [show ((-1 : Int) + 1).toNat = 0 from rfl, List.drop_zero] at hp
      exact ⟨rfl, Vl', n', hp ▸ HB.out, HF.out⟩
end Go.Proofs.Ytpghnadlekafpaa.PBuf
