/- A buffer in memory: what is said of it; what only looks at it. -/
import Derived.Test.YtpghnadlekafpaaBufF
import Derived.Test.YtpghnadlekafpaaBufP
import Derived.Test.YtpghnadlekafpaaBuilder
import Derived.StillTailTactics
namespace Go.Proofs.Ytpghnadlekafpaa.PBuf
open Go.RowKit Go.Proofs.YtpghnadlekafpaaW.PrintWords Go.Proofs.YtpghnadlekafpaaW.PrintLast Go.Proofs.YtpghnadlekafpaaW.PrintMore
set_option linter.unusedVariables false
set_option linter.unusedSimpArgs false
abbrev Pc := S53
abbrev St := S63
abbrev kX := k40
abbrev kP := k53
abbrev kS := k63
/-- The pieces' bytes. -/
def tP (P : List Pc) : Bu.T := P.map fun p => p.f0.data.toList
def tx (P : List Pc) : List UInt8 := Bu.jn (tP P)
/-- All blocks but those of S are as they were. -/
structure Fr (S : Nat → Prop) (w w' : World) : Prop where
  os : w'.os = w.os
  tape : w'.tape = w.tape
  output : w'.output = w.output
  size : w.heap.size ≤ w'.heap.size
  block : ∀ i, i < w.heap.size → ¬ S i → w'.heap[i]? = w.heap[i]?
theorem Fr.of_below {S : Nat → Prop} {w w' : World} (h : Below w.heap.size w w') : Fr S w w' := ⟨h.os, h.tape, h.output, h.size, fun i hi _ => h.block i hi⟩
theorem Fr.refl (S : Nat → Prop) (w : World) : Fr S w w := .of_below (Below.refl _ _)
theorem Fr.of_grown {S : Nat → Prop} {w w' : World} {row : Option Nat} (h : w.grownBy w' row) (hs : ∀ i, i < w.heap.size → ¬ S i → some i ≠ row) : Fr S w w' := ⟨h.os, h.tape, h.output, h.size, fun i hi hS => h.block i hi (hs i hi hS)⟩
theorem Fr.trans {S S' : Nat → Prop} {w w1 w2 : World} (h : Fr S w w1) (k : Fr S' w1 w2) (hs : ∀ i, i < w.heap.size → S' i → S i) : Fr S w w2 :=
  ⟨k.os.trans h.os, k.tape.trans h.tape, k.output.trans h.output, Nat.le_trans h.size k.size, fun i hi hS => (k.block i (Nat.lt_of_lt_of_le hi h.size) (fun h2 => hS (hs i hi h2))).trans (h.block i hi hS)⟩
theorem Fr.set {S : Nat → Prop} {w : World} (p : Addr) (u : Value) (hp : S p.block) : Fr S w (w.setCell p u) :=
  ⟨rfl, rfl, rfl, by simp [World.setCell], fun i _ hS => Below.heap_setCell w p u i (fun e => hS (e ▸ hp))⟩
theorem Fr.below {S : Nat → Prop} {base : Nat} {w w' : World} (h : Fr S w w') (hs : ∀ i, S i → base ≤ i) (hb : base ≤ w.heap.size) : Below base w w' :=
  ⟨h.os, h.tape, h.output, h.size, fun i hi => h.block i (Nat.lt_of_lt_of_le hi hb) (fun h2 => by have := hs i h2; omega)⟩
theorem Fr.mono {S S' : Nat → Prop} {w w' : World} (h : Fr S w w') (hs : ∀ i, i < w.heap.size → S i → S' i) : Fr S' w w' := ⟨h.os, h.tape, h.output, h.size, fun i hi hS => h.block i hi (fun h2 => hS (hs i hi h2))⟩
/-- The buffer at block g: its variables, its rows. -/
structure Bf (w : World) (base g : Nat) (Vp Vf Vl : Value) (n : Int) (P : List Pc) (past fut : List St) : Prop where
  c : w.heap[g]? = some (.cells #[Vp, Vf, Vl, .int .i64 n] 61 (0, 0))
  g0 : base ≤ g
  p : Kd.Q kS 63 w base (fun k => some k ≠ Vf.ownBlock) Vp past
  f : Kd.Q kS 63 w base (fun k => some k ≠ Vp.ownBlock) Vf fut
  l : Kd.R kP 53 w base (fun _ => True) Vl P
  n : n = ((tx P).length : Int)
  ne : P ≠ []
/-- The blocks that are written when something is done to it. -/
def foot (g : Nat) (Vp Vf : Value) (i : Nat) : Prop := i = g ∨ some i = Vp.ownBlock ∨ some i = Vf.ownBlock
section
variable {w w' : World} {base g : Nat} {Vp Vf Vl : Value} {n : Int} {P : List Pc} {past fut : List St}
theorem Bf.below (h : Bf w base g Vp Vf Vl n P past fut) (hb : Below w.heap.size w w') : Bf w' base g Vp Vf Vl n P past fut :=
  ⟨blk_below h.c hb, h.g0, Kd.Q_below h.p hb, Kd.Q_below h.f hb, Kd.R_below h.l hb, h.n, h.ne⟩
theorem Bf.drew (h : Bf w base g Vp Vf Vl n P past fut) : Bf w.drew base g Vp Vf Vl n P past fut := h.below (below_drew (Below.refl _ _))
theorem Bf.alloc (h : Bf w base g Vp Vf Vl n P past fut) (o : Obj) : Bf (w.alloc o) base g Vp Vf Vl n P past fut := h.below (below_alloc (Below.refl _ _) o)
theorem Bf.foot_lt (h : Bf w base g Vp Vf Vl n P past fut) (i : Nat) (hi : foot g Vp Vf i) : i < w.heap.size ∧ base ≤ i := by
  rcases hi with rfl | hi | hi
  · exact ⟨blk_lt h.c, h.g0⟩
  · exact ⟨Kd.Q_lt h.p i hi.symm, Kd.Q_base h.p i hi.symm⟩
  · exact ⟨Kd.Q_lt h.f i hi.symm, Kd.Q_base h.f i hi.symm⟩
theorem Bf.foot_typed (h : Bf w base g Vp Vf Vl n P past fut) (i : Nat) (hi : foot g Vp Vf i) : ∃ cs t, w.heap[i]? = some (.cells cs t (0, 0)) ∧ (t = 61 ∨ t = 63) := by
  rcases hi with rfl | hi | hi
  · exact ⟨_, _, h.c, .inl rfl⟩
  · obtain ⟨cs, hc⟩ := Kd.Q_typed h.p i hi.symm
    exact ⟨_, _, hc, .inr rfl⟩
  · obtain ⟨cs, hc⟩ := Kd.Q_typed h.f i hi.symm
    exact ⟨_, _, hc, .inr rfl⟩
/-- What lies elsewhere is written: another's blocks. -/
theorem Bf.apart {S : Nat → Prop} (h : Bf w base g Vp Vf Vl n P past fut) (hf : Fr S w w') (hs : ∀ i, foot g Vp Vf i → ¬ S i) (ht : ∀ i, S i → ∃ cs t, w.heap[i]? = some (.cells cs t (0, 0)) ∧ (t = 61 ∨ t = 63)) : Bf w' base g Vp Vf Vl n P past fut := by
  have inner : ∀ k, k < w.heap.size → (∃ cells q, w.heap[k]? = some (.cells cells q (0, 0)) ∧ q ≠ 61 ∧ q ≠ 63) → w'.heap[k]? = w.heap[k]? := by
    rintro k hk ⟨cells, q, hc, q1, q2⟩
    refine hf.block k hk (fun hS => ?_)
    obtain ⟨cs, t, hc2, ht2⟩ := ht k hS
    rw [hc] at hc2
    injection hc2 with hc2
    injection hc2 with _ hc2
    subst hc2
    rcases ht2 with ht2 | ht2
    · exact q1 ht2
    · exact q2 ht2
  have stack : ∀ {V : Value} {ok : Nat → Prop} {xs : List St}, (∀ k, V.ownBlock = some k → ¬ S k) → Kd.Q kS 63 w base ok V xs → Kd.Q kS 63 w' base ok V xs := by
    intro V ok xs hV h
    obtain ⟨h0, inn, hq, hr⟩ := h
    refine ⟨h0, inn, q_move hq (fun k hk => hf.block k (q_lt hq k hk) (hV k hk)), hr.imp_ (fun _ _ hp => kS.M_mono (fun k hk => hk.1) (kS.M_move (fun k hk => ?_) (kS.M_bound hp)))⟩
    obtain ⟨_, _, hlt, q, hqE, cells, hc⟩ := hk
    rw [show kS.E = [40, 40] from rfl] at hqE
    have : q = 40 := by simpa using hqE
    exact inner k hlt ⟨cells, q, hc, by rw [this]; decide, by rw [this]; decide⟩
  exact ⟨(hf.block g (blk_lt h.c) (hs g (.inl rfl))).trans h.c, h.g0, stack (fun k hk => hs k (.inr (.inl hk.symm))) h.p, stack (fun k hk => hs k (.inr (.inr hk.symm))) h.f, Kd.R_step (Kd.R_bound h.l) (fun k hk hlt => inner k hlt (by
    obtain ⟨_, _, _, q, hq, cells, hc⟩ := hk
    refine ⟨cells, q, hc, ?_⟩
    rw [show kP.E = [] from rfl] at hq
    have : q = 53 := by simpa using hq
    rw [this]; exact ⟨by decide, by decide⟩)) |> fun z => Kd.R_mono z (fun _ hk => hk.1), h.n, h.ne⟩
end
end Go.Proofs.Ytpghnadlekafpaa.PBuf
