/- Layer 24: the maker of the law, walked. -/
import Derived.Test.YtjgaikmejccdkaaDoorDocM
import Derived.Test.YtjgaikmejccdkaaDoorPDocx4
import Derived.Deep.DeepCutAuto
import Derived.Deep.CutBlock

namespace Go.Proofs.YtjgaikmejccdkaaDoor.PDoc
open Go.RowKit Go.Proofs.YtjgaikmejccdkaaDoorW.PrintWords Go.Proofs.YtjgaikmejccdkaaDoorW.PrintLast Go.Proofs.YtjgaikmejccdkaaDoorW.PrintMore
set_option linter.unusedVariables false
set_option linter.unusedSimpArgs false
/-- The block of the result; it and the block that a round writes. -/
abbrev S0 (w : World) : Nat → Prop := fun k => k = w.heap.size
abbrev S1 (w : World) (g : Nat) : Nat → Prop := fun k => k = g ∨ k = w.heap.size
theorem Fr.mono {S T : Nat → Prop} {w w' : World} (h : Fr S w w') (hs : ∀ k, S k → T k) : Fr T w w' := ⟨h.os, h.tape, h.output, h.size, fun i hi hT => h.block i hi (fun hS => hT (hs i hS))⟩
theorem DVX.sub {w wx : World} {g : Nat} {v : Value} {d : D} (h : DVX (S1 w g) wx v d) : DVX (S0 w) wx v d := fun w' h' => h w' (h'.mono (fun k hk => Or.inr hk))
theorem Fr.old {w wr wx : World} {g : Nat} (h : Fr (S1 w g) wr wx) (hg : wr.heap.size ≤ g) : Fr (S0 w) wr wx := ⟨h.os, h.tape, h.output, h.size, fun i hi hS => h.block i hi (fun h2 => by rcases h2 with h2 | h2; exact absurd hi (by omega); exact hS h2)⟩
theorem rob_fwd {α : Type} {d : Kd α} {S : Nat → Prop} {w w1 : World} {A : Option Addr} {n : Nat} {xs : List α} (h : (rob d S w).C w1 A n xs) (hb : Below w.heap.size w w1) : (rob d S w1).C w1 A n xs :=
  ReadsRow.imp_ (R' := (rob d S w1).K w1) h (Below.refl _ _) (fun _ _ hk w2 h2 => hk w2 ((Fr.of_below hb).trans h2))
theorem rob_old {α : Type} {d : Kd α} {w wr w2 : World} {g : Nat} {A : Option Addr} {n : Nat} {xs : List α} (h : (rob d (S0 w) wr).C wr A n xs) (hb : Below wr.heap.size wr w2) (hg : wr.heap.size ≤ g) : (rob d (S1 w g) w2).C w2 A n xs :=
  ReadsRow.imp_ (R' := (rob d (S1 w g) w2).K w2) h hb (fun _ _ hk w' h' => hk w' (((Fr.of_below hb).trans h').old hg))
theorem rob_plain {α : Type} {d : Kd α} {S : Nat → Prop} {w w1 : World} {A : Option Addr} {n : Nat} {xs : List α} (h : (rob d S w).C w1 A n xs) (hb : Below w.heap.size w w1) : d.C w1 A n xs :=
  ReadsRow.imp_ (R' := d.K w1) h (Below.refl _ _) (fun _ _ hk => hk w1 (Fr.of_below hb))
theorem robr {α : Type} {d : Kd α} {S T : Nat → Prop} {B : Nat} {w w1 w' : World} {A1 : Option Addr} {n c1 : Nat} {l : List α} (h : (rob d S w).C w1 A1 n l) (hbase : ∀ k, (Value.slice A1 n c1).ownBlock = some k → B ≤ k) (h' : Fr T w1 w') (hT : ∀ k, T k → k < B) (hf : Fr S w w') : d.C w' A1 n l := by
  refine ⟨h.1, h.2.1, fun hp => ?_⟩
  obtain ⟨ad, e, hc⟩ := h.2.2 hp
  subst e
  refine ⟨ad, rfl, fun j p hj => ?_⟩
  obtain ⟨cs, hl, hK, hcell⟩ := hc j p hj
  refine ⟨cs, hl, hK w' hf, fun i u hu => ?_⟩
  have h1 : w1.cell? (ad.add (j * d.sz + i)) = some u := hcell i u hu
  have hlt : (ad.add (j * d.sz + i)).block < w1.heap.size := World.block_lt_of_cell? w1 _ h1
  have hge : B ≤ ad.block := hbase ad.block rfl
  have hbk : (ad.add (j * d.sz + i)).block = ad.block := by unfold Addr.add; split <;> rfl
  have h3 := h'.block _ hlt (fun hs => by have := hT _ hs; omega)
  show w'.cell? (ad.add (j * d.sz + i)) = some u
  rw [← h1]
  unfold World.cell?
  rw [h3]
theorem robn {α : Type} {d : Kd α} {g : Nat} {w w' : World} {A1 : Option Addr} {n : Nat} {l : List α} (h : (rob d (fun k => k = g) w).C w A1 n l) (hn : ∀ ad, A1 = some ad → ad.block ≠ g) (h' : Fr (fun k => k = g) w w') : d.C w' A1 n l := by
  refine ⟨h.1, h.2.1, fun hp => ?_⟩
  obtain ⟨ad, e, hc⟩ := h.2.2 hp
  subst e
  refine ⟨ad, rfl, fun j p hj => ?_⟩
  obtain ⟨cs, hl, hK, hcell⟩ := hc j p hj
  refine ⟨cs, hl, hK w' h', fun i u hu => ?_⟩
  have h1 : w.cell? (ad.add (j * d.sz + i)) = some u := hcell i u hu
  have hlt : (ad.add (j * d.sz + i)).block < w.heap.size := World.block_lt_of_cell? w _ h1
  have hge := hn ad rfl
  have hbk : (ad.add (j * d.sz + i)).block = ad.block := by unfold Addr.add; split <;> rfl
  have h3 := h'.block _ hlt (fun hs => hge (hbk ▸ hs))
  show w'.cell? (ad.add (j * d.sz + i)) = some u
  rw [← h1]
  unfold World.cell?
  rw [h3]
/-- What there is in memory while boxes are made. -/
structure Ms (w w' : World) (A4 : Option Addr) (c4 : Nat) (A5 : Option Addr) (c5 : Nat) (q i : Nat) (bs : List Bo) : Prop where
  lq : bs.length = q
  h4 : q ≤ c4
  h5 : q ≤ c5
  C4 : (rob kD (S0 w) w').C w' A4 q (bs.map dB)
  C5 : (rob kB (S0 w) w').C w' A5 q bs
  ok : Ok i bs
  lb : Below w.heap.size w w'
  lg : w'.heap[w.heap.size]? = some (.cells #[.int .i64 0, .string ⟨#[]⟩, .int .i64 0, .slice none 0 0] 27 (0, 0))
  n5 : ∀ ad, A5 = some ad → ad.block ≠ w.heap.size
theorem Ms.below {w w' w2 : World} {A4 : Option Addr} {c4 : Nat} {A5 : Option Addr} {c5 q i : Nat} {bs : List Bo} (h : Ms w w' A4 c4 A5 c5 q i bs) (hb : Below w'.heap.size w' w2) : Ms w w2 A4 c4 A5 c5 q i bs :=
  ⟨h.lq, h.h4, h.h5, rob_fwd (Kd.C_below h.C4 hb) hb, rob_fwd (Kd.C_below h.C5 hb) hb, h.ok, below_step h.lb hb, blk_below h.lg hb, h.n5⟩
/-- Behind the switch: what is put behind the first r. -/
structure Cu (w wr wx : World) (q i : Nat) (bs : List Bo) (g : Nat) (v : Value) (r mm : Nat) (b : Bo) (x0 x1 x2 x3 : Value) : Prop where
  lr : q = r + mm
  lb : Below wr.heap.size wr wx
  d : DVX (S0 w) wx v (dB b)
  lg : wr.heap.size ≤ g
  e : wx.heap[g]? = some (.cells #[x0, x1, x2, x3] 27 (0, 0))
  k : (rob kB (S0 w) wx).K wx b [x0, x1, x2, x3]
  ok : Ok (i + 1) (bs.take r ++ [b])
theorem kB_leaf (w : World) (k : Int) (t : ByteArray) : kB.K w ⟨k, t, 0, []⟩ [.int .i64 k, .string t, .int .i64 0, .slice none 0 0] :=
  k27_mk w ⟨k, t, 0, []⟩ (A3 := none) (c3 := 0) (Nat.le_refl _) ⟨rfl, Nat.zero_le _, fun h => absurd h (Nat.lt_irrefl 0)⟩
theorem set4 {w : World} {g t : Nat} {x0 x1 x2 x3 : Value} (h : w.heap[g]? = some (.cells #[x0, x1, x2, x3] t (0, 0))) (a b c d : Value) :
    ((((w.setCell ⟨g, 0, none⟩ a).setCell ⟨g, 1, none⟩ b).setCell ⟨g, 2, none⟩ c).setCell ⟨g, 3, none⟩ d).heap[g]? = some (.cells #[a, b, c, d] t (0, 0)) ∧ Fr (fun k => k = g) w ((((w.setCell ⟨g, 0, none⟩ a).setCell ⟨g, 1, none⟩ b).setCell ⟨g, 2, none⟩ c).setCell ⟨g, 3, none⟩ d) :=
  ⟨blk_put (blk_put (blk_put (blk_put h 0 a rfl) 1 b rfl) 2 c rfl) 3 d rfl, (((Fr.refl (fun k => k = g) w).set _ _ rfl).set _ _ rfl |>.set _ _ rfl).set _ _ rfl⟩
theorem info27 : (Tryd.prog.info? 27).map (fun i => (i.zero, i.size, i.bytes)) = some (some (.agg #[.int .i64 0, .string ⟨#[]⟩, .int .i64 0, .slice none 0 0]), 4, 56) := by kernel_rfl
theorem fix_row {α : Type} {d : Kd α} {Sb : Nat → Prop} {B : Nat} {w w1 w' : World} {A1 : Option Addr} {n c1 : Nat} {l : List α} (h : (Kd.fixed d w).C w1 A1 n l) (hbase : ∀ k, (Value.slice A1 n c1).ownBlock = some k → B ≤ k) (h' : Fr Sb w1 w') (hS : ∀ k, Sb k → k < B) (hb : Below w.heap.size w w') : d.C w' A1 n l := by
  refine ⟨h.1, h.2.1, fun hp => ?_⟩
  obtain ⟨ad, e, hc⟩ := h.2.2 hp
  subst e
  refine ⟨ad, rfl, fun j p hj => ?_⟩
  obtain ⟨cs, hl, hK, hcell⟩ := hc j p hj
  refine ⟨cs, hl, d.K_below hb hK, fun i u hu => ?_⟩
  have h1 := hcell i u hu
  have hlt := World.block_lt_of_cell? w1 _ h1
  have hge : B ≤ ad.block := hbase ad.block rfl
  have hbk : (ad.add (j * d.sz + i)).block = ad.block := by unfold Addr.add; split <;> rfl
  have hlt2 : (ad.add (j * d.sz + i)).block < w1.heap.size := hlt
  have h3 := h'.block _ hlt2 (fun hs => by have := hS _ hs; omega)
  show w'.cell? (ad.add (j * d.sz + i)) = some u
  have h1' : w1.cell? (ad.add (j * d.sz + i)) = some u := h1
  rw [← h1']
  unfold World.cell?
  rw [h3]
theorem at_DX {S : Nat → Prop} {w : World} {A : Option Addr} {n : Nat} {xs : List D} (h : (rob kD S w).C w A n xs) (i : Nat) (hi : i < xs.length) : ∃ ad v, A = some ad ∧ w.cell? (ad.add i) = some v ∧ DVX S w v xs[i] := by
  have hn : xs.length = n := h.1
  obtain ⟨ad, c, e, hl, hK, hc⟩ := Kd.C_get h none (i : Int) (by omega) (by omega)
  have hl1 : c.length = 1 := hl
  obtain ⟨v, rfl⟩ : ∃ v, c = [v] := by
    cases c with
    | nil => simp at hl1
    | cons v r => cases r with
      | nil => exact ⟨v, rfl⟩
      | cons _ _ => simp at hl1
  refine ⟨ad, v, e, ?_, ?_⟩
  · have := hc 0 v rfl
    rw [show (rob kD S w).sz = 1 from rfl, Int.toNat_natCast, Nat.mul_one, Nat.add_zero] at this
    exact this
  · rw [Int.toNat_natCast] at hK
    have e2 : xs.getD i none = xs[i] := by simp [List.getD, hi]
    rw [e2] at hK
    exact hK
theorem at_BX {S : Nat → Prop} {w : World} {A : Option Addr} {n : Nat} {xs : List Bo} (h : (rob kB S w).C w A n xs) (i : Nat) (hi : i < xs.length) : ∃ ad A3 c3, A = some ad ∧ w.cell? (ad.add (i * 4)) = some (.int .i64 xs[i].f0) ∧ w.cell? ⟨(ad.add (i * 4)).block, (ad.add (i * 4)).off + 1, none⟩ = some (.string xs[i].f1) ∧ w.cell? ⟨(ad.add (i * 4)).block, (ad.add (i * 4)).off + 2, none⟩ = some (.int .i64 xs[i].f2) ∧ w.cell? ⟨(ad.add (i * 4)).block, (ad.add (i * 4)).off + 3, none⟩ = some (.slice A3 xs[i].f3.length c3) ∧ ∀ w', Fr S w w' → kB.K w' xs[i] [.int .i64 xs[i].f0, .string xs[i].f1, .int .i64 xs[i].f2, .slice A3 xs[i].f3.length c3] := by
  have hn : xs.length = n := h.1
  obtain ⟨ad, c, e, _, hK, hc0⟩ := Kd.C_get h z27 (i : Int) (by omega) (by omega)
  rw [Int.toNat_natCast] at hK hc0
  have e2 : xs.getD i z27 = xs[i] := by simp [List.getD, hi]
  rw [e2] at hK
  have hc : ∀ j u, c[j]? = some u → w.cell? (ad.add (i * 4 + j)) = some u := hc0
  obtain ⟨A3, c3, rfl, l3, g3⟩ := k27_open (hK w (Fr.refl _ _))
  exact ⟨ad, A3, c3, e, hc 0 _ rfl, by rw [← add_field _ _ 1 (by omega)]; exact hc 1 _ rfl, by rw [← add_field _ _ 2 (by omega)]; exact hc 2 _ rfl, by rw [← add_field _ _ 3 (by omega)]; exact hc 3 _ rfl, hK⟩
theorem boxlit {w : World} {g : Nat} {x0 x1 x2 x3 : Value} {y : Bo} (h : w.heap[g]? = some (.cells #[x0, x1, x2, x3] 27 (0, 0))) (hk : kB.K w y [x0, x1, x2, x3]) : kB.C w (some ⟨g, 0, none⟩) 1 [y] := by
  refine ⟨rfl, by omega, fun _ => ⟨_, rfl, fun j p hp => ?_⟩⟩
  have hj : j = 0 ∧ y = p := by
    cases j with
    | zero => simpa using hp
    | succ j => simp at hp
  obtain ⟨rfl, rfl⟩ := hj
  refine ⟨_, rfl, hk, fun i u hu => ?_⟩
  show w.cell? ((⟨g, 0, none⟩ : Addr).add (0 * 4 + i)) = _
  rw [add_plain]
  refine (blk_cell h _).trans ?_
  simpa using hu
theorem boxlitF {S : Nat → Prop} {w wc : World} {g : Nat} {x0 x1 x2 x3 : Value} {y : Bo} (h : w.heap[g]? = some (.cells #[x0, x1, x2, x3] 27 (0, 0))) (hk : (rob kB S wc).K wc y [x0, x1, x2, x3]) : ReadsRow ((rob kB S wc).K wc) 4 w (some ⟨g, 0, none⟩) 1 [y] := by
  refine ⟨rfl, by omega, fun _ => ⟨_, rfl, fun j p hp => ?_⟩⟩
  have hj : j = 0 ∧ y = p := by
    cases j with
    | zero => simpa using hp
    | succ j => simp at hp
  obtain ⟨rfl, rfl⟩ := hj
  refine ⟨_, rfl, hk, fun i u hu => ?_⟩
  rw [add_plain, Nat.zero_mul, Nat.zero_add]
  refine (blk_cell h _).trans ?_
  simpa using hu
theorem mn_clp (n : Int) : mn (mx n 0) 100 = clp n := by
  unfold mn mx clp
  split <;> split <;> omega
theorem clp_bd (n : Int) : 0 ≤ clp n ∧ clp n ≤ 100 := by unfold clp; omega
/-- What a row of one's own, fixed, says. -/
theorem fix_C {α : Type} {d : Kd α} {w w1 : World} {A : Option Addr} {n : Nat} {xs : List α} (h : (Kd.fixed d w).C w1 A n xs) (hb : Below w.heap.size w w1) : d.C w1 A n xs := ReadsRow.imp_ (R' := d.K w1) h (Below.refl _ _) (fun _ _ hk => d.K_below hb hk)
def mk28.T : Bool × List (List Nat × List Nat) := (true, [([], []), ([0], [0]), ([], []), ([], []), ([3], [3]), ([4], [4]), ([2, 5], [2, 5]), ([6], [6]), ([7], [7]), ([1, 8], [1, 8]), ([9, 0, 1, 2, 3, 4, 5, 6, 7, 8, 9], [9])])
def mk28.B : List Nat := [0, 1, 0, 0, 8, 24, 60, 124, 252, 511, 1023]
theorem mk28.tab : rtab .any (opsOf Tryd.f10 28) = mk28.T := by kernel_rfl
theorem mk28.bits : waitsOk mk28.T.2 mk28.B = true := by kernel_rfl
def mk30.T : Bool × List (List Nat × List Nat) := (true, [([], []), ([0], [0]), ([], []), ([], []), ([3], [3]), ([4], [4]), ([2, 5], [2, 5]), ([6], [6]), ([1, 7], [1, 7]), ([8, 8, 0, 1, 2, 3, 4, 5, 6, 7, 8], [8])])
def mk30.B : List Nat := [0, 1, 0, 0, 8, 24, 60, 124, 255, 511]
theorem mk30.tab : rtab .any (opsOf Tryd.f10 30) = mk30.T := by kernel_rfl
theorem mk30.bits : waitsOk mk30.T.2 mk30.B = true := by kernel_rfl
def mk34.T : Bool × List (List Nat × List Nat) := (true, [([], []), ([], []), ([], []), ([2], [2]), ([], []), ([3, 4], [3, 4]), ([1, 5], [1, 5]), ([0, 6], [0, 6]), ([], []), ([8], [8]), ([7, 9, 7], [7, 9]), ([10, 10, 0, 1, 2, 3, 4, 5, 6, 7, 8, 9, 10], [1, 2, 10])])
def mk34.B : List Nat := [0, 0, 0, 4, 0, 28, 62, 127, 0, 256, 1023, 2047]
theorem mk34.tab : rtab .any (opsOf Tryd.f10 34) = mk34.T := by kernel_rfl
theorem mk34.bits : waitsOk mk34.T.2 mk34.B = true := by kernel_rfl
set_option maxHeartbeats 8000000 in
set_option maxRecDepth 100000 in
theorem Make_ (A : Option Addr) (c : Nat) (l : List Ac) (w : World) (hM : Mx w) (hC : kA.C w A l.length l) (hc : l.length ≤ c) :
    Calls Tryd.prog 10 #[.slice A l.length c] w fun e w' => ∃ (v : Value) (bs : List Bo) (A5 : Option Addr) (c5 : Nat), e = .returned (.tuple #[v, .agg #[.int .i64 4, .string ⟨#[]⟩, .int .i64 0, .slice A5 bs.length c5]]) ∧ DV w' v (bD 4 0 (bs.map dB)) ∧ bs.length ≤ c5 ∧ kB.C w' A5 bs.length bs ∧ Ok 60 bs ∧ Below w.heap.size w w' := by
  have HM := Aside0.mk hM
  have HC := Aside0.mk hC
  have HL := Aside0.mk (show l.length ≤ 9223372036854775807 from hC.2.1)
  clear hM hC hc
  go_enter Tryd.func10, Tryd.ntmps10
  go_wp2
  have HMS := Aside0.mk (show Ms w (w.alloc (.cells #[.int .i64 0, .string ⟨#[]⟩, .int .i64 0, .slice none 0 0] 27)) none 0 none 0 0 0 [] from ⟨rfl, Nat.le_refl _, Nat.le_refl _, ⟨rfl, Nat.zero_le _, fun h => absurd h (Nat.lt_irrefl 0)⟩, ⟨rfl, Nat.zero_le _, fun h => absurd h (Nat.lt_irrefl 0)⟩, Ok.nil, below_alloc (Below.refl w.heap.size w) _, blk_new w _, fun ad h => by cases h⟩)
  go_loopg [4, 5, 6] (61) (fun kq v4 v5 v6 w' => ∃ (i : Nat) (A4 : Option Addr) (c4 : Nat) (A5 : Option Addr) (c5 q : Nat) (bs : List Bo), v4 = .slice A4 q c4 ∧ v5 = .slice A5 q c5 ∧ v6 = .int .i64 (i : Int) ∧ Aside0 (i ≤ l.length ∧ i ≤ 60 ∧ kq + i = 61) ∧ Aside0 (Ms w w' A4 c4 A5 c5 q i bs))
  case atStart => exact ⟨0, none, 0, none, 0, 0, [], rfl, rfl, rfl, ⟨by omega, by omega, rfl⟩, HMS⟩
  case round =>
    clear HMS
    obtain ⟨i, A4, c4, A5, c5, q, bs, rfl, rfl, rfl, HI, HMS⟩ := hrel
    by_cases c9 : i < l.length
    · by_cases c8 : i < 60
      · have d1 : decide (i < l.length) = true := decide_eq_true c9
        have d2 : decide ((i : Int) < 60) = true := decide_eq_true (by omega)
        obtain ⟨ad, e1, hx0, hx1, hx2⟩ := at_A HC.out i c9
        subst e1
        have hB := HMS.out.lb
        replace hx0 := (hB.cell (World.block_lt_of_cell? w _ hx0)).trans hx0
        replace hx1 := (hB.cell (World.block_lt_of_cell? w _ hx1)).trans hx1
        replace hx2 := (hB.cell (World.block_lt_of_cell? w _ hx2)).trans hx2
        have HMX := Aside0.mk (HM.out.below hB HM.out.pos)
        have C9 := Aside0.mk (And.intro c9 c8)
        generalize l[i] = x at hx0 hx1 hx2
        obtain ⟨k, n, s⟩ := x
        dsimp only at hx0 hx1 hx2
        clear hB
        have HXB := Aside0.mk (blk_new wr (.cells #[.int .i64 k, .int .i64 n, .string s] 59))
        have HT0 := Aside0.mk (show ∀ k_, S0 w k_ → k_ < (wr.alloc (.cells #[.int .i64 k, .int .i64 n, .string s] 59)).heap.size from fun k_ hk => by have h1 := blk_lt HMS.out.lg; have h2 : k_ = w.heap.size := hk; simp; omega)
        have HBA := Aside0.mk (below_alloc (Below.refl wr.heap.size wr) (.cells #[.int .i64 k, .int .i64 n, .string s] 59))
        go_upto_block 2 with (go_at_call 26; refine (Tight_X (S0 w) _ HT0.out).mono ?_; rintro e w1 ⟨v1, rfl, hd, hb⟩; have HD := Aside0.mk hd; have HB1 := Aside0.mk (below_step HBA.out hb); have HX := Aside0.mk (blk_alloc (blk_below HXB.out hb) (.cells #[.int .i64 2, .string ⟨#[]⟩, .int .i64 0, .slice none 0 0] 27)); have HE := Aside0.mk (blk_new w1 (.cells #[.int .i64 2, .string ⟨#[]⟩, .int .i64 0, .slice none 0 0] 27)); have HGX := Aside0.mk (blk_lt (blk_below HXB.out hb)); have HB := Aside0.mk (below_alloc (below_step HBA.out hb) (.cells #[.int .i64 2, .string ⟨#[]⟩, .int .i64 0, .slice none 0 0] 27)); have y0 := (blk_cell HX.out 0).trans rfl; clear hd hb)
        clear y0 hx0 hx1 hx2 d1 d2 HXB HBA
        have HD2 := Aside0.mk (HD.out.fr (Fr.of_below (below_alloc (Below.refl _ _) (.cells #[.int .i64 2, .string ⟨#[]⟩, .int .i64 0, .slice none 0 0] 27))))
        have HGE := Aside0.mk HB1.out.size
        have HGL := Aside0.mk (show w1.heap.size < (w1.alloc (.cells #[.int .i64 2, .string ⟨#[]⟩, .int .i64 0, .slice none 0 0] 27)).heap.size from by simp)
        have HS1 := Aside0.mk (show ∀ k, S1 w w1.heap.size k → k < (w1.alloc (.cells #[.int .i64 2, .string ⟨#[]⟩, .int .i64 0, .slice none 0 0] 27)).heap.size from fun k hk => by have h1 := blk_lt HMS.out.lg; have h2 := HB1.out.size; exact hk.elim (fun h => by rw [h]; simp) (fun h => by rw [h]; simp; omega))
        clear HB1 HD HT0
        generalize w1.alloc (.cells #[.int .i64 2, .string ⟨#[]⟩, .int .i64 0, .slice none 0 0] 27) = w2 at *
        generalize w1.heap.size = ge at *
        by_cases hcon : (k = 5 ∨ k = 6) ∧ q = 0
        · obtain ⟨hk, rfl⟩ := hcon
          have hic := C9.out
          have hk0 : (k == 0) = false := by rcases hk with rfl | rfl <;> rfl
          have hk1 : (k == 1) = false := by rcases hk with rfl | rfl <;> rfl
          have hk3 : (k == 3) = false := by rcases hk with rfl | rfl <;> rfl
          have hk4 : (k == 4) = false := by rcases hk with rfl | rfl <;> rfl
          have HMS2 := Aside0.mk (HMS.out.below HB.out)
          rcases hk with rfl | rfl
          all_goals (
          go_wp2
          go_roundg (gk - 1)
          case measure => have := HI.out; omega
          case rel => exact ⟨i + 1, A4, c4, A5, c5, 0, bs, rfl, rfl, by go_num, ⟨by have := C9.out; omega, by have := C9.out; omega, by have := HI.out; have := C9.out; omega⟩, ⟨⟨HMS2.out.lq, HMS2.out.h4, HMS2.out.h5, HMS2.out.C4, HMS2.out.C5, HMS2.out.ok.mono (by omega), HMS2.out.lb, HMS2.out.lg, HMS2.out.n5⟩⟩⟩
          )
        have HCON := Aside0.mk hcon
        clear hcon
        go_cut [8, 9, 11] (fun s8 s9 s11 wx => ∃ (r mm : Nat) (b : Bo) (x0 x1 x2 x3 : Value), s8 = .int .i64 (mm : Int) ∧ Aside0 (Cu w wr wx q i bs ge s9 r mm b x0 x1 x2 x3))
        case first =>
          by_cases h0 : k = 0
          · subst h0
            have y2 := (blk_cell HX.out 2).trans rfl
            obtain ⟨m0, hm0⟩ : ∃ m0 : Nat, m0 = min s.size 30 := ⟨_, rfl⟩
            have hmin : min (s.size : Int) 30 = (m0 : Int) := by omega
            have hle : m0 ≤ s.size := by omega
            have hsz : (s.extract 0 m0).size ≤ 30 := by rw [ByteArray.size_extract]; omega
            have HSZ := Aside0.mk hsz
            have HT := Aside0.mk (Text_X (S1 w ge) (s.extract 0 m0) w2 (HMX.out.below HB.out HMX.out.pos) (by omega) HS1.out)
            clear hsz hm0
            go_wp2_with (go_at_call 30; refine HT.out.mono ?_; clear HT; rintro e w3 ⟨v3, rfl, hd, hb⟩; have HD3 := Aside0.mk hd; have HB3 := Aside0.mk (below_step HB.out hb); have HE3 := Aside0.mk (blk_below HE.out hb); have hf0 := blk_frozen HE3.out 0; have hf1 := blk_frozen HE3.out 1; have hf2 := blk_frozen HE3.out 2; have hf3 := blk_frozen HE3.out 3; have hc0 := (blk_cell HE3.out 0).trans rfl; have hc1 := (blk_cell HE3.out 1).trans rfl; have hc2 := (blk_cell HE3.out 2).trans rfl; have hc3 := (blk_cell HE3.out 3).trans rfl; clear hd hb)
            go_meet
            case rel =>
              have hs4 := set4 HE3.out (.int .i64 0) (.string (s.extract 0 m0)) (.int .i64 0) (.slice none 0 0)
              exact ⟨q, 0, ⟨0, s.extract 0 m0, 0, []⟩, _, _, _, _, rfl, ⟨⟨rfl, HB3.out.trans (hs4.2.below (fun k hk => hk ▸ HGE.out) HB3.out.size), (HD3.out.fr (hs4.2.mono (fun k hk => Or.inl hk))).sub, HGE.out, hs4.1, fun _ _ => kB_leaf _ _ _, by rw [List.take_of_length_le (by have := HMS.out.lq; omega)]; exact HMS.out.ok.text _ HSZ.out⟩⟩⟩
          have e0 : (k == 0) = false := beq_eq_false_iff_ne.2 h0
          by_cases h1 : k = 1
          · subst h1
            have HT := Aside0.mk (Blank_X (S1 w ge) w2 HS1.out)
            go_wp2_with (go_at_call 31; refine HT.out.mono ?_; clear HT; rintro e w3 ⟨v3, rfl, hd, hb⟩; have HD3 := Aside0.mk hd; have HB3 := Aside0.mk (below_step HB.out hb); have HE3 := Aside0.mk (blk_below HE.out hb); have hf0 := blk_frozen HE3.out 0; have hf1 := blk_frozen HE3.out 1; have hf2 := blk_frozen HE3.out 2; have hf3 := blk_frozen HE3.out 3; have hc0 := (blk_cell HE3.out 0).trans rfl; have hc1 := (blk_cell HE3.out 1).trans rfl; have hc2 := (blk_cell HE3.out 2).trans rfl; have hc3 := (blk_cell HE3.out 3).trans rfl; clear hd hb)
            go_meet
            case rel =>
              have hs4 := blk_put HE3.out 0 (.int .i64 1) rfl
              have hfr := (Fr.refl (fun k => k = ge) w3).set ⟨ge, 0, none⟩ (.int .i64 1) rfl
              exact ⟨q, 0, ⟨1, ⟨#[]⟩, 0, []⟩, _, _, _, _, rfl, ⟨⟨rfl, HB3.out.trans (hfr.below (fun k hk => hk ▸ HGE.out) HB3.out.size), (HD3.out.fr (hfr.mono (fun k hk => Or.inl hk))).sub, HGE.out, hs4, fun _ _ => kB_leaf _ _ _, by rw [List.take_of_length_le (by have := HMS.out.lq; omega)]; exact HMS.out.ok.blank⟩⟩⟩
          have e1 : (k == 1) = false := beq_eq_false_iff_ne.2 h1
          by_cases h3 : k = 3
          · subst h3
            have HT := Aside0.mk (Hard_X (S1 w ge) w2 HS1.out)
            go_wp2_with (go_at_call 32; refine HT.out.mono ?_; clear HT; rintro e w3 ⟨v3, rfl, hd, hb⟩; have HD3 := Aside0.mk hd; have HB3 := Aside0.mk (below_step HB.out hb); have HE3 := Aside0.mk (blk_below HE.out hb); have hf0 := blk_frozen HE3.out 0; have hf1 := blk_frozen HE3.out 1; have hf2 := blk_frozen HE3.out 2; have hf3 := blk_frozen HE3.out 3; have hc0 := (blk_cell HE3.out 0).trans rfl; have hc1 := (blk_cell HE3.out 1).trans rfl; have hc2 := (blk_cell HE3.out 2).trans rfl; have hc3 := (blk_cell HE3.out 3).trans rfl; clear hd hb)
            go_meet
            case rel =>
              have hs4 := blk_put HE3.out 0 (.int .i64 3) rfl
              have hfr := (Fr.refl (fun k => k = ge) w3).set ⟨ge, 0, none⟩ (.int .i64 3) rfl
              exact ⟨q, 0, ⟨3, ⟨#[]⟩, 0, []⟩, _, _, _, _, rfl, ⟨⟨rfl, HB3.out.trans (hfr.below (fun k hk => hk ▸ HGE.out) HB3.out.size), (HD3.out.fr (hfr.mono (fun k hk => Or.inl hk))).sub, HGE.out, hs4, fun _ _ => kB_leaf _ _ _, by rw [List.take_of_length_le (by have := HMS.out.lq; omega)]; exact HMS.out.ok.hard⟩⟩⟩
          have e3 : (k == 3) = false := beq_eq_false_iff_ne.2 h3
          clear h0 h1 h3
          by_cases h4 : k = 4
          · subst h4
            have y1 := (blk_cell HX.out 1).trans rfl
            obtain ⟨mm, hmm⟩ : ∃ mm : Nat, (mm : Int) = min (max n 0) (q : Int) := ⟨(min (max n 0) (q : Int)).toNat, by omega⟩
            have hle : mm ≤ q := by omega
            obtain ⟨r, hr⟩ : ∃ r, q = r + mm := ⟨q - mm, by omega⟩
            subst hr
            have hmin : min (max n 0) ((r + mm : Nat) : Int) = (mm : Int) := hmm.symm
            have hmin2 : min (max n 0) ((r : Int) + (mm : Int)) = (mm : Int) := by rw [← Int.natCast_add]; exact hmm.symm
            have hsub : ((r : Int) + (mm : Int)) - (mm : Int) = (r : Int) := by omega
            have HQ := Aside0.mk (show r + mm ≤ 60 from by have h1 := HMS.out.lq; have h2 := HMS.out.ok.n; have h3 := C9.out; omega)
            have hq60 := HQ.out
            have lqm : (bs.map dB).length = r + mm := by rw [List.length_map]; exact HMS.out.lq
            have hdl : ((bs.map dB).drop r).length = mm := by rw [List.length_drop, lqm]; omega
            have hdb : (bs.drop r).length = mm := by rw [List.length_drop, HMS.out.lq]; omega
            obtain ⟨A4', hA4, hC4⟩ : ∃ A', (∀ W : World, (Instr.slice 40 (.slice A4 (r + mm) c4) (some (.int .i64 (r : Int))) none none).run Tryd.prog W = .ok (.slice A' mm (c4 - r)) W) ∧ (rob kD (S0 w) wr).C wr A' mm ((bs.map dB).drop r) := by
              obtain ⟨i0, hi, hzz⟩ := Option.map_eq_some_iff.1 info24
              simp only [Prod.mk.injEq] at hzz
              have h1 := cut_from (P := Tryd.prog) 40 24 .i64 Tryd.underlying40 hi 1 hzz.2.1 A4 (r + mm) c4 (r : Int) (by omega) (by omega)
              have h2 := Kd.C_drop (k := rob kD (S0 w) wr) (w := wr) (A := A4) (xs := bs.map dB) (m := r) (c := c4) (by rw [lqm]; exact HMS.out.C4) (by omega) (by rw [lqm]; exact HMS.out.h4)
              rw [hdl] at h2
              refine ⟨_, fun W => ?_, h2⟩
              have := h1 W
              rw [Int.toNat_natCast, show r + mm - r = mm from by omega] at this
              exact this
            obtain ⟨A5', hA5, hC5⟩ : ∃ A', (∀ W : World, (Instr.slice 25 (.slice A5 (r + mm) c5) (some (.int .i64 (r : Int))) none none).run Tryd.prog W = .ok (.slice A' mm (c5 - r)) W) ∧ (rob kB (S0 w) wr).C wr A' mm (bs.drop r) := by
              obtain ⟨i0, hi, hzz⟩ := Option.map_eq_some_iff.1 info27
              simp only [Prod.mk.injEq] at hzz
              have h1 := cut_from (P := Tryd.prog) 25 27 .i64 Tryd.underlying25 hi 4 hzz.2.1 A5 (r + mm) c5 (r : Int) (by omega) (by omega)
              have h2 := Kd.C_drop (k := rob kB (S0 w) wr) (w := wr) (A := A5) (xs := bs) (m := r) (c := c5) (by rw [HMS.out.lq]; exact HMS.out.C5) (by rw [HMS.out.lq]; omega) (by rw [HMS.out.lq]; exact HMS.out.h5)
              rw [hdb] at h2
              refine ⟨_, fun W => ?_, h2⟩
              have := h1 W
              rw [Int.toNat_natCast, show r + mm - r = mm from by omega] at this
              exact this
            have hbd := HMS.out.ok.bd.drop r
            have hi60 := C9.out.2
            have HT := Aside0.mk (Cat_X (S1 w ge) A4' (c4 - r) ((bs.map dB).drop r) w2 (by rw [hdl]; exact rob_old hC4 HB.out HGE.out) HS1.out (by rw [hdl]; have := HMS.out.h4; omega) (by omega) hbd.2.2 (by omega) (by omega))
            rw [hdl] at HT
            have HC5 := Aside0.mk hC5
            have HDB := Aside0.mk hdb
            have HOK := Aside0.mk (HMS.out.ok.box (by omega) r (by rw [HMS.out.lq]; omega) 4 0 (Or.inl rfl) (by omega) (by omega))
            clear hmm hle lqm hdl hdb hC4 hC5 hbd hi60
            go_wp2_with (first | (go_at_call 11; refine HT.out.mono ?_; clear HT; rintro e w3 ⟨v3, rfl, hd, hb⟩; have HD3 := Aside0.mk hd; have HB3 := Aside0.mk (below_step HB.out hb); have HE3 := Aside0.mk (blk_below HE.out hb); clear hd hb) | ((with_reducible refine gate_dst (N := 66) rfl ?_); refine Kd.R_lit (rob kB (S0 w) wr) (w0 := w3) w3.heap.size 27 rfl rfl (xs := ([] : List Bo)) (inner := []) (ok := fun _ => True) (okp := fun _ => True) (by first | (go_simp; done) | (go_simp; rfl)) (Reps.none _ _) (fun _ h => h) trivial (Below.refl _ _) (Nat.le_refl _) (by simp) ?_; intro v9 w9 hR hB9 _ _; obtain ⟨A9, c10, rfl, -⟩ := Kd.R_reads hR; have HRq := Aside0.mk hR; have HBq := Aside0.mk hB9; clear hR hB9) | (at_builtin; refine Kd.R_append_rows (rob kB (S0 w) wr) (Rr := (rob kB (S0 w) wr).K wr) (w0 := w3) w3.heap.size rfl _ _ 25 27 (.agg #[.int .i64 0, .string ⟨#[]⟩, .int .i64 0, .slice none 0 0]) 56 rfl Tryd.underlying25 info27 rfl (by show 0 < 4; omega) (by omega) _ [] (bs.drop r) A5' mm (c5 - r) (fun _ => True) (fun _ => False) rfl rfl HRq.out (ReadsRow.imp_ HC5.out (below_step HB3.out HBq.out) (fun _ _ h => h)) (fun x cs h => h) (fun _ h => h.elim) (fun _ _ => trivial) HBq.out HBq.out.size (by simp only [List.length_nil]; omega) ?_; intro v9 w9 hR hB9 _ _; rw [List.nil_append] at hR; obtain ⟨A9, c11, rfl, hl9, hC9⟩ := Kd.R_reads hR; rw [HDB.out]; have HR9 := Aside0.mk (And.intro hl9 hC9); have HBS := Aside0.mk (Kd.R_base hR); have HB9 := Aside0.mk hB9; have HE4 := Aside0.mk (blk_below HE3.out hB9); have HE5 := Aside0.mk HE3.out; clear hR hB9 hl9 hC9 HE3; have HE3 := HE4; have hf0 := blk_frozen HE3.out 0; have hf1 := blk_frozen HE3.out 1; have hf2 := blk_frozen HE3.out 2; have hf3 := blk_frozen HE3.out 3; have hc0 := (blk_cell HE3.out 0).trans rfl; have hc1 := (blk_cell HE3.out 1).trans rfl; have hc2 := (blk_cell HE3.out 2).trans rfl; have hc3 := (blk_cell HE3.out 3).trans rfl))
            go_meet
            case rel =>
              have hs4 := set4 HE3.out (.int .i64 4) (.string ⟨#[]⟩) (.int .i64 0) (.slice A9 mm c11)
              have hf3 := (Fr.of_below (S := S1 w ge) HB9.out).trans (hs4.2.mono (fun k hk => Or.inl hk))
              have hbx := (HB3.out.trans (HB9.out.mono HB3.out.size)).trans (hs4.2.below (fun k hk => hk ▸ HGE.out) (Nat.le_trans HB3.out.size HB9.out.size))
              have hbq := blk_lt HE5.out
              have hbl := blk_lt HMS.out.lg
              have hbz := HB3.out.size
              have hk := fun (w' : World) (h' : Fr (S0 w) _ w') => k27_mk w' ⟨4, ⟨#[]⟩, 0, bs.drop r⟩ (A3 := A9) (c3 := c11) HR9.out.1 (robr (B := w3.heap.size) (c1 := c11) (T := S1 w ge) HR9.out.2 HBS.out ((hs4.2.mono (fun k hk => Or.inl hk)).trans (h'.mono (fun k hk => Or.inr hk))) (fun k hk => hk.elim (fun h => by rw [h]; exact hbq) (fun h => by rw [h]; omega)) ((Fr.of_below hbx).trans h'))
              have hdb := HDB.out
              simp only [hdb] at hk
              exact ⟨r, mm, ⟨4, ⟨#[]⟩, 0, bs.drop r⟩, _, _, _, _, rfl, ⟨⟨rfl, hbx, by rw [dB_box 4 0 _ _ (Or.inl rfl), List.map_drop]; exact (HD3.out.fr hf3).sub, HGE.out, hs4.1, hk, HOK.out⟩⟩⟩
          have e4 : (k == 4) = false := beq_eq_false_iff_ne.2 h4
          clear h4
          by_cases h5 : k = 5
          · subst h5
            obtain ⟨r, hr⟩ : ∃ r, q = r + 1 := ⟨q - 1, by have := HCON.out; have : ¬ q = 0 := fun h => this ⟨Or.inl rfl, h⟩; omega⟩
            have HQ := Aside0.mk hr
            have hq60 : q ≤ 60 := by have h1 := HMS.out.lq; have h2 := HMS.out.ok.n; have h3 := C9.out; omega
            have hq0 : ((q : Int) == 0) = false := by rw [beq_eq_false_iff_ne]; omega
            have hqw : IntKind.i64.wrap ((q : Int) - 1) = (r : Int) := by rw [IntKind.wrap_i64]; omega
            have hqs : ((q : Int) - 1) = (r : Int) := by omega
            have hrq : r < q := by omega
            have hwr : wrap64 (r : Int) = (r : Int) := w64 _ (by omega) (by omega)
            have hrd : decide (r < q) = true := decide_eq_true hrq
            have hrb : r < bs.length := by rw [HMS.out.lq]; exact hrq
            obtain ⟨ad4, va, e4_, hca, hda⟩ := at_DX HMS.out.C4 r (by simpa using hrb)
            subst e4_
            obtain ⟨ad5', A7, c7, e5_, hb0, hb1, hb2, hb3, hC7⟩ := at_BX HMS.out.C5 r hrb
            subst e5_
            have hdy : (bs.map dB)[r]'(by simpa using hrb) = dB bs[r] := by simp
            rw [hdy] at hda
            have hdrop : bs.drop r = [bs[r]] := by rw [List.drop_eq_getElem_cons hrb, List.drop_eq_nil_of_le (by rw [HMS.out.lq]; omega)]
            have hi60 := C9.out.2
            have HOK := Aside0.mk (HMS.out.ok.box (by omega) r (by omega) 5 (clp n) (Or.inr (Or.inl rfl)) (clp_bd n).1 (clp_bd n).2)
            rw [hdrop] at HOK
            have hnn := HMS.out.ok.bd.nn (dB bs[r]) (List.mem_map_of_mem (List.getElem_mem hrb))
            have hbw := HMS.out.ok.bd.drop r
            rw [← List.map_drop, hdrop, List.map_singleton, wds_1, szs_1] at hbw
            generalize bs[r] = y at hb0 hb1 hb2 hb3 hC7 hda HOK hnn hbw
            obtain ⟨ad5, had5⟩ : ∃ a5, a5 = ad5'.add (r * 4) := ⟨_, rfl⟩
            have hix : ad5'.add (r * 4) = ad5 := had5.symm
            rw [hix] at hb0 hb1 hb2 hb3
            have HS := Aside0.mk (fun (u : World) (hb : Below w2.heap.size w2 u) => show u.cell? ⟨wr.heap.size, 0, none⟩ = some (.int .i64 5) ∧ u.cell? ad5 = some (.int .i64 y.f0) ∧ u.cell? ⟨ad5.block, ad5.off + 1, none⟩ = some (.string y.f1) ∧ u.cell? ⟨ad5.block, ad5.off + 2, none⟩ = some (.int .i64 y.f2) ∧ u.cell? ⟨ad5.block, ad5.off + 3, none⟩ = some (.slice A7 y.f3.length c7) from ⟨(blk_cell (blk_below HX.out hb) 0).trans rfl, pw_cell_below (below_step HB.out hb) hb0, pw_cell_below (below_step HB.out hb) hb1, pw_cell_below (below_step HB.out hb) hb2, pw_cell_below (below_step HB.out hb) hb3⟩)
            have HS2 := Aside0.mk (fun (u : World) (hb : Below wr.heap.size wr u) (hx : u.heap[wr.heap.size]? = some (.cells #[.int .i64 5, .int .i64 n, .string s] 59 (0, 0))) => show u.cell? ⟨wr.heap.size, 1, none⟩ = some (.int .i64 n) ∧ u.cell? (ad4.add r) = some va from ⟨(blk_cell hx 1).trans rfl, pw_cell_below hb hca⟩)
            have HCY := Aside0.mk hC7
            have HDA := Aside0.mk hda
            have HNN := Aside0.mk (And.intro hnn (And.intro (show wd (dB y) ≤ 1000000000000 by omega) (show sz (dB y) ≤ 1000000000000 by omega)))
            have HAD := Aside0.mk hix
            clear hdy hb0 hb1 hb2 hb3 hca hda hC7 hdrop hi60 hnn hbw hrb had5 hr
            have y0 := (blk_cell HX.out 0).trans rfl
            have hnl : (q : Int) - 1 < (q : Int) := by omega
            go_wp2
            clear y0
            have n0_ := Aside0.mk (below_drew1 (Below.refl w2.heap.size w2))
            have n1_ := Aside0.mk (blk_drew HE.out)
            clear HE
            have HBW := n0_
            have HE := n1_
            clear n0_ n1_
            refine start_ (n := 11) (S := fun w' => w'.cell? ⟨wr.heap.size, 0, none⟩ = some (.int .i64 5) ∧ w'.cell? ad5 = some (.int .i64 y.f0) ∧ w'.cell? ⟨ad5.block, ad5.off + 1, none⟩ = some (.string y.f1) ∧ w'.cell? ⟨ad5.block, ad5.off + 2, none⟩ = some (.int .i64 y.f2) ∧ w'.cell? ⟨ad5.block, ad5.off + 3, none⟩ = some (.slice A7 y.f3.length c7)) (ds := [10]) #[false, false, false, false, false, false, false, false, false, false, false] (by kernel_rfl) rfl rfl (HS.out _ HBW.out) (fun hHeld => ?_); refine with_tabW mk28.tab mk28.bits (fun HT_ HW_ => ?_)
            generalize w2.drew = w5 at HBW HE hHeld ⊢
            refine pure_ (i := 0) (N := some 81) (v := ?_) (a' := ?_) #[true, false, false, false, false, false, false, false, false, false, false] rfl rfl (any_of HT_.out (by kernel_rfl)) (fun _ _ _ h => h) (Or.inl ⟨by rfl, ?_⟩) ?_ ?_
            rotate_left
            · intro w'
              go_simp
              try with_reducible rfl
            rotate_left
            · simp only [Act.put, List.setIfInBounds_toArray, List.set_cons_zero, List.set_cons_succ, i64_w, i32_w]
              rfl
            refine take_ (i := 1) (N := some 82) (v := ?_) (a' := ?_) #[true, true, false, false, false, false, false, false, false, false, false] rfl rfl (take_ofW HT_.out HW_.out (by kernel_rfl)) (fun _ _ _ h => h) (Or.inl ⟨by rfl, ?_⟩) hHeld ?_ ?_
            rotate_left
            · rintro w' ⟨s0, s1, s2, s3, s4⟩
              go_simp
              try with_reducible rfl
            rotate_left
            · simp only [Act.put, List.setIfInBounds_toArray, List.set_cons_zero, List.set_cons_succ, i64_w, i32_w]
              rfl
            refine pure_ (i := 2) (N := some 83) (v := ?_) (a' := ?_) #[true, true, true, false, false, false, false, false, false, false, false] rfl rfl (any_of HT_.out (by kernel_rfl)) (fun _ _ _ h => h) (Or.inl ⟨by rfl, ?_⟩) ?_ ?_
            rotate_left
            · intro w'
              go_simp
              try with_reducible rfl
            rotate_left
            · simp only [Act.put, List.setIfInBounds_toArray, List.set_cons_zero, List.set_cons_succ, i64_w, i32_w]
              rfl
            refine pure_ (i := 3) (N := some 84) (v := ?_) (a' := ?_) #[true, true, true, true, false, false, false, false, false, false, false] rfl rfl (any_of HT_.out (by kernel_rfl)) (fun _ _ _ h => h) (Or.inl ⟨by rfl, ?_⟩) ?_ ?_
            rotate_left
            · intro w'
              go_simp
              try with_reducible rfl
            rotate_left
            · simp only [Act.put, List.setIfInBounds_toArray, List.set_cons_zero, List.set_cons_succ, i64_w, i32_w]
              rfl
            refine pure_ (i := 4) (N := some 85) (v := ?_) (a' := ?_) #[true, true, true, true, true, false, false, false, false, false, false] rfl rfl (any_of HT_.out (by kernel_rfl)) (fun _ _ _ h => h) (Or.inl ⟨by rfl, ?_⟩) ?_ ?_
            rotate_left
            · intro w'
              go_simp
              try with_reducible rfl
            rotate_left
            · simp only [Act.put, List.setIfInBounds_toArray, List.set_cons_zero, List.set_cons_succ, i64_w, i32_w]
              rfl
            refine pure_ (i := 5) (N := some 86) (v := ?_) (a' := ?_) #[true, true, true, true, true, true, false, false, false, false, false] rfl rfl (any_of HT_.out (by kernel_rfl)) (fun _ _ _ h => h) (Or.inl ⟨by rfl, ?_⟩) ?_ ?_
            rotate_left
            · intro w'
              go_simp
              try with_reducible rfl
            rotate_left
            · simp only [Act.put, List.setIfInBounds_toArray, List.set_cons_zero, List.set_cons_succ, i64_w, i32_w]
              rfl
            refine pure_ (i := 6) (N := some 87) (v := ?_) (a' := ?_) #[true, true, true, true, true, true, true, false, false, false, false] rfl rfl (any_of HT_.out (by kernel_rfl)) (fun _ _ _ h => h) (Or.inl ⟨by rfl, ?_⟩) ?_ ?_
            rotate_left
            · intro w'
              go_simp
              try with_reducible rfl
            rotate_left
            · simp only [Act.put, List.setIfInBounds_toArray, List.set_cons_zero, List.set_cons_succ, i64_w, i32_w]
              rfl
            refine take_ (i := 7) (N := some 88) (v := ?_) (a' := ?_) #[true, true, true, true, true, true, true, true, false, false, false] rfl rfl (take_ofW HT_.out HW_.out (by kernel_rfl)) (fun _ _ _ h => h) (Or.inl ⟨by rfl, ?_⟩) hHeld ?_ ?_
            rotate_left
            · rintro w' ⟨s0, s1, s2, s3, s4⟩
              go_simp
              try with_reducible rfl
            rotate_left
            · simp only [Act.put, List.setIfInBounds_toArray, List.set_cons_zero, List.set_cons_succ, i64_w, i32_w]
              rfl
            refine one_ (i := 8) (N := some 89) #[true, true, true, true, true, true, true, true, true, false, false] rfl rfl (one_of HT_.out (by kernel_rfl)) (by decide) (fun K hK => ?_)
            refine event_step (v := .slice (some ⟨w5.heap.size, 0, none⟩) 1 1) (w1 := w5.alloc (.cells #[.int .i64 y.f0, .string y.f1, .int .i64 y.f2, .slice A7 y.f3.length c7] 27 (0, 0))) rfl (by first | (go_simp; done) | (go_simp; rfl)) ?_
            refine hK.out _ _ (HS.out _ (below_alloc HBW.out _)) (fun hHeld => ?_)
            clear hK K
            refine norm_ (a' := ?_) ?_ ?_
            rotate_left
            · show Act.put _ (some 89) _ = _
              simp only [Act.put, List.setIfInBounds_toArray, List.set_cons_zero, List.set_cons_succ, i64_w, i32_w]
              rfl
            have HNB := Aside0.mk (blk_new w5 (.cells #[.int .i64 y.f0, .string y.f1, .int .i64 y.f2, .slice A7 y.f3.length c7] 27))
            have n0_ := Aside0.mk (below_alloc HBW.out (.cells #[.int .i64 y.f0, .string y.f1, .int .i64 y.f2, .slice A7 y.f3.length c7] 27))
            have n1_ := Aside0.mk (blk_alloc HE.out (.cells #[.int .i64 y.f0, .string y.f1, .int .i64 y.f2, .slice A7 y.f3.length c7] 27))
            have HGB := Aside0.mk (Nat.lt_of_lt_of_le HGL.out HBW.out.size)
            clear HBW HE
            have HBW := n0_
            have HE := n1_
            clear n0_ n1_
            generalize w5.alloc (.cells #[.int .i64 y.f0, .string y.f1, .int .i64 y.f2, .slice A7 y.f3.length c7] 27 (0, 0)) = w6 at HNB HBW HE hHeld ⊢
            generalize w5.heap.size = gl at HNB HGB ⊢
            refine pure_ (i := 9) (N := some 90) (v := ?_) (a' := ?_) #[true, true, true, true, true, true, true, true, true, true, false] rfl rfl (any_of HT_.out (by kernel_rfl)) (fun _ _ _ h => h) (Or.inl ⟨by rfl, ?_⟩) ?_ ?_
            rotate_left
            · intro w'
              go_simp
              try with_reducible rfl
            rotate_left
            · simp only [Act.put, List.setIfInBounds_toArray, List.set_cons_zero, List.set_cons_succ, i64_w, i32_w]
              rfl
            refine last_ (i := 10) (N := none) #[true, true, true, true, true, true, true, true, true, true, true] rfl rfl (one_of HT_.out (by kernel_rfl)) (by decide) (fun K hK => ?_)
            have hf0 := blk_frozen HE.out 0
            have hf1 := blk_frozen HE.out 1
            have hf2 := blk_frozen HE.out 2
            have hf3 := blk_frozen HE.out 3
            have hc0 := (blk_cell HE.out 0).trans rfl
            have hc1 := (blk_cell HE.out 1).trans rfl
            have hc2 := (blk_cell HE.out 2).trans rfl
            have hc3 := (blk_cell HE.out 3).trans rfl
            refine skip_ (w1 := ?_) (by rfl) rfl ?_ ?_
            rotate_left
            · go_simp
              rfl
            have HS4 := Aside0.mk (set4 HE.out (.int .i64 5) (.string ⟨#[]⟩) (.int .i64 0) (.slice (some ⟨gl, 0, none⟩) 1 1))
            clear hf0 hf1 hf2 hf3 hc0 hc1 hc2 hc3 hHeld
            generalize (((w6.setCell ⟨ge, 0, none⟩ (.int .i64 5)).setCell ⟨ge, 1, none⟩ (.string ⟨#[]⟩)).setCell ⟨ge, 2, none⟩ (.int .i64 0)).setCell ⟨ge, 3, none⟩ (.slice (some ⟨gl, 0, none⟩) 1 1) = w7 at HS4 ⊢
            refine hK.out _ _ ?_
            clear hK K
            refine done_ (done_of HT_.out (by kernel_rfl)) ?_
            have HX7 := Aside0.mk ((HS4.out.2.block _ (blk_lt (blk_below HX.out HBW.out)) (fun h => by have := HGX.out; omega)).trans (blk_below HX.out HBW.out))
            have HB7 := Aside0.mk ((below_step HB.out HBW.out).trans (HS4.out.2.below (fun k hk => hk ▸ HGE.out) (below_step HB.out HBW.out).size))
            have HE7 := Aside0.mk HS4.out.1
            have HF7 := Aside0.mk HS4.out.2
            clear HS4 HB HBW HE HX HD2
            have HNE := Aside0.mk (fun (u : World) (hb : Below wr.heap.size wr u) (hg : ge < u.heap.size) => Nest_X (S1 w ge) n (fun w' h' => HDA.out w' (((Fr.of_below hb).trans h').old HGE.out)) (fun k hk => by have h1 := blk_lt HMS.out.lg; exact hk.elim (fun h => by rw [h]; exact hg) (fun h => by rw [h]; have := hb.size; omega)) HNN.out.1 HNN.out.2.1 HNN.out.2.2)
            have HBY := Aside0.mk (fun (u : World) => frisketref24_By.calls n (clp n) u (by unfold frisketref24_By.f; rw [mn_clp]))
            have y0 := (blk_cell HX7.out 0).trans rfl
            go_wp2
            clear y0
            have n0_ := Aside0.mk (below_drew1 HB7.out)
            have n1_ := Aside0.mk (blk_drew HE7.out)
            have n2_ := Aside0.mk (show Fr (fun k => k = ge) w6 w7.drew from HF7.out.trans (Fr.of_below (below_drew1 (Below.refl w7.heap.size w7))))
            have HX8 := Aside0.mk (blk_drew HX7.out)
            clear HB7 HE7 HF7
            have HB7 := n0_
            have HE7 := n1_
            have HF7 := n2_
            clear n0_ n1_ n2_
            refine start_ (n := 10) (S := fun w' => w'.cell? ⟨wr.heap.size, 1, none⟩ = some (.int .i64 n) ∧ w'.cell? (ad4.add r) = some va) (ds := [8]) #[false, false, false, false, false, false, false, false, false, false] (by kernel_rfl) rfl rfl (HS2.out _ HB7.out HX8.out) (fun hHeld => ?_); refine with_tabW mk30.tab mk30.bits (fun HT_ HW_ => ?_)
            generalize w7.drew = w8 at HB7 HE7 HF7 HX8 hHeld ⊢
            refine pure_ (i := 0) (N := some 94) (v := ?_) (a' := ?_) #[true, false, false, false, false, false, false, false, false, false] rfl rfl (any_of HT_.out (by kernel_rfl)) (fun _ _ _ h => h) (Or.inl ⟨by rfl, ?_⟩) ?_ ?_
            rotate_left
            · intro w'
              go_simp
              try with_reducible rfl
            rotate_left
            · simp only [Act.put, List.setIfInBounds_toArray, List.set_cons_zero, List.set_cons_succ, i64_w, i32_w]
              rfl
            refine take_ (i := 1) (N := some 95) (v := ?_) (a' := ?_) #[true, true, false, false, false, false, false, false, false, false] rfl rfl (take_ofW HT_.out HW_.out (by kernel_rfl)) (fun _ _ _ h => h) (Or.inl ⟨by rfl, ?_⟩) hHeld ?_ ?_
            rotate_left
            · rintro w' ⟨s0, s1⟩
              go_simp
              try with_reducible rfl
            rotate_left
            · simp only [Act.put, List.setIfInBounds_toArray, List.set_cons_zero, List.set_cons_succ, i64_w, i32_w]
              rfl
            refine pure_ (i := 2) (N := some 96) (v := ?_) (a' := ?_) #[true, true, true, false, false, false, false, false, false, false] rfl rfl (any_of HT_.out (by kernel_rfl)) (fun _ _ _ h => h) (Or.inl ⟨by rfl, ?_⟩) ?_ ?_
            rotate_left
            · intro w'
              go_simp
              try with_reducible rfl
            rotate_left
            · simp only [Act.put, List.setIfInBounds_toArray, List.set_cons_zero, List.set_cons_succ, i64_w, i32_w]
              rfl
            refine pure_ (i := 3) (N := some 97) (v := ?_) (a' := ?_) #[true, true, true, true, false, false, false, false, false, false] rfl rfl (any_of HT_.out (by kernel_rfl)) (fun _ _ _ h => h) (Or.inl ⟨by rfl, ?_⟩) ?_ ?_
            rotate_left
            · intro w'
              go_simp
              try with_reducible rfl
            rotate_left
            · simp only [Act.put, List.setIfInBounds_toArray, List.set_cons_zero, List.set_cons_succ, i64_w, i32_w]
              rfl
            refine pure_ (i := 4) (N := some 98) (v := ?_) (a' := ?_) #[true, true, true, true, true, false, false, false, false, false] rfl rfl (any_of HT_.out (by kernel_rfl)) (fun _ _ _ h => h) (Or.inl ⟨by rfl, ?_⟩) ?_ ?_
            rotate_left
            · intro w'
              go_simp
              try with_reducible rfl
            rotate_left
            · simp only [Act.put, List.setIfInBounds_toArray, List.set_cons_zero, List.set_cons_succ, i64_w, i32_w]
              rfl
            refine pure_ (i := 5) (N := some 99) (v := ?_) (a' := ?_) #[true, true, true, true, true, true, false, false, false, false] rfl rfl (any_of HT_.out (by kernel_rfl)) (fun _ _ _ h => h) (Or.inl ⟨by rfl, ?_⟩) ?_ ?_
            rotate_left
            · intro w'
              go_simp
              try with_reducible rfl
            rotate_left
            · simp only [Act.put, List.setIfInBounds_toArray, List.set_cons_zero, List.set_cons_succ, i64_w, i32_w]
              rfl
            refine pure_ (i := 6) (N := some 100) (v := ?_) (a' := ?_) #[true, true, true, true, true, true, true, false, false, false] rfl rfl (any_of HT_.out (by kernel_rfl)) (fun _ _ _ h => h) (Or.inl ⟨by rfl, ?_⟩) ?_ ?_
            rotate_left
            · intro w'
              go_simp
              try with_reducible rfl
            rotate_left
            · simp only [Act.put, List.setIfInBounds_toArray, List.set_cons_zero, List.set_cons_succ, i64_w, i32_w]
              rfl
            refine take_ (i := 7) (N := some 101) (v := ?_) (a' := ?_) #[true, true, true, true, true, true, true, true, false, false] rfl rfl (take_ofW HT_.out HW_.out (by kernel_rfl)) (fun _ _ _ h => h) (Or.inl ⟨by rfl, ?_⟩) hHeld ?_ ?_
            rotate_left
            · rintro w' ⟨s0, s1⟩
              go_simp
              try with_reducible rfl
            rotate_left
            · simp only [Act.put, List.setIfInBounds_toArray, List.set_cons_zero, List.set_cons_succ, i64_w, i32_w]
              rfl
            refine last_ (i := 8) (N := some 102) #[true, true, true, true, true, true, true, true, true, false] rfl rfl (one_of HT_.out (by kernel_rfl)) (by decide) (fun K hK => ?_)
            refine goes_ Tryd.func15 (by kernel_rfl) rfl #[.int .i64 n, va] (by rfl) rfl rfl (by (try simp only [List.map_toArray, List.map_cons, List.map_nil]); first | done | rfl) ?_
            refine (HNE.out _ HB7.out (blk_lt HE7.out)).mono ?_
            rintro e w9 ⟨v9, rfl, hd, hb⟩
            refine ⟨_, rfl, ?_⟩
            have HD9 := Aside0.mk hd
            have HB9 := Aside0.mk (below_step HB7.out hb)
            have HE9 := Aside0.mk (blk_below HE7.out hb)
            have HF9 := Aside0.mk (HF7.out.trans (Fr.of_below hb))
            have hbq := Aside0.mk hb
            clear hd hb
            refine hK.out _ _ ?_
            clear hK K
            refine norm_ (a' := ?_) ?_ ?_
            rotate_left
            · show Act.put _ (some 102) _ = _
              simp only [Act.put, List.setIfInBounds_toArray, List.set_cons_zero, List.set_cons_succ, i64_w, i32_w]
              rfl
            refine pure_ (i := 9) (N := some 9) (v := ?_) (a' := ?_) #[true, true, true, true, true, true, true, true, true, true] rfl rfl (any_of HT_.out (by kernel_rfl)) (fun _ _ _ h => h) (Or.inl ⟨by rfl, ?_⟩) ?_ ?_
            rotate_left
            · intro w'
              go_simp
              try with_reducible rfl
            rotate_left
            · simp only [Act.put, List.setIfInBounds_toArray, List.set_cons_zero, List.set_cons_succ, i64_w, i32_w]
              rfl
            refine done_ (done_of HT_.out (by kernel_rfl)) ?_
            have HXa := Aside0.mk (blk_below HX8.out hbq.out)
            have y1 := (blk_cell HXa.out 1).trans rfl
            go_wp2_with (go_at_call 33; refine (HBY.out _).mono ?_; clear HBY; rintro e wa ⟨rfl, hb⟩; have HBa := Aside0.mk (below_step HB9.out hb); have HEa := Aside0.mk (blk_below HE9.out hb); have HFa := Aside0.mk (HF9.out.trans (Fr.of_below hb)); have HDa := Aside0.mk (HD9.out.fr (Fr.of_below hb)); clear HB9 HE9 HF9 HD9 hb; have hf2 := blk_frozen HEa.out 2; have hc2 := (blk_cell HEa.out 2).trans rfl)
            go_meet
            case rel =>
              have hse := blk_put HEa.out 2 (.int .i64 (clp n)) rfl
              have hfr := (Fr.refl (fun k => k = ge) wa).set ⟨ge, 2, none⟩ (.int .i64 (clp n)) rfl
              have hbx := HBa.out.trans (hfr.below (fun k hk => hk ▸ HGE.out) HBa.out.size)
              have hgb := HGB.out
              have hbl := blk_lt HMS.out.lg
              have hbq := HGE.out
              have hkx := fun (w' : World) (h' : Fr (S0 w) _ w') => k27_mk w' ⟨5, ⟨#[]⟩, (clp n), [y]⟩ (A3 := some ⟨gl, 0, none⟩) (c3 := 1) (Nat.le_refl _) (boxlit ((((HFa.out.trans hfr).mono (T := S1 w ge) (fun k hk => Or.inl hk)).trans (h'.mono (fun k hk => Or.inr hk))).block _ (blk_lt HNB.out) (fun h => h.elim (fun h => by omega) (fun h => by have h3 : gl = w.heap.size := h; omega)) |>.trans HNB.out) (HCY.out w' ((Fr.of_below hbx).trans h')))
              exact ⟨r, 1, ⟨5, ⟨#[]⟩, (clp n), [y]⟩, _, _, _, _, rfl, ⟨⟨HQ.out, hbx, by rw [dB_box _ _ _ _ (Or.inr (Or.inl rfl))]; exact (HDa.out.fr (hfr.mono (fun k hk => Or.inl hk))).sub, HGE.out, hse, hkx, HOK.out⟩⟩⟩
          have e5 : (k == 5) = false := beq_eq_false_iff_ne.2 h5
          clear h5
          by_cases h6 : k = 6
          · subst h6
            obtain ⟨r, hr⟩ : ∃ r, q = r + 1 := ⟨q - 1, by have := HCON.out; have : ¬ q = 0 := fun h => this ⟨Or.inr rfl, h⟩; omega⟩
            have HQ := Aside0.mk hr
            have hq60 : q ≤ 60 := by have h1 := HMS.out.lq; have h2 := HMS.out.ok.n; have h3 := C9.out; omega
            have hq0 : ((q : Int) == 0) = false := by rw [beq_eq_false_iff_ne]; omega
            have hqw : IntKind.i64.wrap ((q : Int) - 1) = (r : Int) := by rw [IntKind.wrap_i64]; omega
            have hqs : ((q : Int) - 1) = (r : Int) := by omega
            have hrq : r < q := by omega
            have hwr : wrap64 (r : Int) = (r : Int) := w64 _ (by omega) (by omega)
            have hrd : decide (r < q) = true := decide_eq_true hrq
            have hrb : r < bs.length := by rw [HMS.out.lq]; exact hrq
            obtain ⟨ad4, va, e4_, hca, hda⟩ := at_DX HMS.out.C4 r (by simpa using hrb)
            subst e4_
            obtain ⟨ad5', A7, c7, e5_, hb0, hb1, hb2, hb3, hC7⟩ := at_BX HMS.out.C5 r hrb
            subst e5_
            have hdy : (bs.map dB)[r]'(by simpa using hrb) = dB bs[r] := by simp
            rw [hdy] at hda
            have hdrop : bs.drop r = [bs[r]] := by rw [List.drop_eq_getElem_cons hrb, List.drop_eq_nil_of_le (by rw [HMS.out.lq]; omega)]
            have hi60 := C9.out.2
            have HOK := Aside0.mk (HMS.out.ok.box (by omega) r (by omega) 6 0 (Or.inr (Or.inr rfl)) (by omega) (by omega))
            rw [hdrop] at HOK
            have hnn := HMS.out.ok.bd.nn (dB bs[r]) (List.mem_map_of_mem (List.getElem_mem hrb))
            have hbw := HMS.out.ok.bd.drop r
            rw [← List.map_drop, hdrop, List.map_singleton, wds_1, szs_1] at hbw
            generalize bs[r] = y at hb0 hb1 hb2 hb3 hC7 hda HOK hnn hbw
            obtain ⟨ad5, had5⟩ : ∃ a5, a5 = ad5'.add (r * 4) := ⟨_, rfl⟩
            have hix : ad5'.add (r * 4) = ad5 := had5.symm
            rw [hix] at hb0 hb1 hb2 hb3
            have HS := Aside0.mk (fun (u : World) (hb : Below w2.heap.size w2 u) => show u.cell? ⟨wr.heap.size, 0, none⟩ = some (.int .i64 6) ∧ u.cell? ad5 = some (.int .i64 y.f0) ∧ u.cell? ⟨ad5.block, ad5.off + 1, none⟩ = some (.string y.f1) ∧ u.cell? ⟨ad5.block, ad5.off + 2, none⟩ = some (.int .i64 y.f2) ∧ u.cell? ⟨ad5.block, ad5.off + 3, none⟩ = some (.slice A7 y.f3.length c7) from ⟨(blk_cell (blk_below HX.out hb) 0).trans rfl, pw_cell_below (below_step HB.out hb) hb0, pw_cell_below (below_step HB.out hb) hb1, pw_cell_below (below_step HB.out hb) hb2, pw_cell_below (below_step HB.out hb) hb3⟩)
            have HS2 := Aside0.mk (fun (u : World) (hb : Below wr.heap.size wr u) (hx : u.heap[wr.heap.size]? = some (.cells #[.int .i64 6, .int .i64 n, .string s] 59 (0, 0))) => show u.cell? ⟨wr.heap.size, 1, none⟩ = some (.int .i64 n) ∧ u.cell? (ad4.add r) = some va from ⟨(blk_cell hx 1).trans rfl, pw_cell_below hb hca⟩)
            have HCY := Aside0.mk hC7
            have HDA := Aside0.mk hda
            have HNN := Aside0.mk (And.intro hnn (And.intro (show wd (dB y) ≤ 1000000000000 by omega) (show sz (dB y) ≤ 1000000000000 by omega)))
            have HAD := Aside0.mk hix
            clear hdy hb0 hb1 hb2 hb3 hca hda hC7 hdrop hi60 hnn hbw hrb had5 hr
            have y0 := (blk_cell HX.out 0).trans rfl
            have hnl : (q : Int) - 1 < (q : Int) := by omega
            go_wp2
            clear y0
            have n0_ := Aside0.mk (below_drew1 (Below.refl w2.heap.size w2))
            have n1_ := Aside0.mk (blk_drew HE.out)
            clear HE
            have HBW := n0_
            have HE := n1_
            clear n0_ n1_
            refine start_ (n := 11) (S := fun w' => w'.cell? ⟨wr.heap.size, 0, none⟩ = some (.int .i64 6) ∧ w'.cell? ad5 = some (.int .i64 y.f0) ∧ w'.cell? ⟨ad5.block, ad5.off + 1, none⟩ = some (.string y.f1) ∧ w'.cell? ⟨ad5.block, ad5.off + 2, none⟩ = some (.int .i64 y.f2) ∧ w'.cell? ⟨ad5.block, ad5.off + 3, none⟩ = some (.slice A7 y.f3.length c7)) (ds := [10]) #[false, false, false, false, false, false, false, false, false, false, false] (by kernel_rfl) rfl rfl (HS.out _ HBW.out) (fun hHeld => ?_); refine with_tabW mk28.tab mk28.bits (fun HT_ HW_ => ?_)
            generalize w2.drew = w5 at HBW HE hHeld ⊢
            refine pure_ (i := 0) (N := some 81) (v := ?_) (a' := ?_) #[true, false, false, false, false, false, false, false, false, false, false] rfl rfl (any_of HT_.out (by kernel_rfl)) (fun _ _ _ h => h) (Or.inl ⟨by rfl, ?_⟩) ?_ ?_
            rotate_left
            · intro w'
              go_simp
              try with_reducible rfl
            rotate_left
            · simp only [Act.put, List.setIfInBounds_toArray, List.set_cons_zero, List.set_cons_succ, i64_w, i32_w]
              rfl
            refine take_ (i := 1) (N := some 82) (v := ?_) (a' := ?_) #[true, true, false, false, false, false, false, false, false, false, false] rfl rfl (take_ofW HT_.out HW_.out (by kernel_rfl)) (fun _ _ _ h => h) (Or.inl ⟨by rfl, ?_⟩) hHeld ?_ ?_
            rotate_left
            · rintro w' ⟨s0, s1, s2, s3, s4⟩
              go_simp
              try with_reducible rfl
            rotate_left
            · simp only [Act.put, List.setIfInBounds_toArray, List.set_cons_zero, List.set_cons_succ, i64_w, i32_w]
              rfl
            refine pure_ (i := 2) (N := some 83) (v := ?_) (a' := ?_) #[true, true, true, false, false, false, false, false, false, false, false] rfl rfl (any_of HT_.out (by kernel_rfl)) (fun _ _ _ h => h) (Or.inl ⟨by rfl, ?_⟩) ?_ ?_
            rotate_left
            · intro w'
              go_simp
              try with_reducible rfl
            rotate_left
            · simp only [Act.put, List.setIfInBounds_toArray, List.set_cons_zero, List.set_cons_succ, i64_w, i32_w]
              rfl
            refine pure_ (i := 3) (N := some 84) (v := ?_) (a' := ?_) #[true, true, true, true, false, false, false, false, false, false, false] rfl rfl (any_of HT_.out (by kernel_rfl)) (fun _ _ _ h => h) (Or.inl ⟨by rfl, ?_⟩) ?_ ?_
            rotate_left
            · intro w'
              go_simp
              try with_reducible rfl
            rotate_left
            · simp only [Act.put, List.setIfInBounds_toArray, List.set_cons_zero, List.set_cons_succ, i64_w, i32_w]
              rfl
            refine pure_ (i := 4) (N := some 85) (v := ?_) (a' := ?_) #[true, true, true, true, true, false, false, false, false, false, false] rfl rfl (any_of HT_.out (by kernel_rfl)) (fun _ _ _ h => h) (Or.inl ⟨by rfl, ?_⟩) ?_ ?_
            rotate_left
            · intro w'
              go_simp
              try with_reducible rfl
            rotate_left
            · simp only [Act.put, List.setIfInBounds_toArray, List.set_cons_zero, List.set_cons_succ, i64_w, i32_w]
              rfl
            refine pure_ (i := 5) (N := some 86) (v := ?_) (a' := ?_) #[true, true, true, true, true, true, false, false, false, false, false] rfl rfl (any_of HT_.out (by kernel_rfl)) (fun _ _ _ h => h) (Or.inl ⟨by rfl, ?_⟩) ?_ ?_
            rotate_left
            · intro w'
              go_simp
              try with_reducible rfl
            rotate_left
            · simp only [Act.put, List.setIfInBounds_toArray, List.set_cons_zero, List.set_cons_succ, i64_w, i32_w]
              rfl
            refine pure_ (i := 6) (N := some 87) (v := ?_) (a' := ?_) #[true, true, true, true, true, true, true, false, false, false, false] rfl rfl (any_of HT_.out (by kernel_rfl)) (fun _ _ _ h => h) (Or.inl ⟨by rfl, ?_⟩) ?_ ?_
            rotate_left
            · intro w'
              go_simp
              try with_reducible rfl
            rotate_left
            · simp only [Act.put, List.setIfInBounds_toArray, List.set_cons_zero, List.set_cons_succ, i64_w, i32_w]
              rfl
            refine take_ (i := 7) (N := some 88) (v := ?_) (a' := ?_) #[true, true, true, true, true, true, true, true, false, false, false] rfl rfl (take_ofW HT_.out HW_.out (by kernel_rfl)) (fun _ _ _ h => h) (Or.inl ⟨by rfl, ?_⟩) hHeld ?_ ?_
            rotate_left
            · rintro w' ⟨s0, s1, s2, s3, s4⟩
              go_simp
              try with_reducible rfl
            rotate_left
            · simp only [Act.put, List.setIfInBounds_toArray, List.set_cons_zero, List.set_cons_succ, i64_w, i32_w]
              rfl
            refine one_ (i := 8) (N := some 89) #[true, true, true, true, true, true, true, true, true, false, false] rfl rfl (one_of HT_.out (by kernel_rfl)) (by decide) (fun K hK => ?_)
            refine event_step (v := .slice (some ⟨w5.heap.size, 0, none⟩) 1 1) (w1 := w5.alloc (.cells #[.int .i64 y.f0, .string y.f1, .int .i64 y.f2, .slice A7 y.f3.length c7] 27 (0, 0))) rfl (by first | (go_simp; done) | (go_simp; rfl)) ?_
            refine hK.out _ _ (HS.out _ (below_alloc HBW.out _)) (fun hHeld => ?_)
            clear hK K
            refine norm_ (a' := ?_) ?_ ?_
            rotate_left
            · show Act.put _ (some 89) _ = _
              simp only [Act.put, List.setIfInBounds_toArray, List.set_cons_zero, List.set_cons_succ, i64_w, i32_w]
              rfl
            have HNB := Aside0.mk (blk_new w5 (.cells #[.int .i64 y.f0, .string y.f1, .int .i64 y.f2, .slice A7 y.f3.length c7] 27))
            have n0_ := Aside0.mk (below_alloc HBW.out (.cells #[.int .i64 y.f0, .string y.f1, .int .i64 y.f2, .slice A7 y.f3.length c7] 27))
            have n1_ := Aside0.mk (blk_alloc HE.out (.cells #[.int .i64 y.f0, .string y.f1, .int .i64 y.f2, .slice A7 y.f3.length c7] 27))
            have HGB := Aside0.mk (Nat.lt_of_lt_of_le HGL.out HBW.out.size)
            clear HBW HE
            have HBW := n0_
            have HE := n1_
            clear n0_ n1_
            generalize w5.alloc (.cells #[.int .i64 y.f0, .string y.f1, .int .i64 y.f2, .slice A7 y.f3.length c7] 27 (0, 0)) = w6 at HNB HBW HE hHeld ⊢
            generalize w5.heap.size = gl at HNB HGB ⊢
            refine pure_ (i := 9) (N := some 90) (v := ?_) (a' := ?_) #[true, true, true, true, true, true, true, true, true, true, false] rfl rfl (any_of HT_.out (by kernel_rfl)) (fun _ _ _ h => h) (Or.inl ⟨by rfl, ?_⟩) ?_ ?_
            rotate_left
            · intro w'
              go_simp
              try with_reducible rfl
            rotate_left
            · simp only [Act.put, List.setIfInBounds_toArray, List.set_cons_zero, List.set_cons_succ, i64_w, i32_w]
              rfl
            refine last_ (i := 10) (N := none) #[true, true, true, true, true, true, true, true, true, true, true] rfl rfl (one_of HT_.out (by kernel_rfl)) (by decide) (fun K hK => ?_)
            have hf0 := blk_frozen HE.out 0
            have hf1 := blk_frozen HE.out 1
            have hf2 := blk_frozen HE.out 2
            have hf3 := blk_frozen HE.out 3
            have hc0 := (blk_cell HE.out 0).trans rfl
            have hc1 := (blk_cell HE.out 1).trans rfl
            have hc2 := (blk_cell HE.out 2).trans rfl
            have hc3 := (blk_cell HE.out 3).trans rfl
            refine skip_ (w1 := ?_) (by rfl) rfl ?_ ?_
            rotate_left
            · go_simp
              rfl
            have HS4 := Aside0.mk (set4 HE.out (.int .i64 6) (.string ⟨#[]⟩) (.int .i64 0) (.slice (some ⟨gl, 0, none⟩) 1 1))
            clear hf0 hf1 hf2 hf3 hc0 hc1 hc2 hc3 hHeld
            generalize (((w6.setCell ⟨ge, 0, none⟩ (.int .i64 6)).setCell ⟨ge, 1, none⟩ (.string ⟨#[]⟩)).setCell ⟨ge, 2, none⟩ (.int .i64 0)).setCell ⟨ge, 3, none⟩ (.slice (some ⟨gl, 0, none⟩) 1 1) = w7 at HS4 ⊢
            refine hK.out _ _ ?_
            clear hK K
            refine done_ (done_of HT_.out (by kernel_rfl)) ?_
            have HX7 := Aside0.mk ((HS4.out.2.block _ (blk_lt (blk_below HX.out HBW.out)) (fun h => by have := HGX.out; omega)).trans (blk_below HX.out HBW.out))
            have HB7 := Aside0.mk ((below_step HB.out HBW.out).trans (HS4.out.2.below (fun k hk => hk ▸ HGE.out) (below_step HB.out HBW.out).size))
            have HE7 := Aside0.mk HS4.out.1
            have HF7 := Aside0.mk HS4.out.2
            clear HS4 HB HBW HE HX HD2
            have HNE := Aside0.mk (fun (u : World) (hb : Below wr.heap.size wr u) (hg : ge < u.heap.size) => Group_X (S1 w ge) (fun w' h' => HDA.out w' (((Fr.of_below hb).trans h').old HGE.out)) (fun k hk => by have h1 := blk_lt HMS.out.lg; exact hk.elim (fun h => by rw [h]; exact hg) (fun h => by rw [h]; have := hb.size; omega)) HNN.out.1 HNN.out.2.1 HNN.out.2.2)
            have y0 := (blk_cell HX7.out 0).trans rfl
            obtain ⟨-, hva⟩ := HS2.out _ HB7.out HX7.out
            go_wp2_with (go_at_call 14; refine (HNE.out _ HB7.out (blk_lt HE7.out)).mono ?_; rintro e wa ⟨v9, rfl, hd, hb⟩; have HBa := Aside0.mk (below_step HB7.out hb); have HEa := Aside0.mk (blk_below HE7.out hb); have HFa := Aside0.mk (HF7.out.trans (Fr.of_below hb)); have HDa := Aside0.mk hd; clear hd hb)
            go_meet
            case rel =>
              have hse := HEa.out
              have hfr := Fr.refl (fun k => k = ge) wa
              have hbx := HBa.out.trans (hfr.below (fun k hk => hk ▸ HGE.out) HBa.out.size)
              have hgb := HGB.out
              have hbl := blk_lt HMS.out.lg
              have hbq := HGE.out
              have hkx := fun (w' : World) (h' : Fr (S0 w) _ w') => k27_mk w' ⟨6, ⟨#[]⟩, 0, [y]⟩ (A3 := some ⟨gl, 0, none⟩) (c3 := 1) (Nat.le_refl _) (boxlit ((((HFa.out.trans hfr).mono (T := S1 w ge) (fun k hk => Or.inl hk)).trans (h'.mono (fun k hk => Or.inr hk))).block _ (blk_lt HNB.out) (fun h => h.elim (fun h => by omega) (fun h => by have h3 : gl = w.heap.size := h; omega)) |>.trans HNB.out) (HCY.out w' ((Fr.of_below hbx).trans h')))
              exact ⟨r, 1, ⟨6, ⟨#[]⟩, 0, [y]⟩, _, _, _, _, rfl, ⟨⟨HQ.out, hbx, by rw [dB_box _ _ _ _ (Or.inr (Or.inr rfl))]; exact (HDa.out.fr (hfr.mono (fun k hk => Or.inl hk))).sub, HGE.out, hse, hkx, HOK.out⟩⟩⟩
          have e6 : (k == 6) = false := beq_eq_false_iff_ne.2 h6
          clear h6
          go_wp2
          go_meet
          case rel => exact ⟨q, 0, ⟨2, ⟨#[]⟩, 0, []⟩, _, _, _, _, rfl, ⟨⟨rfl, HB.out, HD2.out, HGE.out, HE.out, fun _ _ => kB_leaf _ _ _, by rw [List.take_of_length_le (by have := HMS.out.lq; omega)]; exact HMS.out.ok.tight⟩⟩⟩
        case rest =>
          obtain ⟨r, mm, b, x0, x1, x2, x3, rfl, HCU⟩ := hcut
          have hptr := HCU.out.d.dv.ptr
          obtain ⟨vp, rfl⟩ := hptr
          have HMC := Aside0.mk (HMS.out.below HCU.out.lb)
          have hq60 : q ≤ 60 := by have h1 := HMS.out.lq; have h2 := HMS.out.ok.n; have h3 := C9.out; omega
          have hsub : ((q : Int) - (mm : Int)) = (r : Int) := by have := HCU.out.lr; omega
          have hwr : wrap64 (r : Int) = (r : Int) := w64 _ (by have := HCU.out.lr; omega) (by have := HCU.out.lr; omega)
          have hwq : IntKind.i64.wrap ((q : Int) - (mm : Int)) = (r : Int) := by rw [hsub, IntKind.wrap_i64]; have := HCU.out.lr; omega
          have hmq : mm ≤ q := by have := HCU.out.lr; omega
          have hrc4 : r ≤ c4 := by have h1 := HCU.out.lr; have h2 := HMS.out.h4; omega
          have hrc5 : r ≤ c5 := by have h1 := HCU.out.lr; have h2 := HMS.out.h5; omega
          have hd4 : decide ((r : Int) ≤ (c4 : Int)) = true := decide_eq_true (by omega)
          have hd5 : decide ((r : Int) ≤ (c5 : Int)) = true := decide_eq_true (by omega)
          have hlm : ((bs.map dB).take r).length = r := by rw [List.length_take, List.length_map, HMS.out.lq]; have := HCU.out.lr; omega
          have hlb : (bs.take r).length = r := by rw [List.length_take, HMS.out.lq]; have := HCU.out.lr; omega
          have C4r := Aside0.mk (show (rob kD (S0 w) wc).C wc A4 r ((bs.map dB).take r) from by have h := Kd.C_take (k := rob kD (S0 w) wc) (w := wc) (A := A4) (xs := bs.map dB) (m := r) (by rw [List.length_map, HMS.out.lq]; exact HMC.out.C4) (by rw [List.length_map, HMS.out.lq]; have := HCU.out.lr; omega); rw [hlm] at h; exact h)
          have C5r := Aside0.mk (show (rob kB (S0 w) wc).C wc A5 r (bs.take r) from by have h := Kd.C_take (k := rob kB (S0 w) wc) (w := wc) (A := A5) (xs := bs) (m := r) (by rw [HMS.out.lq]; exact HMC.out.C5) (by rw [HMS.out.lq]; have := HCU.out.lr; omega); rw [hlb] at h; exact h)
          have HLM := Aside0.mk (And.intro hlm hlb)
          have HLN := Aside0.mk (And.intro (show ((bs.map dB).take r ++ [dB b]).length = r + 1 by rw [List.length_append, hlm]; rfl) (show (bs.take r ++ [b]).length = r + 1 by rw [List.length_append, hlb]; rfl))
          have HR60 := Aside0.mk (show r ≤ 60 from by have := HCU.out.lr; omega)
          clear hlm hlb
          go_wp2_with (first | ((with_reducible refine gate_dst (N := 114) rfl ?_); refine Kd.R_lit (rob kD (S0 w) wc) (w0 := wc) wc.heap.size 24 rfl rfl (xs := ([] : List D)) (inner := []) (ok := fun _ => True) (okp := fun _ => True) (by first | (go_simp; done) | (go_simp; rfl)) (Reps.none _ _) (fun _ h => h) trivial (Below.refl _ _) (Nat.le_refl _) (by simp) ?_; intro v9 w9 hR hB9 _ _; obtain ⟨A9, c10, rfl, -⟩ := Kd.R_reads hR; have HRq := Aside0.mk hR; have HBq := Aside0.mk hB9; clear hR hB9) | ((with_reducible refine gate_builtin (b := .append) (xs := #[.tmp 114, .tmp 120]) rfl ?_); at_builtin; refine Kd.R_append_rows (rob kD (S0 w) wc) (Rr := (rob kD (S0 w) wc).K wc) (w0 := wc) wc.heap.size rfl _ _ 40 24 (.pointer none) 8 rfl Tryd.underlying40 info24 rfl (Nat.lt_succ_self 0) (by omega) _ [] ((bs.map dB).take r) A4 r c4 (fun _ => True) (fun _ => False) rfl rfl HRq.out (ReadsRow.imp_ C4r.out HBq.out (fun _ _ h => h)) (fun x cs h => h) (fun _ h => h.elim) (fun _ _ => trivial) HBq.out HBq.out.size (by have := HR60.out; simp only [List.length_nil]; omega) ?_; intro v9 w9 hR hB9 _ _; rw [List.nil_append] at hR; obtain ⟨A9, c11, hv9, -⟩ := Kd.R_reads hR; rw [HLM.out.1] at hv9; subst hv9; clear HRq HBq; have HRq := Aside0.mk hR; have HBq := Aside0.mk hB9; clear hR hB9) | ((with_reducible refine gate_builtin (b := .append) (xs := #[.tmp 121, .tmp 123]) rfl ?_); at_builtin; refine Kd.R_append (rob kD (S0 w) wc) (w0 := wc) wc.heap.size rfl (.tmp 121) (.tmp 123) 40 24 (.pointer none) 8 rfl Tryd.underlying40 info24 rfl (Nat.lt_succ_self 0) (by omega) (.slice A9 r c11) ((bs.map dB).take r) (dB b) [.pointer vp] (fun _ => True) (fun _ => False) rfl rfl HCU.out.d (fun _ h => h.elim) (fun _ _ => trivial) HRq.out HBq.out HBq.out.size (by have := HR60.out; have := HLM.out.1; omega) ?_; intro v9 w9 hR hB9 _ _; obtain ⟨A9, c11, hv9, hl9, hC9⟩ := Kd.R_reads hR; rw [HLN.out.1] at hv9 hl9 hC9; subst hv9; clear HRq HBq; have HBF := Aside0.mk hB9; have HC9 := Aside0.mk (And.intro hl9 (rob_fwd hC9 hB9)); clear hR hB9 hl9 hC9))
          have HEw := Aside0.mk (blk_drew (blk_below HCU.out.e HBF.out))
          have HBF5 := Aside0.mk (below_drew1 HBF.out)
          have HW5 := Aside0.mk (below_drew1 (Below.refl w9.heap.size w9))
          refine start_ (n := 12) (S := fun w' => w'.cell? ⟨ge, 0, none⟩ = some x0 ∧ w'.cell? ⟨ge, 1, none⟩ = some x1 ∧ w'.cell? ⟨ge, 2, none⟩ = some x2 ∧ w'.cell? ⟨ge, 3, none⟩ = some x3) (ds := []) #[false, false, false, false, false, false, false, false, false, false, false, false] (by kernel_rfl) rfl rfl ⟨(blk_cell HEw.out 0).trans rfl, (blk_cell HEw.out 1).trans rfl, (blk_cell HEw.out 2).trans rfl, (blk_cell HEw.out 3).trans rfl⟩ (fun hHeld => ?_); refine with_tabW mk34.tab mk34.bits (fun HT_ HW_ => ?_)
          generalize w9.drew = w5 at HEw HBF5 HW5 hHeld ⊢
          refine pure_ (i := 1) (N := some 126) (v := ?_) (a' := ?_) #[false, true, false, false, false, false, false, false, false, false, false, false] rfl rfl (any_of HT_.out (by kernel_rfl)) (fun _ _ _ h => h) (Or.inl ⟨by rfl, ?_⟩) ?_ ?_
          rotate_left
          · intro w'
            go_simp
            try with_reducible rfl
          rotate_left
          · simp only [Act.put, List.setIfInBounds_toArray, List.set_cons_zero, List.set_cons_succ, i64_w, i32_w]
            rfl
          refine pure_ (i := 2) (N := some 127) (v := ?_) (a' := ?_) #[false, true, true, false, false, false, false, false, false, false, false, false] rfl rfl (any_of HT_.out (by kernel_rfl)) (fun _ _ _ h => h) (Or.inl ⟨by rfl, ?_⟩) ?_ ?_
          rotate_left
          · intro w'
            go_simp
            try with_reducible rfl
          rotate_left
          · simp only [Act.put, List.setIfInBounds_toArray, List.set_cons_zero, List.set_cons_succ, i64_w, i32_w]
            rfl
          refine pure_ (i := 3) (N := some 128) (v := ?_) (a' := ?_) #[false, true, true, true, false, false, false, false, false, false, false, false] rfl rfl (any_of HT_.out (by kernel_rfl)) (fun _ _ _ h => h) (Or.inl ⟨by rfl, ?_⟩) ?_ ?_
          rotate_left
          · intro w'
            go_simp
            try with_reducible rfl
          rotate_left
          · simp only [Act.put, List.setIfInBounds_toArray, List.set_cons_zero, List.set_cons_succ, i64_w, i32_w]
            rfl
          refine pure_ (i := 4) (N := some 129) (v := ?_) (a' := ?_) #[false, true, true, true, true, false, false, false, false, false, false, false] rfl rfl (any_of HT_.out (by kernel_rfl)) (fun _ _ _ h => h) (Or.inl ⟨by rfl, ?_⟩) ?_ ?_
          rotate_left
          · intro w'
            go_simp
            try with_reducible rfl
          rotate_left
          · simp only [Act.put, List.setIfInBounds_toArray, List.set_cons_zero, List.set_cons_succ, i64_w, i32_w]
            rfl
          refine pure_ (i := 5) (N := some 130) (v := ?_) (a' := ?_) #[false, true, true, true, true, true, false, false, false, false, false, false] rfl rfl (any_of HT_.out (by kernel_rfl)) (fun _ _ _ h => h) (Or.inl ⟨by rfl, ?_⟩) ?_ ?_
          rotate_left
          · intro w'
            go_simp
            try with_reducible rfl
          rotate_left
          · simp only [Act.put, List.setIfInBounds_toArray, List.set_cons_zero, List.set_cons_succ, i64_w, i32_w]
            rfl
          refine pure_ (i := 6) (N := some 131) (v := ?_) (a' := ?_) #[false, true, true, true, true, true, true, false, false, false, false, false] rfl rfl (any_of HT_.out (by kernel_rfl)) (fun _ _ _ h => h) (Or.inl ⟨by rfl, ?_⟩) ?_ ?_
          rotate_left
          · intro w'
            go_simp
            try with_reducible rfl
          rotate_left
          · simp only [Act.put, List.setIfInBounds_toArray, List.set_cons_zero, List.set_cons_succ, i64_w, i32_w]
            rfl
          refine take_ (i := 8) (N := some 133) (v := ?_) (a' := ?_) #[false, true, true, true, true, true, true, false, true, false, false, false] rfl rfl (take_ofW HT_.out HW_.out (by kernel_rfl)) (fun _ _ _ h => h) (Or.inl ⟨by rfl, ?_⟩) hHeld ?_ ?_
          rotate_left
          · rintro w' ⟨s0, s1, s2, s3⟩
            go_simp
            try with_reducible rfl
          rotate_left
          · simp only [Act.put, List.setIfInBounds_toArray, List.set_cons_zero, List.set_cons_succ, i64_w, i32_w]
            rfl
          have HBw := Aside0.mk (Below.refl w5.heap.size w5)
          refine two_ (i := 0) (j := 9) (Ni := some 125) (Nj := some 134) #[true, true, true, true, true, true, true, false, true, false, false, false] #[false, true, true, true, true, true, true, false, true, true, false, false] rfl rfl rfl rfl (two_of HT_.out (by kernel_rfl)) (by decide) (by decide) (fun K hK => ?_) (fun K hK => ?_)
          · have HEBS := Aside0.mk HEw.out
            refine Kd.R_lit_step (rob kB (S0 w) wc) (w0 := w5) w5.heap.size 27 rfl rfl (xs := ([] : List Bo)) (inner := []) (ok := fun _ => True) (okp := fun _ => True) (by first | (go_simp; done) | (go_simp; rfl)) (Reps.none _ _) (fun _ h => h) trivial (Below.refl _ _) (Nat.le_refl _) (by simp) ?_
            intro vr z1 hR hb _ _
            obtain ⟨Ar, cr, rfl, -⟩ := Kd.R_reads hR
            have HRr := Aside0.mk hR
            have HBb := Aside0.mk hb
            have HBASE := Aside0.mk HBw.out
            have n0_ := Aside0.mk (blk_below HEw.out hb)
            have n1_ := Aside0.mk (below_step HBw.out hb)
            clear HEw HBw hR hb
            have HEw := n0_
            have HBw := n1_
            clear n0_ n1_
            have HEBASE := Aside0.mk (show w5.heap[ge]? = some (.cells #[x0, x1, x2, x3] 27 (0, 0)) from HEBS.out)
            refine hK.out _ _ ⟨(blk_cell HEw.out 0).trans rfl, (blk_cell HEw.out 1).trans rfl, (blk_cell HEw.out 2).trans rfl, (blk_cell HEw.out 3).trans rfl⟩ (fun hHeld => ?_)
            clear hK K
            refine norm_ (a' := ?_) ?_ ?_
            rotate_left
            · show Act.put _ (some 125) _ = _
              simp only [Act.put, List.setIfInBounds_toArray, List.set_cons_zero, List.set_cons_succ, i64_w, i32_w]
              rfl
            refine two_ (i := 7) (j := 9) (Ni := some 132) (Nj := some 134) #[true, true, true, true, true, true, true, true, true, false, false, false] #[true, true, true, true, true, true, true, false, true, true, false, false] rfl rfl rfl rfl (two_of HT_.out (by kernel_rfl)) (by decide) (by decide) (fun K hK => ?_) (fun K hK => ?_)
            · refine Kd.R_append_rows_step (rob kB (S0 w) wc) (Rr := (rob kB (S0 w) wc).K wc) (w0 := w5) w5.heap.size rfl (.tmp 125) (.tmp 131) 25 27 (.agg #[.int .i64 0, .string ⟨#[]⟩, .int .i64 0, .slice none 0 0]) 56 rfl Tryd.underlying25 info27 rfl (by show 0 < 4; omega) (by omega) _ [] (bs.take r) A5 r c5 (fun _ => True) (fun _ => False) rfl rfl HRr.out (ReadsRow.imp_ C5r.out (below_step HBF5.out HBw.out) (fun _ _ h => h)) (fun x cs h => h) (fun _ h => h.elim) (fun _ _ => trivial) HBb.out HBb.out.size (by have := HR60.out; simp only [List.length_nil]; omega) ?_
              intro vr z2 hR hb hg hat
              rw [List.nil_append] at hR
              obtain ⟨Ar, cr, hvr, -⟩ := Kd.R_reads hR
              rw [HLM.out.2] at hvr
              subst hvr
              have n1_ := Aside0.mk (below_step HBASE.out hb)
              have n0_ := Aside0.mk (blk_below HEBASE.out hb)
              clear HEw HBw HRr HBb
              have HRr := Aside0.mk hR
              have HBb := Aside0.mk hb
              clear hR hb hg hat
              have HEw := n0_
              have HBw := n1_
              clear n0_ n1_
              refine hK.out _ _ ⟨(blk_cell HEw.out 0).trans rfl, (blk_cell HEw.out 1).trans rfl, (blk_cell HEw.out 2).trans rfl, (blk_cell HEw.out 3).trans rfl⟩ (fun hHeld => ?_)
              clear hK K
              refine norm_ (a' := ?_) ?_ ?_
              rotate_left
              · show Act.put _ (some 132) _ = _
                simp only [Act.put, List.setIfInBounds_toArray, List.set_cons_zero, List.set_cons_succ, i64_w, i32_w]
                rfl
              refine one_ (i := 9) (N := some 134) #[true, true, true, true, true, true, true, true, true, true, false, false] rfl rfl (one_of HT_.out (by kernel_rfl)) (by decide) (fun K hK => ?_)
              refine event_step (v := .slice (some ⟨z2.heap.size, 0, none⟩) 1 1) (w1 := z2.alloc (.cells #[x0, x1, x2, x3] 27 (0, 0))) rfl (by first | (go_simp; done) | (go_simp; rfl)) ?_
              have HL9 := Aside0.mk (blk_new z2 (.cells #[x0, x1, x2, x3] 27))
              have n0_ := Aside0.mk (blk_alloc HEw.out (.cells #[x0, x1, x2, x3] 27))
              have n1_ := Aside0.mk (below_alloc HBw.out (.cells #[x0, x1, x2, x3] 27))
              have HNE9 := Aside0.mk (fun k (hk : (Value.slice Ar r cr).ownBlock = some k) => (show k ≠ z2.heap.size from by have := Kd.R_lt HRr.out k hk; omega))
              have n2_ := Aside0.mk (Kd.R_below HRr.out (below_alloc (Below.refl z2.heap.size z2) (.cells #[x0, x1, x2, x3] 27)))
              have n3_ := Aside0.mk (below_then HBb.out HBb.out.size (below_alloc (Below.refl z2.heap.size z2) (.cells #[x0, x1, x2, x3] 27)))
              generalize z2.alloc (.cells #[x0, x1, x2, x3] 27 (0, 0)) = z3 at HL9 n0_ n1_ n2_ n3_ ⊢
              generalize z2.heap.size = gl at HL9 HNE9 ⊢
              clear HEw HBw HRr HBb
              have HEw := n0_
              have HBw := n1_
              have HRr := n2_
              have HBb := n3_
              clear n2_ n3_
              clear n0_ n1_
              refine hK.out _ _ ⟨(blk_cell HEw.out 0).trans rfl, (blk_cell HEw.out 1).trans rfl, (blk_cell HEw.out 2).trans rfl, (blk_cell HEw.out 3).trans rfl⟩ (fun hHeld => ?_)
              clear hK K
              refine norm_ (a' := ?_) ?_ ?_
              rotate_left
              · show Act.put _ (some 134) _ = _
                simp only [Act.put, List.setIfInBounds_toArray, List.set_cons_zero, List.set_cons_succ, i64_w, i32_w]
                rfl
              refine one_ (i := 10) (N := some 135) #[true, true, true, true, true, true, true, true, true, true, true, false] rfl rfl (one_of HT_.out (by kernel_rfl)) (by decide) (fun K hK => ?_)
              refine Kd.R_append_rows_step (rob kB (S0 w) wc) (Rr := (rob kB (S0 w) wc).K wc) (w0 := w5) w5.heap.size rfl (.tmp 132) (.tmp 134) 25 27 (.agg #[.int .i64 0, .string ⟨#[]⟩, .int .i64 0, .slice none 0 0]) 56 rfl Tryd.underlying25 info27 rfl (by show 0 < 4; omega) (by omega) _ (bs.take r) [b] (some ⟨gl, 0, none⟩) 1 1 (fun _ => True) (fun _ => False) rfl rfl HRr.out (boxlitF HL9.out HCU.out.k) (fun x cs h => h) (fun _ h => h.elim) (fun _ _ => trivial) HBb.out HBb.out.size (by have := HR60.out; have := HLM.out.2; omega) ?_
              intro vr z4 hR hb hg hat
              obtain ⟨Ar, cr, hvr, hlr, hCr⟩ := Kd.R_reads hR
              rw [HLN.out.2] at hvr hlr hCr
              subst hvr
              have n1_ := Aside0.mk (below_step HBASE.out hb)
              have n0_ := Aside0.mk (blk_below HEBASE.out hb)
              have HCR := Aside0.mk (And.intro hlr (rob_fwd hCr (below_step HBF5.out n1_.out)))
              have HN5 := Aside0.mk (fun ad (h : Ar = some ad) => (show ad.block ≠ w.heap.size from by have h1 := Kd.R_base hR ad.block (by rw [h]; rfl); have h2 := blk_lt HMC.out.lg; have h3 := HBF5.out.size; have h4 := HBASE.out.size; omega))
              clear HEw HBw HRr HBb hR hb hg hat hlr hCr
              have HEw := n0_
              have HBw := n1_
              clear n0_ n1_
              refine hK.out _ _ ⟨(blk_cell HEw.out 0).trans rfl, (blk_cell HEw.out 1).trans rfl, (blk_cell HEw.out 2).trans rfl, (blk_cell HEw.out 3).trans rfl⟩ (fun hHeld => ?_)
              clear hK K
              refine norm_ (a' := ?_) ?_ ?_
              rotate_left
              · show Act.put _ (some 135) _ = _
                simp only [Act.put, List.setIfInBounds_toArray, List.set_cons_zero, List.set_cons_succ, i64_w, i32_w]
                rfl
              refine pure_ (i := 11) (N := some 5) (v := ?_) (a' := ?_) #[true, true, true, true, true, true, true, true, true, true, true, true] rfl rfl (any_of HT_.out (by kernel_rfl)) (fun _ _ _ h => h) (Or.inl ⟨by rfl, ?_⟩) ?_ ?_
              rotate_left
              · intro w'
                go_simp
                try with_reducible rfl
              rotate_left
              · simp only [Act.put, List.setIfInBounds_toArray, List.set_cons_zero, List.set_cons_succ, i64_w, i32_w]
                rfl
              refine done_ (done_of HT_.out (by kernel_rfl)) ?_
              clear hHeld
              have hic := C9.out.2
              go_wp2
              go_roundg (gk - 1)
              case measure => have := HI.out; omega
              case rel =>
                have hbz := below_step HBF.out (below_step HW5.out HBw.out)
                have hmap : (bs.map dB).take r ++ [dB b] = (bs.take r ++ [b]).map dB := by rw [List.map_append, List.map_singleton, List.map_take]
                have hC4 := rob_fwd (Kd.C_below HC9.out.2 (below_step HW5.out HBw.out)) (below_step HW5.out HBw.out)
                rw [hmap] at hC4
                exact ⟨i + 1, _, _, _, _, r + 1, bs.take r ++ [b], rfl, rfl, by go_num, ⟨by have := C9.out; omega, by have := C9.out; omega, by have := HI.out; have := C9.out; omega⟩, ⟨⟨HLN.out.2, HC9.out.1, HCR.out.1, hC4, HCR.out.2, HCU.out.ok, below_step HMC.out.lb hbz, blk_below HMC.out.lg hbz, HN5.out⟩⟩⟩
            · refine event_step (v := .slice (some ⟨z1.heap.size, 0, none⟩) 1 1) (w1 := z1.alloc (.cells #[x0, x1, x2, x3] 27 (0, 0))) rfl (by first | (go_simp; done) | (go_simp; rfl)) ?_
              have HL9 := Aside0.mk (blk_new z1 (.cells #[x0, x1, x2, x3] 27))
              have n0_ := Aside0.mk (blk_alloc HEw.out (.cells #[x0, x1, x2, x3] 27))
              have n1_ := Aside0.mk (below_alloc HBw.out (.cells #[x0, x1, x2, x3] 27))
              have HNE9 := Aside0.mk (fun k (hk : (Value.slice Ar 0 cr).ownBlock = some k) => (show k ≠ z1.heap.size from by have := Kd.R_lt HRr.out k hk; omega))
              have n2_ := Aside0.mk (Kd.R_below HRr.out (below_alloc (Below.refl z1.heap.size z1) (.cells #[x0, x1, x2, x3] 27)))
              have n3_ := Aside0.mk (below_then HBb.out HBb.out.size (below_alloc (Below.refl z1.heap.size z1) (.cells #[x0, x1, x2, x3] 27)))
              generalize z1.alloc (.cells #[x0, x1, x2, x3] 27 (0, 0)) = z2 at HL9 n0_ n1_ n2_ n3_ ⊢
              generalize z1.heap.size = gl at HL9 HNE9 ⊢
              clear HEw HBw HRr HBb
              have HEw := n0_
              have HBw := n1_
              have HRr := n2_
              have HBb := n3_
              clear n2_ n3_
              clear n0_ n1_
              refine hK.out _ _ ⟨(blk_cell HEw.out 0).trans rfl, (blk_cell HEw.out 1).trans rfl, (blk_cell HEw.out 2).trans rfl, (blk_cell HEw.out 3).trans rfl⟩ (fun hHeld => ?_)
              clear hK K
              refine norm_ (a' := ?_) ?_ ?_
              rotate_left
              · show Act.put _ (some 134) _ = _
                simp only [Act.put, List.setIfInBounds_toArray, List.set_cons_zero, List.set_cons_succ, i64_w, i32_w]
                rfl
              refine one_ (i := 7) (N := some 132) #[true, true, true, true, true, true, true, true, true, true, false, false] rfl rfl (one_of HT_.out (by kernel_rfl)) (by decide) (fun K hK => ?_)
              refine Kd.R_append_rows_step (rob kB (S0 w) wc) (Rr := (rob kB (S0 w) wc).K wc) (w0 := w5) w5.heap.size rfl (.tmp 125) (.tmp 131) 25 27 (.agg #[.int .i64 0, .string ⟨#[]⟩, .int .i64 0, .slice none 0 0]) 56 rfl Tryd.underlying25 info27 rfl (by show 0 < 4; omega) (by omega) _ [] (bs.take r) A5 r c5 (fun _ => True) (fun _ => False) rfl rfl HRr.out (ReadsRow.imp_ C5r.out (below_step HBF5.out HBw.out) (fun _ _ h => h)) (fun x cs h => h) (fun _ h => h.elim) (fun _ _ => trivial) HBb.out HBb.out.size (by have := HR60.out; simp only [List.length_nil]; omega) ?_
              intro vr z3 hR hb hg hat
              rw [List.nil_append] at hR
              obtain ⟨Ar, cr, hvr, -⟩ := Kd.R_reads hR
              rw [HLM.out.2] at hvr
              subst hvr
              have n1_ := Aside0.mk (below_step HBASE.out hb)
              have n0_ := Aside0.mk (blk_below HEBASE.out hb)
              have n2_ := Aside0.mk (blk_grown HL9.out hg (fun h => HNE9.out gl h.symm rfl))
              clear HL9 HNE9
              have HL9 := n2_
              clear n2_
              clear HEw HBw HRr HBb
              have HRr := Aside0.mk hR
              have HBb := Aside0.mk hb
              clear hR hb hg hat
              have HEw := n0_
              have HBw := n1_
              clear n0_ n1_
              refine hK.out _ _ ⟨(blk_cell HEw.out 0).trans rfl, (blk_cell HEw.out 1).trans rfl, (blk_cell HEw.out 2).trans rfl, (blk_cell HEw.out 3).trans rfl⟩ (fun hHeld => ?_)
              clear hK K
              refine norm_ (a' := ?_) ?_ ?_
              rotate_left
              · show Act.put _ (some 132) _ = _
                simp only [Act.put, List.setIfInBounds_toArray, List.set_cons_zero, List.set_cons_succ, i64_w, i32_w]
                rfl
              refine one_ (i := 10) (N := some 135) #[true, true, true, true, true, true, true, true, true, true, true, false] rfl rfl (one_of HT_.out (by kernel_rfl)) (by decide) (fun K hK => ?_)
              refine Kd.R_append_rows_step (rob kB (S0 w) wc) (Rr := (rob kB (S0 w) wc).K wc) (w0 := w5) w5.heap.size rfl (.tmp 132) (.tmp 134) 25 27 (.agg #[.int .i64 0, .string ⟨#[]⟩, .int .i64 0, .slice none 0 0]) 56 rfl Tryd.underlying25 info27 rfl (by show 0 < 4; omega) (by omega) _ (bs.take r) [b] (some ⟨gl, 0, none⟩) 1 1 (fun _ => True) (fun _ => False) rfl rfl HRr.out (boxlitF HL9.out HCU.out.k) (fun x cs h => h) (fun _ h => h.elim) (fun _ _ => trivial) HBb.out HBb.out.size (by have := HR60.out; have := HLM.out.2; omega) ?_
              intro vr z4 hR hb hg hat
              obtain ⟨Ar, cr, hvr, hlr, hCr⟩ := Kd.R_reads hR
              rw [HLN.out.2] at hvr hlr hCr
              subst hvr
              have n1_ := Aside0.mk (below_step HBASE.out hb)
              have n0_ := Aside0.mk (blk_below HEBASE.out hb)
              have HCR := Aside0.mk (And.intro hlr (rob_fwd hCr (below_step HBF5.out n1_.out)))
              have HN5 := Aside0.mk (fun ad (h : Ar = some ad) => (show ad.block ≠ w.heap.size from by have h1 := Kd.R_base hR ad.block (by rw [h]; rfl); have h2 := blk_lt HMC.out.lg; have h3 := HBF5.out.size; have h4 := HBASE.out.size; omega))
              clear HEw HBw HRr HBb hR hb hg hat hlr hCr
              have HEw := n0_
              have HBw := n1_
              clear n0_ n1_
              refine hK.out _ _ ⟨(blk_cell HEw.out 0).trans rfl, (blk_cell HEw.out 1).trans rfl, (blk_cell HEw.out 2).trans rfl, (blk_cell HEw.out 3).trans rfl⟩ (fun hHeld => ?_)
              clear hK K
              refine norm_ (a' := ?_) ?_ ?_
              rotate_left
              · show Act.put _ (some 135) _ = _
                simp only [Act.put, List.setIfInBounds_toArray, List.set_cons_zero, List.set_cons_succ, i64_w, i32_w]
                rfl
              refine pure_ (i := 11) (N := some 5) (v := ?_) (a' := ?_) #[true, true, true, true, true, true, true, true, true, true, true, true] rfl rfl (any_of HT_.out (by kernel_rfl)) (fun _ _ _ h => h) (Or.inl ⟨by rfl, ?_⟩) ?_ ?_
              rotate_left
              · intro w'
                go_simp
                try with_reducible rfl
              rotate_left
              · simp only [Act.put, List.setIfInBounds_toArray, List.set_cons_zero, List.set_cons_succ, i64_w, i32_w]
                rfl
              refine done_ (done_of HT_.out (by kernel_rfl)) ?_
              clear hHeld
              have hic := C9.out.2
              go_wp2
              go_roundg (gk - 1)
              case measure => have := HI.out; omega
              case rel =>
                have hbz := below_step HBF.out (below_step HW5.out HBw.out)
                have hmap : (bs.map dB).take r ++ [dB b] = (bs.take r ++ [b]).map dB := by rw [List.map_append, List.map_singleton, List.map_take]
                have hC4 := rob_fwd (Kd.C_below HC9.out.2 (below_step HW5.out HBw.out)) (below_step HW5.out HBw.out)
                rw [hmap] at hC4
                exact ⟨i + 1, _, _, _, _, r + 1, bs.take r ++ [b], rfl, rfl, by go_num, ⟨by have := C9.out; omega, by have := C9.out; omega, by have := HI.out; have := C9.out; omega⟩, ⟨⟨HLN.out.2, HC9.out.1, HCR.out.1, hC4, HCR.out.2, HCU.out.ok, below_step HMC.out.lb hbz, blk_below HMC.out.lg hbz, HN5.out⟩⟩⟩
          · refine event_step (v := .slice (some ⟨w5.heap.size, 0, none⟩) 1 1) (w1 := w5.alloc (.cells #[x0, x1, x2, x3] 27 (0, 0))) rfl (by first | (go_simp; done) | (go_simp; rfl)) ?_
            have HL9 := Aside0.mk (blk_new w5 (.cells #[x0, x1, x2, x3] 27))
            have n0_ := Aside0.mk (blk_alloc HEw.out (.cells #[x0, x1, x2, x3] 27))
            have n1_ := Aside0.mk (below_alloc HBw.out (.cells #[x0, x1, x2, x3] 27))
            generalize w5.alloc (.cells #[x0, x1, x2, x3] 27 (0, 0)) = z1 at HL9 n0_ n1_ ⊢
            obtain ⟨gl, hgl⟩ : ∃ gl, gl = w5.heap.size := ⟨_, rfl⟩
            rw [← hgl] at HL9 ⊢
            clear hgl
            clear HEw HBw
            have HEw := n0_
            have HBw := n1_
            clear n0_ n1_
            refine hK.out _ _ ⟨(blk_cell HEw.out 0).trans rfl, (blk_cell HEw.out 1).trans rfl, (blk_cell HEw.out 2).trans rfl, (blk_cell HEw.out 3).trans rfl⟩ (fun hHeld => ?_)
            clear hK K
            refine norm_ (a' := ?_) ?_ ?_
            rotate_left
            · show Act.put _ (some 134) _ = _
              simp only [Act.put, List.setIfInBounds_toArray, List.set_cons_zero, List.set_cons_succ, i64_w, i32_w]
              rfl
            have HEBS := Aside0.mk HEw.out
            refine one_ (i := 0) (N := some 125) #[true, true, true, true, true, true, true, false, true, true, false, false] rfl rfl (one_of HT_.out (by kernel_rfl)) (by decide) (fun K hK => ?_)
            refine Kd.R_lit_step (rob kB (S0 w) wc) (w0 := z1) z1.heap.size 27 rfl rfl (xs := ([] : List Bo)) (inner := []) (ok := fun _ => True) (okp := fun _ => True) (by first | (go_simp; done) | (go_simp; rfl)) (Reps.none _ _) (fun _ h => h) trivial (Below.refl _ _) (Nat.le_refl _) (by simp) ?_
            intro vr z2 hR hb _ _
            obtain ⟨Ar, cr, rfl, -⟩ := Kd.R_reads hR
            have HRr := Aside0.mk hR
            have HBb := Aside0.mk hb
            have HBASE := Aside0.mk HBw.out
            have n0_ := Aside0.mk (blk_below HEw.out hb)
            have n1_ := Aside0.mk (below_step HBw.out hb)
            have n2_ := Aside0.mk (blk_below HL9.out hb)
            have HNE9 := Aside0.mk (fun k (hk : (Value.slice Ar 0 cr).ownBlock = some k) => (show k ≠ gl from by have h1 := Kd.R_base hR k hk; have h2 := blk_lt HL9.out; omega))
            clear HL9
            have HL9 := n2_
            clear n2_
            clear HEw HBw hR hb
            have HEw := n0_
            have HBw := n1_
            clear n0_ n1_
            have HEBASE := Aside0.mk (show z1.heap[ge]? = some (.cells #[x0, x1, x2, x3] 27 (0, 0)) from HEBS.out)
            refine hK.out _ _ ⟨(blk_cell HEw.out 0).trans rfl, (blk_cell HEw.out 1).trans rfl, (blk_cell HEw.out 2).trans rfl, (blk_cell HEw.out 3).trans rfl⟩ (fun hHeld => ?_)
            clear hK K
            refine norm_ (a' := ?_) ?_ ?_
            rotate_left
            · show Act.put _ (some 125) _ = _
              simp only [Act.put, List.setIfInBounds_toArray, List.set_cons_zero, List.set_cons_succ, i64_w, i32_w]
              rfl
            refine one_ (i := 7) (N := some 132) #[true, true, true, true, true, true, true, true, true, true, false, false] rfl rfl (one_of HT_.out (by kernel_rfl)) (by decide) (fun K hK => ?_)
            refine Kd.R_append_rows_step (rob kB (S0 w) wc) (Rr := (rob kB (S0 w) wc).K wc) (w0 := z1) z1.heap.size rfl (.tmp 125) (.tmp 131) 25 27 (.agg #[.int .i64 0, .string ⟨#[]⟩, .int .i64 0, .slice none 0 0]) 56 rfl Tryd.underlying25 info27 rfl (by show 0 < 4; omega) (by omega) _ [] (bs.take r) A5 r c5 (fun _ => True) (fun _ => False) rfl rfl HRr.out (ReadsRow.imp_ C5r.out (below_step HBF5.out HBw.out) (fun _ _ h => h)) (fun x cs h => h) (fun _ h => h.elim) (fun _ _ => trivial) HBb.out HBb.out.size (by have := HR60.out; simp only [List.length_nil]; omega) ?_
            intro vr z3 hR hb hg hat
            rw [List.nil_append] at hR
            obtain ⟨Ar, cr, hvr, -⟩ := Kd.R_reads hR
            rw [HLM.out.2] at hvr
            subst hvr
            have n1_ := Aside0.mk (below_step HBASE.out hb)
            have n0_ := Aside0.mk (blk_below HEBASE.out hb)
            have n2_ := Aside0.mk (blk_grown HL9.out hg (fun h => HNE9.out gl h.symm rfl))
            clear HL9 HNE9
            have HL9 := n2_
            clear n2_
            clear HEw HBw HRr HBb
            have HRr := Aside0.mk hR
            have HBb := Aside0.mk hb
            clear hR hb hg hat
            have HEw := n0_
            have HBw := n1_
            clear n0_ n1_
            refine hK.out _ _ ⟨(blk_cell HEw.out 0).trans rfl, (blk_cell HEw.out 1).trans rfl, (blk_cell HEw.out 2).trans rfl, (blk_cell HEw.out 3).trans rfl⟩ (fun hHeld => ?_)
            clear hK K
            refine norm_ (a' := ?_) ?_ ?_
            rotate_left
            · show Act.put _ (some 132) _ = _
              simp only [Act.put, List.setIfInBounds_toArray, List.set_cons_zero, List.set_cons_succ, i64_w, i32_w]
              rfl
            refine one_ (i := 10) (N := some 135) #[true, true, true, true, true, true, true, true, true, true, true, false] rfl rfl (one_of HT_.out (by kernel_rfl)) (by decide) (fun K hK => ?_)
            refine Kd.R_append_rows_step (rob kB (S0 w) wc) (Rr := (rob kB (S0 w) wc).K wc) (w0 := z1) z1.heap.size rfl (.tmp 132) (.tmp 134) 25 27 (.agg #[.int .i64 0, .string ⟨#[]⟩, .int .i64 0, .slice none 0 0]) 56 rfl Tryd.underlying25 info27 rfl (by show 0 < 4; omega) (by omega) _ (bs.take r) [b] (some ⟨gl, 0, none⟩) 1 1 (fun _ => True) (fun _ => False) rfl rfl HRr.out (boxlitF HL9.out HCU.out.k) (fun x cs h => h) (fun _ h => h.elim) (fun _ _ => trivial) HBb.out HBb.out.size (by have := HR60.out; have := HLM.out.2; omega) ?_
            intro vr z4 hR hb hg hat
            obtain ⟨Ar, cr, hvr, hlr, hCr⟩ := Kd.R_reads hR
            rw [HLN.out.2] at hvr hlr hCr
            subst hvr
            have n1_ := Aside0.mk (below_step HBASE.out hb)
            have n0_ := Aside0.mk (blk_below HEBASE.out hb)
            have HCR := Aside0.mk (And.intro hlr (rob_fwd hCr (below_step HBF5.out n1_.out)))
            have HN5 := Aside0.mk (fun ad (h : Ar = some ad) => (show ad.block ≠ w.heap.size from by have h1 := Kd.R_base hR ad.block (by rw [h]; rfl); have h2 := blk_lt HMC.out.lg; have h3 := HBF5.out.size; have h4 := HBASE.out.size; omega))
            clear HEw HBw HRr HBb hR hb hg hat hlr hCr
            have HEw := n0_
            have HBw := n1_
            clear n0_ n1_
            refine hK.out _ _ ⟨(blk_cell HEw.out 0).trans rfl, (blk_cell HEw.out 1).trans rfl, (blk_cell HEw.out 2).trans rfl, (blk_cell HEw.out 3).trans rfl⟩ (fun hHeld => ?_)
            clear hK K
            refine norm_ (a' := ?_) ?_ ?_
            rotate_left
            · show Act.put _ (some 135) _ = _
              simp only [Act.put, List.setIfInBounds_toArray, List.set_cons_zero, List.set_cons_succ, i64_w, i32_w]
              rfl
            refine pure_ (i := 11) (N := some 5) (v := ?_) (a' := ?_) #[true, true, true, true, true, true, true, true, true, true, true, true] rfl rfl (any_of HT_.out (by kernel_rfl)) (fun _ _ _ h => h) (Or.inl ⟨by rfl, ?_⟩) ?_ ?_
            rotate_left
            · intro w'
              go_simp
              try with_reducible rfl
            rotate_left
            · simp only [Act.put, List.setIfInBounds_toArray, List.set_cons_zero, List.set_cons_succ, i64_w, i32_w]
              rfl
            refine done_ (done_of HT_.out (by kernel_rfl)) ?_
            clear hHeld
            have hic := C9.out.2
            go_wp2
            go_roundg (gk - 1)
            case measure => have := HI.out; omega
            case rel =>
              have hbz := below_step HBF.out (below_step HW5.out HBw.out)
              have hmap : (bs.map dB).take r ++ [dB b] = (bs.take r ++ [b]).map dB := by rw [List.map_append, List.map_singleton, List.map_take]
              have hC4 := rob_fwd (Kd.C_below HC9.out.2 (below_step HW5.out HBw.out)) (below_step HW5.out HBw.out)
              rw [hmap] at hC4
              exact ⟨i + 1, _, _, _, _, r + 1, bs.take r ++ [b], rfl, rfl, by go_num, ⟨by have := C9.out; omega, by have := C9.out; omega, by have := HI.out; have := C9.out; omega⟩, ⟨⟨HLN.out.2, HC9.out.1, HCR.out.1, hC4, HCR.out.2, HCU.out.ok, below_step HMC.out.lb hbz, blk_below HMC.out.lg hbz, HN5.out⟩⟩⟩
      · have d1 : decide (i < l.length) = true := decide_eq_true c9
        have d2 : decide ((i : Int) < 60) = false := decide_eq_false (by omega)
        clear c9 c8
        have lqm : (bs.map dB).length = q := by rw [List.length_map]; exact HMS.out.lq
        have hbd := HMS.out.ok.bd
        have hi60 : i ≤ 60 := HI.out.2.1
        have HT := Aside0.mk (Cat_X (S0 w) A4 c4 (bs.map dB) wr (by rw [lqm]; exact HMS.out.C4) (fun k hk => by have h1 := blk_lt HMS.out.lg; have h2 : k = w.heap.size := hk; omega) (by rw [lqm]; exact HMS.out.h4) (by rw [lqm]; have h1 := HMS.out.lq; have h2 := HMS.out.ok.n; omega) hbd.nn (by have := hbd.w; omega) (by have := hbd.s; omega))
        rw [lqm] at HT
        clear lqm hbd hi60
        go_wp2_with (go_at_call 11; refine HT.out.mono ?_; clear HT; rintro e w3 ⟨v3, rfl, hd, hb⟩; have HD3 := Aside0.mk hd; have HB3 := Aside0.mk (below_step HMS.out.lb hb); have HBQ := Aside0.mk hb; have HE3 := Aside0.mk (blk_below HMS.out.lg hb); have hf0 := blk_frozen HE3.out 0; have hf1 := blk_frozen HE3.out 1; have hf2 := blk_frozen HE3.out 2; have hf3 := blk_frozen HE3.out 3; have hc0 := (blk_cell HE3.out 0).trans rfl; have hc1 := (blk_cell HE3.out 1).trans rfl; have hc2 := (blk_cell HE3.out 2).trans rfl; have hc3 := (blk_cell HE3.out 3).trans rfl; clear hd hb)
        have hs4 := set4 HE3.out (.int .i64 4) (.string ⟨#[]⟩) (.int .i64 0) (.slice A5 q c5)
        refine bodyPost_ret (results_tc rfl _ _ w.heap.size 27 #[.int .i64 4, .string ⟨#[]⟩, .int .i64 0, .slice A5 q c5] (0, 0) _ rfl hs4.1 Tryd.underlying27 rfl (by kernel_rfl)) rfl ⟨v3, bs, A5, c5, ?_⟩
        have hq := HMS.out.lq
        rw [hq]
        exact ⟨rfl, HD3.out _ hs4.2, HMS.out.h5, robn HMS.out.C5 HMS.out.n5 ((Fr.of_below HBQ.out).trans hs4.2), HMS.out.ok.mono HI.out.2.1, HB3.out.trans (hs4.2.below (fun k hk => by have h2 : k = w.heap.size := hk; omega) HB3.out.size)⟩
    · have d1 : decide (i < l.length) = false := decide_eq_false c9
      clear c9
      have lqm : (bs.map dB).length = q := by rw [List.length_map]; exact HMS.out.lq
      have hbd := HMS.out.ok.bd
      have hi60 : i ≤ 60 := HI.out.2.1
      have HT := Aside0.mk (Cat_X (S0 w) A4 c4 (bs.map dB) wr (by rw [lqm]; exact HMS.out.C4) (fun k hk => by have h1 := blk_lt HMS.out.lg; have h2 : k = w.heap.size := hk; omega) (by rw [lqm]; exact HMS.out.h4) (by rw [lqm]; have h1 := HMS.out.lq; have h2 := HMS.out.ok.n; omega) hbd.nn (by have := hbd.w; omega) (by have := hbd.s; omega))
      rw [lqm] at HT
      clear lqm hbd hi60
      go_wp2_with (go_at_call 11; refine HT.out.mono ?_; clear HT; rintro e w3 ⟨v3, rfl, hd, hb⟩; have HD3 := Aside0.mk hd; have HB3 := Aside0.mk (below_step HMS.out.lb hb); have HBQ := Aside0.mk hb; have HE3 := Aside0.mk (blk_below HMS.out.lg hb); have hf0 := blk_frozen HE3.out 0; have hf1 := blk_frozen HE3.out 1; have hf2 := blk_frozen HE3.out 2; have hf3 := blk_frozen HE3.out 3; have hc0 := (blk_cell HE3.out 0).trans rfl; have hc1 := (blk_cell HE3.out 1).trans rfl; have hc2 := (blk_cell HE3.out 2).trans rfl; have hc3 := (blk_cell HE3.out 3).trans rfl; clear hd hb)
      have hs4 := set4 HE3.out (.int .i64 4) (.string ⟨#[]⟩) (.int .i64 0) (.slice A5 q c5)
      refine bodyPost_ret (results_tc rfl _ _ w.heap.size 27 #[.int .i64 4, .string ⟨#[]⟩, .int .i64 0, .slice A5 q c5] (0, 0) _ rfl hs4.1 Tryd.underlying27 rfl (by kernel_rfl)) rfl ⟨v3, bs, A5, c5, ?_⟩
      have hq := HMS.out.lq
      rw [hq]
      exact ⟨rfl, HD3.out _ hs4.2, HMS.out.h5, robn HMS.out.C5 HMS.out.n5 ((Fr.of_below HBQ.out).trans hs4.2), HMS.out.ok.mono HI.out.2.1, HB3.out.trans (hs4.2.below (fun k hk => by have h2 : k = w.heap.size := hk; omega) HB3.out.size)⟩
end Go.Proofs.YtjgaikmejccdkaaDoor.PDoc
