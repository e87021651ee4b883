/- BufForgets: steps beyond a thousand are forgotten, walked. -/
import Derived.Test.YtpghnadlekafpaaBufM
import Derived.Laws.IdiomStrings
namespace Go.Proofs.Ytpghnadlekafpaa.PBuf
open Go.RowKit Go.Proofs.YtpghnadlekafpaaW.PrintWords Go.Proofs.YtpghnadlekafpaaW.PrintLast Go.Proofs.YtpghnadlekafpaaW.PrintMore
set_option linter.unusedVariables false
set_option linter.unusedSimpArgs false
theorem info8 : (Try.prog.info? 5).map (fun i => (i.zero, i.size, i.bytes)) = some (some (.int .u8 0), 1, 1) := by kernel_rfl
abbrev zs (n : Nat) : ByteArray := ⟨(List.replicate n (0 : UInt8)).toArray⟩
theorem zs_size (n : Nat) : (zs n).size = n := by simp [zs, ByteArray.size]
theorem C_bytes {w : World} {ad : Addr} {n : Nat} (h : Kd.C (Kd.int .u8) w (some ad) n (List.replicate n (0 : Int))) : ∀ j (hj : j < (List.replicate n (0 : UInt8)).length), w.cell? (ad.add j) = some (.int .u8 (((List.replicate n (0 : UInt8))[j]).toNat : Int)) := by
  intro j hj
  have hj2 : j < n := by simpa using hj
  obtain ⟨ad', c, e, _, hK, hc⟩ := Kd.C_get h (0 : Int) (j : Int) (by omega) (by omega)
  cases e
  obtain rfl : c = [.int .u8 ((List.replicate n (0 : Int)).getD (j : Int).toNat 0)] := hK
  have := hc 0 _ rfl
  rw [show (Kd.int .u8).sz = 1 from rfl, Nat.mul_one, Nat.add_zero, Int.toNat_natCast] at this
  rw [this]
  simp [List.getD, hj2]
theorem conv_ {P : Program} {ops : Array Oper} {rest : List Oper} {o : Oper} {a : Act} {Q : Exit → Act → World → Prop} {W : World} (hg : o.guard = none) (x : Operand) (src dst e : TypeId) (hop : o.op = .convert src dst x) (hs : P.underlying src = some (.slice e)) (he : P.underlying e = some (.int .u8)) (hd : P.underlying dst = some .string) (ad : Addr) (n c : Nat) (hx : a.eval x = .slice (some ad) n c) (hC : Kd.C (Kd.int .u8) W (some ad) n (List.replicate n (0 : Int)))
    (hK : wpList P ops Q rest (a.put o.dst (.string (zs n))) W) : wpList P ops Q (o :: rest) a W := by
  refine wpList_plain hg fun K hK' => ?_
  have hr := run_convert_bytes_back (P := P) W src dst e ad c (List.replicate n (0 : UInt8)) hs he hd (C_bytes hC)
  rw [List.length_replicate] at hr
  unfold Oper.wp
  simp [execOp, hop, hx, hr, Result.andThen]
  exact hK' _ _ hK
theorem mk_zeros {P : Program} {ops : Array Oper} {rest : List Oper} {o : Oper} {a : Act} {Q : Exit → Act → World → Prop} {W : World} (n : Int) (hg : o.guard = none) {N : Tmp} (hd : o.dst = some N) (t e : TypeId) (x y : Operand) (ho : o.op = .makeSlice t x y) (hx : a.eval x = .int .i64 n) (hy : a.eval y = .int .i64 n) (ht : P.underlying t = some (.slice e)) (hi : (P.info? e).map (fun i => (i.zero, i.size, i.bytes)) = some (some (.int .u8 0), 1, 1)) (h0 : 0 < n) (h1 : n ≤ 2000000)
    (h : ∀ (k : Nat) (ad : Addr) (c : Nat) w1, (k : Int) = n → Kd.C (Kd.int .u8) w1 (some ad) k (List.replicate k (0 : Int)) → Below W.heap.size W w1 → wpList P ops Q rest (a.put o.dst (.slice (some ad) k c)) w1) : wpList P ops Q (o :: rest) a W := by
  refine Kd.R_make (Kd.int .u8) (w0 := W) W.heap.size e hg hd t x y ho n hx hy ht (.int .u8 0) 1 hi rfl (by decide) (by decide) (0 : Int) (ok := fun _ => True) (okp := fun _ => True) rfl (fun _ h => h) trivial (by omega) (by omega) (Below.refl _ _) (Nat.le_refl _) ?_
  intro v1 w1 hR hB _ ⟨b, hb, _⟩
  obtain ⟨A, c, rfl, _, hC⟩ := R_reads0 hR
  rw [List.length_replicate] at hC hb ⊢
  obtain ⟨k, hk⟩ : ∃ k, k = n.toNat := ⟨_, rfl⟩
  rw [← hk] at hC hb ⊢
  cases A with
  | none => simp [Value.ownBlock] at hb
  | some ad => exact h k ad c w1 (by omega) hC hB
theorem back_take {m : Nat} (k : Nat) : ∀ {r : List St} {T : List UInt8} {ts : List (List UInt8)}, back m T r ts → back m T (r.take k) (ts.take k) := by
  induction k with
  | zero => intro r T ts _; simp [back]
  | succ k ih =>
    intro r T ts h
    cases r with
    | nil => cases ts with | nil => simp [back] | cons _ _ => exact h.elim
    | cons x r =>
      cases ts with
      | nil => exact h.elim
      | cons t ts =>
        obtain ⟨h1, h2, h3, h4, h5, h6, h7, h8, h9, h10⟩ := h
        exact ⟨h1, h2, h3, h4, h5, h6, h7, h8, h9, ih h10⟩
theorem Bf_lower {w : World} {base b g : Nat} {Vp Vf Vl : Value} {n : Int} {P : List Pc} {past fut : List St} (h : Bf w base g Vp Vf Vl n P past fut) (hb : b ≤ base) : Bf w b g Vp Vf Vl n P past fut := ⟨h.c, Nat.le_trans hb h.g0, Kd.Q_lower h.p hb, Kd.Q_lower h.f hb, Kd.R_lower h.l hb, h.n, h.ne⟩
theorem sp_tx (P : List Pc) (x y : Int) (t : ByteArray) : tx (dosP P [⟨x, y, t⟩]) = (tx P).take x.toNat ++ t.data.toList ++ (tx P).drop y.toNat := tx_sp P _ _ t
structure Gs (L kp np nf : Nat) (P : List Pc) (past fut : List St) (ts : List (List UInt8)) : Prop where
  t : (tx P).length = L
  p : P.length ≤ kp
  a : past.length = np
  f : fut.length ≤ nf
  b : back 2100 (tx P) past.reverse ts
  d : ∀ j (h : j < ts.length), (ts[j]).length + j + 1 = L
theorem rt_ey (n : Int) (h : 0 ≤ n) : rt n 0 [(⟨0, 0, ⟨#[121]⟩⟩ : X)] = true := by
  simp only [rt]
  rw [if_neg (by omega), if_neg (by omega), if_neg (by omega)]
theorem Gs.push {L kp np nf : Nat} {P : List Pc} {past fut : List St} {ts : List (List UInt8)} (h : Gs L kp np nf P past fut ts) (hL : L ≤ 2000) (hn : np ≤ 1000) : ∃ ts', Gs (L + 1) (kp + 2) (min (np + 1) 1000) 0 (dosP P [(⟨0, 0, ⟨#[121]⟩⟩ : X)]) (trim (past ++ [⟨[(⟨0, 0, ⟨#[121]⟩⟩ : X)], tX (tb P) 0 0 [(⟨0, 0, ⟨#[121]⟩⟩ : X)]⟩])) [] ts' := by
  have hr := rt_ey ((tx P).length : Int) (by omega)
  have e1 : tx (dosP P [(⟨0, 0, ⟨#[121]⟩⟩ : X)]) = fo (tx P) [(⟨0, 0, ⟨#[121]⟩⟩ : X)] := tx_dos P [(⟨0, 0, ⟨#[121]⟩⟩ : X)]
  have e2 : tx (dosP P [(⟨0, 0, ⟨#[121]⟩⟩ : X)]) = (tx P).take 0 ++ [121] ++ (tx P).drop 0 := sp_tx P 0 0 ⟨#[121]⟩
  have hlen : (tx (dosP P [(⟨0, 0, ⟨#[121]⟩⟩ : X)])).length = L + 1 := by rw [e2]; simp [h.t]
  have hd := (dos_len P (tx P).length [(⟨0, 0, ⟨#[121]⟩⟩ : X)] 0 hr).1
  have hb := back_push P [(⟨0, 0, ⟨#[121]⟩⟩ : X)] past.reverse ts h.b hr (by have := h.t; omega) (by simp) (by decide)
  have hrev : (trim (past ++ [⟨[(⟨0, 0, ⟨#[121]⟩⟩ : X)], tX (tb P) 0 0 [(⟨0, 0, ⟨#[121]⟩⟩ : X)]⟩])).reverse = ((⟨[(⟨0, 0, ⟨#[121]⟩⟩ : X)], tX (tb P) 0 0 [(⟨0, 0, ⟨#[121]⟩⟩ : X)]⟩ : St) :: past.reverse).take 1000 := by
    unfold trim
    rw [List.reverse_drop, List.reverse_append]
    simp only [List.reverse_cons, List.reverse_nil, List.nil_append, List.singleton_append, List.length_append, List.length_singleton]
    rw [List.take_eq_take_iff]
    simp only [List.length_cons, List.length_reverse]
    omega
  refine ⟨(tx P :: ts).take 1000, ⟨hlen, by have := h.p; simp at hd; omega, ?_, by simp, by rw [hrev, e1]; exact back_take 1000 hb, ?_⟩⟩
  · unfold trim
    simp only [List.length_drop, List.length_append, List.length_singleton]
    have := h.a
    omega
  · intro j hj
    rw [List.getElem_take]
    cases j with
    | zero => simp [h.t]
    | succ j =>
      have hj2 : j < ts.length := by simp at hj; omega
      have := h.d j hj2
      simp only [List.getElem_cons_succ]
      omega
theorem Gs.pop {L kp np nf : Nat} {P : List Pc} {past fut : List St} {ts : List (List UInt8)} (h : Gs L kp (np + 1) nf P past fut ts) : ∃ ys x ts', past = ys ++ [x] ∧ rt ((tx P).length : Int) 0 x.f1 = true ∧ Ed.sz (tL x.f1) ≤ 2100 ∧ x.f1.length ≤ 2100 ∧ Gs (L - 1) (kp + 4200) np (nf + 1) (dosP P x.f1) ys (trim (fut ++ [x])) ts' := by
  have hb := h.b
  cases hr : past.reverse with
  | nil =>
    have := h.a
    have h2 : past.reverse.length = 0 := by rw [hr]; rfl
    rw [List.length_reverse] at h2
    omega
  | cons x r =>
    have hp : past = r.reverse ++ [x] := by rw [← List.reverse_reverse past, hr]; simp
    rw [hr] at hb
    cases ts with
    | nil => exact hb.elim
    | cons t ts =>
      obtain ⟨h1, h2, h3, h4, h5, h6, h7, h8, h9, h10⟩ := hb
      have e1 : tx (dosP P x.f1) = t := by rw [tx_dos]; exact h4
      have hd := (dos_len P _ x.f1 0 h1).1
      have ht := h.d 0 (by simp)
      simp only [List.getElem_cons_zero] at ht
      have hpl := h.a
      rw [hp, List.length_append, List.length_singleton, List.length_reverse] at hpl
      refine ⟨r.reverse, x, ts, hp, h1, h2, h3, ⟨by rw [e1]; omega, by have := h.p; omega, by rw [List.length_reverse]; omega, ?_, by rw [e1, List.reverse_reverse]; exact h10, ?_⟩⟩
      · unfold trim
        simp only [List.length_drop, List.length_append, List.length_singleton]
        have := h.f
        omega
      · intro j hj
        have := h.d (j + 1) (by simp; omega)
        simp only [List.getElem_cons_succ] at this
        omega
theorem Gs.first : Gs 1 1 0 0 [⟨⟨#[120]⟩⟩] [] [] [] := ⟨rfl, by simp, rfl, by simp, trivial, fun j h => by simp at h⟩
theorem rt_1 (n x y : Int) (t : ByteArray) (h0 : 0 ≤ x) (h1 : x ≤ y) (h2 : y ≤ n) : rt n 0 [⟨x, y, t⟩] = true := by
  simp only [rt]
  rw [if_neg (by omega), if_neg (by omega), if_neg (by omega)]
theorem Splice_long {w : World} {base g : Nat} {Vp Vf Vl : Value} {n : Int} {P : List Pc} {past fut : List St} (hB : Bf w base g Vp Vf Vl n P past fut) (x y : Int) (t : ByteArray) (hn : n ≤ 1048576) (hr : rt n 0 [⟨x, y, t⟩] = true) (hz : t.size ≤ 1000) (hg : n + gw [⟨x, y, t⟩] > 1048576) :
    Calls Try.prog 10 #[.pointer (some ⟨g, 0, none⟩), .int .i64 x, .int .i64 y, .string t] w fun e w' => ∃ z, e = .returned (.int .i64 z) ∧ z = 3 ∧ Below w.heap.size w w' := by
  refine Splice_via _ x y t w (fun w1 b hb1 hC => ?_)
  obtain ⟨q1, q2, q3, -⟩ := rt_cons hr
  dsimp only at q1 q2 q3
  have hg1 := gw1 x y t
  refine (Apply_long (hB.below hb1) (some ⟨b, 0, none⟩) 1 [⟨x, y, t⟩] hC (Nat.le_refl _) (by simp) hn hr (by simpa using hz) hg (by omega)).mono ?_
  rintro e w' ⟨rfl, hb⟩
  exact ⟨3, rfl, rfl, below_step hb1 hb⟩
set_option maxHeartbeats 4000000 in
set_option maxRecDepth 100000 in
theorem BufForgets (a b : Int) (w : World) (wa : (Lit.int .u8 a).wf = true) (wb : (Lit.int .u8 b).wf = true) : Calls Try.prog 3 #[.int .u8 a, .int .u8 b] w fun e w' => e = .returned (.bool true) ∧ Below w.heap.size w w' := by
  have ha : 0 ≤ a ∧ a ≤ 255 := by
    simp [Lit.wf, IntKind.min, IntKind.max, IntKind.signed, IntKind.bits] at wa
    omega
  have hb : 0 ≤ b ∧ b ≤ 255 := by
    simp [Lit.wf, IntKind.min, IntKind.max, IntKind.signed, IntKind.bits] at wb
    omega
  clear wa wb
  have HB := Aside0.mk (Below.refl w.heap.size w)
  have HA := Aside0.mk ha
  have HBB := Aside0.mk hb
  clear ha hb
  go_enter Try.func3, Try.ntmps3
  go_wp2_with (first | (go_at_call 8; refine (awake _).mono ?_; rintro e w3 ⟨rfl, hb⟩; have n0_ := Aside0.mk (below_step HB.out hb); clear HB hb; have HB := n0_; clear n0_) | (go_at_call 9; refine (New ⟨#[120]⟩ (by decide) _).mono ?_; rintro e w4 ⟨g, Vl0, rfl, hB, hb⟩; have HF0 := Aside0.mk (Bf_lower hB HB.out.size); have n0_ := Aside0.mk (below_step HB.out hb); clear HB hb hB; have HB := n0_; clear n0_))
  all_goals (
  generalize hn : wrap64 (1000 + wrap64 (a.tmod 4)) = n
  have ht : 0 ≤ a.tmod 4 ∧ a.tmod 4 ≤ 3 := by
    have := HA.out.1
    rw [Int.tmod_eq_emod_of_nonneg this]
    omega
  have HN := Aside0.mk (show 1000 ≤ n ∧ n ≤ 1003 by rw [← hn]; unfold wrap64; omega)
  clear hn ht HA
  go_loopg [8] (n.toNat + 1) (fun kq v8 w' => ∃ (x8 : Int) (Vp Vf Vl : Value) (nn : Int) (P : List Pc) (past fut : List St) (ts : List (List UInt8)), v8 = .int .i64 x8 ∧ Aside0 (0 ≤ x8 ∧ x8 ≤ n ∧ kq + x8.toNat = n.toNat + 1) ∧ Aside0 (Bf w' w.heap.size g Vp Vf Vl nn P past fut) ∧ Aside0 (Below w.heap.size w w') ∧ Aside0 (Gs (x8.toNat + 1) (1 + 2 * x8.toNat) (min x8.toNat 1000) 0 P past fut ts))
  case atStart => exact ⟨0, _, _, _, _, _, _, _, [], rfl, ⟨by omega, by have := HN.out; omega, by simp⟩, HF0, HB, ⟨Gs.first⟩⟩
  case round =>
    clear HF0 HB
    obtain ⟨x8, Vp, Vf, Vl, nn, P, past, fut, ts, rfl, HI, HF, HB, HG⟩ := hrel
    by_cases c1 : x8 < n
    · have d2 : decide (x8 < n) = true := decide_eq_true c1
      have ew : wrap64 (x8 + 1) = x8 + 1 := by have := HN.out; have := HI.out; unfold wrap64; omega
      have EW := Aside0.mk ew
      have C1 := Aside0.mk c1
      clear ew c1
      have hnn : nn = (x8.toNat + 1 : Nat) := by rw [HF.out.n, HG.out.t]
      have HNN := Aside0.mk hnn
      clear hnn
      have HSP := Aside0.mk (Splice_yes HF.out 0 0 ⟨#[121]⟩ (by have := HN.out; have := HI.out; have := HNN.out; omega) (rt_ey nn (by have := HNN.out; omega)) (by decide) (by have h := gw1 0 0 ⟨#[121]⟩; have e : (⟨#[121]⟩ : ByteArray).size = 1 := rfl; have := HN.out; have := HI.out; have := HNN.out; omega) HB.out.size (by have := HG.out.p; have := HN.out; have := HI.out; omega) (by have := HG.out.a; omega))
      obtain ⟨ts', hG2⟩ := HG.out.push (by have := HN.out; have := HI.out; omega) (by omega)
      have HG2 := Aside0.mk hG2
      clear hG2
      go_wp2_with (first | (go_at_call 10; refine (HSP.out).mono ?_; clear HSP; rintro e w6 ⟨z, rfl, rfl, Vp6, Vl6, n6, hB6, hF6, -⟩; have HF6 := Aside0.mk hB6; have HB6 := Aside0.mk (HB.out.trans (hF6.below (fun i hi => (HF.out.foot_lt i hi).2) HB.out.size)); clear hB6 hF6 HF HB))
      all_goals (
      go_roundg (gk - 1)
      case measure => have := HI.out; have := C1.out; omega
      case rel =>
        have hi := HI.out
        have hc := C1.out
        have e1 : (x8 + 1).toNat = x8.toNat + 1 := by omega
        refine ⟨_, _, _, _, _, _, _, _, ts', by rw [EW.out], ⟨by omega, by omega, by omega⟩, HF6, HB6, ?_⟩
        have hg := HG2.out
        rw [e1]
        have e2 : min (min x8.toNat 1000 + 1) 1000 = min (x8.toNat + 1) 1000 := by omega
        rw [e2] at hg
        exact ⟨⟨hg.t, by have := hg.p; omega, hg.a, hg.f, hg.b, hg.d⟩⟩
      )
    · have d2 : decide (x8 < n) = false := decide_eq_false c1
      have hx : x8 = n := by have := HI.out; omega
      clear c1
      subst hx
      have hpl : past.length = 1000 := by have := HG.out.a; have := HN.out; omega
      have HPA := Aside0.mk (show ((past.length : Nat) : Int) = 1000 by omega)
      clear hpl
      go_wp2_with (first | (go_at_call 11; refine (Past HF.out).mono ?_; rintro e w6 ⟨rfl, hb⟩; rw [HPA.out]; have HF6 := Aside0.mk (HF.out.below hb); have HB6 := Aside0.mk (below_step HB.out hb); clear hb HF HB))
      all_goals (
      have HG2 := HG.out
      have e2 : min x8.toNat 1000 = 1000 := by have := HN.out; omega
      rw [e2] at HG2
      clear e2
      go_loopg [9] (1000 + 1) (fun kq v9 w' => ∃ (x9 : Int) (Vp Vf Vl : Value) (nn : Int) (P : List Pc) (past fut : List St) (ts : List (List UInt8)), v9 = .int .i64 x9 ∧ Aside0 (0 ≤ x9 ∧ x9 ≤ 1000 ∧ kq + x9.toNat = 1000 + 1) ∧ Aside0 (Bf w' w.heap.size g Vp Vf Vl nn P past fut) ∧ Aside0 (Below w.heap.size w w') ∧ Aside0 (Gs (x8.toNat + 1 - x9.toNat) (1 + 2 * x8.toNat + 4200 * x9.toNat) (1000 - x9.toNat) x9.toNat P past fut ts))
      case atStart => exact ⟨0, _, _, _, _, _, _, _, _, rfl, ⟨by omega, by omega, by simp⟩, HF6, HB6, ⟨HG2⟩⟩
      case round =>
        clear HF6 HB6 HG HPA HI HG2
        obtain ⟨x9, Vp, Vf, Vl, nn, P, past, fut, ts, rfl, HI, HF, HB, HG⟩ := hrel
        by_cases c1 : x9 < 1000
        · have ew : wrap64 (x9 + 1) = x9 + 1 := by have := HI.out; unfold wrap64; omega
          have EW := Aside0.mk ew
          have C1 := Aside0.mk c1
          have hg := HG.out
          have e2 : 1000 - x9.toNat = (1000 - (x9.toNat + 1)) + 1 := by have := HI.out; omega
          rw [e2] at hg
          obtain ⟨ys, x, ts', rfl, q1, q2, q3, hG2⟩ := hg.pop
          have HG2 := Aside0.mk hG2
          have HUN := Aside0.mk (Undo_yes HF.out HB.out.size (by have := hg.a; simp at this; omega) (by have := hg.f; have := HI.out; omega) (by omega) (okAt_big P _ rfl (by have := hg.p; have := HN.out; have := HI.out; omega) (by have := hg.t; have := HN.out; omega) x.f1 0 (Int.le_refl 0) q1 (by omega) (by omega)))
          clear ew c1 hg e2 hG2 q1 q2 q3
          go_wp2_with (first | (go_at_call 12; refine (HUN.out).mono ?_; clear HUN; rintro e w6 ⟨Vr, Vp6, Vf6, Vl6, n6, rfl, hR, hB6, hF6, -⟩; obtain ⟨Ar, cr, rfl, -, -⟩ := R_reads0 hR; have HF6 := Aside0.mk hB6; have HB6 := Aside0.mk (HB.out.trans (hF6.below (fun i hi => (HF.out.foot_lt i hi).2) HB.out.size)); clear hR hB6 hF6 HF HB))
          all_goals (
          go_roundg (gk - 1)
          case measure => have := HI.out; have := C1.out; omega
          case rel =>
            have hi := HI.out
            have hc := C1.out
            have e1 : (x9 + 1).toNat = x9.toNat + 1 := by omega
            refine ⟨_, _, _, _, _, _, _, _, ts', by rw [EW.out], ⟨by omega, by omega, by omega⟩, HF6, HB6, ?_⟩
            have hg := HG2.out
            rw [e1]
            exact ⟨⟨by have := hg.t; omega, by have := hg.p; omega, hg.a, hg.f, hg.b, fun j hj => by have := hg.d j hj; omega⟩⟩
          )
        · have hx : x9 = 1000 := by have := HI.out; omega
          subst hx
          have hp0 : past = [] := by have := HG.out.a; exact List.eq_nil_of_length_eq_zero (by omega)
          subst hp0
          have hnn : nn = x8 - 999 := by have h1 := HF.out.n; have h2 := HG.out.t; have := HN.out; omega
          have HNN := Aside0.mk hnn
          have e5 : (nn == wrap64 (wrap64 (1 + x8) - 1000)) = true := by rw [beq_iff_eq, hnn]; have := HN.out; unfold wrap64; omega
          have E5 := Aside0.mk e5
          have eb : wrap64 b = b := by have := HBB.out; unfold wrap64; omega
          have eb1 : wrap64 (b + 1) = b + 1 := by have := HBB.out; unfold wrap64; omega
          clear c1 hnn e5
          have HF1 := Aside0.mk True.intro
          have HFL := Aside0.mk True.intro
          go_wp2_with (first | (go_at_call 12; refine (Undo_no HF.out).mono ?_; rintro e w6 ⟨rfl, hb⟩; have HF6 := Aside0.mk (HF.out.below hb); have n0_ := Aside0.mk (below_step HB.out hb); clear hb HF HB; have HB := n0_; clear n0_)  | ((with_reducible refine gate_dst (N := 47) rfl ?_); refine mk_zeros 1048577 rfl rfl _ _ _ _ rfl rfl rfl (by kernel_rfl) info8 (by decide) (by decide) ?_; intro k1 ad1 c1 w7 hk1 hC hb; have HK1 := Aside0.mk hk1; have HC1 := Aside0.mk hC; have n1_ := Aside0.mk (HF6.out.below hb); have n0_ := Aside0.mk (below_step HB.out hb); clear hb HF6 HB hk1 hC; have HB := n0_; have HF6 := n1_; clear n0_ n1_)  | ((with_reducible refine gate_dst (N := 48) rfl ?_); refine conv_ rfl _ _ _ 5 rfl (by kernel_rfl) (by kernel_rfl) (by kernel_rfl) _ _ _ rfl HC1.out ?_; clear HC1)  | (go_at_call 9; clear HFL; refine (New_long _ (by rw [zs_size]; have := HK1.out; omega) _).mono ?_; rintro e w8 ⟨rfl, hb⟩; have n1_ := Aside0.mk (HF6.out.below hb); have n0_ := Aside0.mk (below_step HB.out hb); clear hb HF6 HB; have HB := n0_; have HF6 := n1_; clear n0_ n1_)  | ((with_reducible refine gate_dst (N := 53) rfl ?_); refine mk_zeros 1048576 rfl rfl _ _ _ _ rfl rfl rfl (by kernel_rfl) info8 (by decide) (by decide) ?_; intro k2 ad2 c2 w9 hk2 hC hb; have HK2 := Aside0.mk hk2; have HC2 := Aside0.mk hC; have n1_ := Aside0.mk (HF6.out.below hb); have n0_ := Aside0.mk (below_step HB.out hb); clear hb HF6 HB hk2 hC; have HB := n0_; have HF6 := n1_; clear n0_ n1_)  | ((with_reducible refine gate_dst (N := 54) rfl ?_); refine conv_ rfl _ _ _ 5 rfl (by kernel_rfl) (by kernel_rfl) (by kernel_rfl) _ _ _ rfl HC2.out ?_; clear HC2)  | (go_at_call 9; clear HF1; refine (New _ (by rw [zs_size]; have := HK2.out; omega) _).mono ?_; rintro e wa ⟨g2, Vl2, rfl, hB2, hb⟩; have n1_ := Aside0.mk (HF6.out.below hb); have HF2 := Aside0.mk hB2; have n0_ := Aside0.mk (below_step HB.out hb); clear hb HF6 HB hB2; have HB := n0_; have HF6 := n1_; clear n0_ n1_)  | ((with_reducible refine gate_dst (N := 64) rfl ?_); refine mk_zeros (wrap64 (wrap64 b + 1)) rfl rfl _ _ _ _ rfl ?hx ?hy (by kernel_rfl) info8 (by rw [eb, eb1]; have := HBB.out; omega) (by rw [eb, eb1]; have := HBB.out; omega) ?_; (case hx => first | rfl | (go_simp; done) | (go_simp; rfl)); (case hy => first | rfl | (go_simp; done) | (go_simp; rfl)); intro k3 ad3 c3 wb hk3 hC hb; have HK3 := Aside0.mk (hk3.trans (by rw [eb, eb1] : wrap64 (wrap64 b + 1) = b + 1)); have HC3 := Aside0.mk hC; have n1_ := Aside0.mk (HF6.out.below hb); have n2_ := Aside0.mk (HF2.out.below hb); have n0_ := Aside0.mk (below_step HB.out hb); clear hb HF6 HB hk3 hC HF2; have HB := n0_; have HF6 := n1_; have HF2 := n2_; clear n0_ n1_ n2_)  | ((with_reducible refine gate_dst (N := 65) rfl ?_); refine conv_ rfl _ _ _ 5 rfl (by kernel_rfl) (by kernel_rfl) (by kernel_rfl) _ _ _ rfl HC3.out ?_; clear HC3)  | (go_at_call 10; refine (Splice_long HF2.out 0 b (zs k3) (by rw [zs_size]; have := HK2.out; omega) (rt_1 _ _ _ _ (by omega) (by have := HBB.out; omega) (by rw [zs_size]; have := HK2.out; have := HBB.out; omega)) (by rw [zs_size]; have := HK3.out; have := HBB.out; omega) (by rw [gw1, zs_size, zs_size]; have := HK3.out; have := HK2.out; omega)).mono ?_; rintro e wc ⟨z, rfl, rfl, hb⟩; have n1_ := Aside0.mk (HF6.out.below hb); have n2_ := Aside0.mk (HF2.out.below hb); have n0_ := Aside0.mk (below_step HB.out hb); clear hb HF6 HB HF2; have HB := n0_; have HF6 := n1_; have HF2 := n2_; clear n0_ n1_ n2_)  | (go_at_call 13; with_reducible refine (Len HF6.out).mono ?_; rintro e wd ⟨rfl, hb⟩; have n2_ := Aside0.mk (HF2.out.below hb); have n0_ := Aside0.mk (below_step HB.out hb); clear hb HF6 HB HF2; have HB := n0_; have HF2 := n2_; clear n0_ n2_; have e5 := E5.out)  | (go_at_call 13; with_reducible refine (Len HF2.out).mono ?_; rintro e we ⟨rfl, hb⟩; have n0_ := Aside0.mk (below_step HB.out hb); clear hb HB HF2; have HB := n0_; clear n0_; have e6 : (((zs k2).size : Int) == 1048576) = true := (by rw [beq_iff_eq, zs_size]; exact HK2.out); have e7 : ((k2 : Int) == 1048576) = true := (by rw [beq_iff_eq]; exact HK2.out)))
          all_goals (go_ret; exact ⟨rfl, HB.out⟩)
      )
  )
end Go.Proofs.Ytpghnadlekafpaa.PBuf
