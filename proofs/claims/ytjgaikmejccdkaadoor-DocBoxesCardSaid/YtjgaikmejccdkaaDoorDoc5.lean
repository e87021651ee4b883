/- Layer 24: nests and groups; a box's flat text. -/
import Derived.Test.YtjgaikmejccdkaaDoorDoc4
namespace Go.Proofs.YtjgaikmejccdkaaDoor.PDoc
open Go.RowKit Go.Proofs.YtjgaikmejccdkaaDoorW.PrintWords Go.Proofs.YtjgaikmejccdkaaDoorW.PrintLast Go.Proofs.YtjgaikmejccdkaaDoorW.PrintMore
set_option linter.unusedVariables false
set_option linter.unusedSimpArgs false
theorem DV.ptr {w : World} {v : Value} {d : D} (h : DV w v d) : ∃ p, v = .pointer p := by
  cases d with
  | none => exact ⟨none, h.nil⟩
  | some x =>
    obtain ⟨g, A, c, e, _⟩ := h.open
    exact ⟨_, e⟩
theorem lit1 {S : Nat → Prop} {w : World} {v : Value} {d : D} (h : DVX S w v d) : (rob kD S (w.alloc (.cells #[v] 24))).C (w.alloc (.cells #[v] 24)) (some ⟨w.heap.size, 0, none⟩) 1 [d] := by
  refine ⟨rfl, by omega, fun _ => ⟨_, rfl, fun j p hp => ?_⟩⟩
  have hj : j = 0 ∧ d = p := by
    cases j with
    | zero => simpa using hp
    | succ j => simp at hp
  obtain ⟨rfl, rfl⟩ := hj
  refine ⟨[v], rfl, fun w' h' => h w' ((Fr.of_below (below_alloc (Below.refl _ _) _)).trans h'), fun i u hu => ?_⟩
  cases i with
  | succ i => simp at hu
  | zero =>
    obtain rfl : v = u := by simpa using hu
    have hb := heap_alloc_new w (.cells #[v] 24)
    show (w.alloc (.cells #[v] 24)).cell? ((⟨w.heap.size, 0, none⟩ : Addr).add (0 * 1 + 0)) = _
    rw [add_plain]
    exact (blk_cell hb 0).trans rfl
theorem nn_b {k b : Int} {l : List D} (h : ∀ d ∈ l, Nn d) : Nn (bD k b l) := by
  have := pre_le l h l.length
  rw [List.take_of_length_le (Nat.le_refl _)] at this
  exact ⟨this.1, by show 0 ≤ 1 + szs l; omega⟩
theorem wds_1 (d : D) : wds [d] = wd d := by simp [wds]
theorem szs_1 (d : D) : szs [d] = sz d := by simp [szs]
theorem hds_1 (d : D) : hds [d] = hd d := by simp [hds]
set_option maxHeartbeats 1000000 in
set_option maxRecDepth 100000 in
theorem Cat_X (S : Nat → Prop) (A : Option Addr) (c : Nat) (l : List D) (w : World) (hC : (rob kD S w).C w A l.length l) (hS : ∀ k, S k → k < w.heap.size) (hc : l.length ≤ c) (hl : l.length ≤ 1000000) (hn : ∀ d ∈ l, Nn d) (hw : wds l ≤ 1000000000000) (hs : szs l ≤ 1000000000000) :
    Calls Tryd.prog 11 #[.slice A l.length c] w fun e w' => ∃ v, e = .returned v ∧ DVX S w' v (bD 4 0 l) ∧ Below w.heap.size w w' := by
  have HX := Aside0.mk (box_X S 4 0 A c l w hC hS hc hl hn hw hs)
  clear hS hC hc hl hn hw hs
  go_enter Tryd.func11, Tryd.ntmps11
  go_wp2_with (go_at_call 34; refine HX.out.mono ?_; rintro e w1 ⟨v1, rfl, hd, hb⟩)
  go_ret
  exact ⟨_, rfl, hd, hb⟩
set_option maxHeartbeats 1000000 in
set_option maxRecDepth 100000 in
theorem Group_X (S : Nat → Prop) {w : World} {v : Value} {d : D} (h : DVX S w v d) (hS : ∀ k, S k → k < w.heap.size) (hn : Nn d) (hw : wd d ≤ 1000000000000) (hs : sz d ≤ 1000000000000) :
    Calls Tryd.prog 14 #[v] w fun e w' => ∃ v, e = .returned v ∧ DVX S w' v (bD 6 0 [d]) ∧ Below w.heap.size w w' := by
  obtain ⟨vp, rfl⟩ := h.dv.ptr
  have HX := Aside0.mk (box_X S 6 0 (some ⟨w.heap.size, 0, none⟩) 1 [d] (w.alloc (.cells #[.pointer vp] 24)) (lit1 h) (fun k hk => by have := hS k hk; simp; omega) (Nat.le_refl _) (by simp) (by intro x hx; rw [List.mem_singleton.1 hx]; exact hn) (by rw [wds_1]; exact hw) (by rw [szs_1]; exact hs))
  clear h hn hw hs hS
  go_enter Tryd.func14, Tryd.ntmps14
  go_wp2_with (go_at_call 34; refine HX.out.mono ?_; rintro e w1 ⟨v1, rfl, hd, hb⟩)
  go_ret
  exact ⟨_, rfl, hd, below_then (below_alloc (Below.refl _ _) _) (below_alloc (Below.refl _ _) _).size hb⟩
/-- By how much a nest indents. -/
def clp (b : Int) : Int := min (max b 0) 100
set_option maxHeartbeats 1000000 in
set_option maxRecDepth 100000 in
theorem Nest_X (S : Nat → Prop) (b : Int) {w : World} {v : Value} {d : D} (h : DVX S w v d) (hS : ∀ k, S k → k < w.heap.size) (hn : Nn d) (hw : wd d ≤ 1000000000000) (hs : sz d ≤ 1000000000000) :
    Calls Tryd.prog 15 #[.int .i64 b, v] w fun e w' => ∃ v, e = .returned v ∧ DVX S w' v (bD 5 (clp b) [d]) ∧ Below w.heap.size w w' := by
  obtain ⟨vp, rfl⟩ := h.dv.ptr
  have HX := Aside0.mk (box_X S 5 (min (max b 0) 100) (some ⟨w.heap.size, 0, none⟩) 1 [d] (w.alloc (.cells #[.pointer vp] 24)) (lit1 h) (fun k hk => by have := hS k hk; simp; omega) (Nat.le_refl _) (by simp) (by intro x hx; rw [List.mem_singleton.1 hx]; exact hn) (by rw [wds_1]; exact hw) (by rw [szs_1]; exact hs))
  clear h hn hw hs hS
  go_enter Tryd.func15, Tryd.ntmps15
  go_wp2_with (go_at_call 34; refine HX.out.mono ?_; rintro e w1 ⟨v1, rfl, hd, hb⟩)
  go_ret
  exact ⟨_, rfl, hd, below_then (below_alloc (Below.refl _ _) _) (below_alloc (Below.refl _ _) _).size hb⟩
theorem Cat_ (A : Option Addr) (c : Nat) (l : List D) (w : World) (hC : kD.C w A l.length l) (hc : l.length ≤ c) (hl : l.length ≤ 1000000) (hn : ∀ d ∈ l, Nn d) (hw : wds l ≤ 1000000000000) (hs : szs l ≤ 1000000000000) :
    Calls Tryd.prog 11 #[.slice A l.length c] w fun e w' => ∃ v, e = .returned v ∧ DV w' v (bD 4 0 l) ∧ Below w.heap.size w w' :=
  (Cat_X (fun _ => False) A c l w (rob_of hC (Below.refl _ _) (fun _ h => h.elim)) (fun _ h => h.elim) hc hl hn hw hs).mono fun e w' ⟨v, h1, h2, h3⟩ => ⟨v, h1, h2.dv, h3⟩
theorem Group_ {w : World} {v : Value} {d : D} (h : DV w v d) (hn : Nn d) (hw : wd d ≤ 1000000000000) (hs : sz d ≤ 1000000000000) :
    Calls Tryd.prog 14 #[v] w fun e w' => ∃ v, e = .returned v ∧ DV w' v (bD 6 0 [d]) ∧ Below w.heap.size w w' :=
  (Group_X (fun _ => False) (h.x (Below.refl _ _) (fun _ h => h.elim)) (fun _ h => h.elim) hn hw hs).mono fun e w' ⟨v, h1, h2, h3⟩ => ⟨v, h1, h2.dv, h3⟩
theorem Nest_ (b : Int) {w : World} {v : Value} {d : D} (h : DV w v d) (hn : Nn d) (hw : wd d ≤ 1000000000000) (hs : sz d ≤ 1000000000000) :
    Calls Tryd.prog 15 #[.int .i64 b, v] w fun e w' => ∃ v, e = .returned v ∧ DV w' v (bD 5 (clp b) [d]) ∧ Below w.heap.size w w' :=
  (Nest_X (fun _ => False) b (h.x (Below.refl _ _) (fun _ h => h.elim)) (fun _ h => h.elim) hn hw hs).mono fun e w' ⟨v, h1, h2, h3⟩ => ⟨v, h1, h2.dv, h3⟩
mutual
/-- No row of parts is longer than a machine can count. -/
def Sm : Option SD → Prop
  | none => True
  | some x => SmS x
def SmS : SD → Prop
  | ⟨_, _, _, _, _, _, l⟩ => l.length < 9223372036854775807 ∧ SmL l
def SmL : List (Option SD) → Prop
  | [] => True
  | d :: r => Sm d ∧ SmL r
end
theorem SmL_mem {l : List D} (h : SmL l) : ∀ d ∈ l, Sm d := by
  induction l with
  | nil => intro d hd; cases hd
  | cons x r ih =>
    simp only [SmL] at h
    intro d hd
    rcases List.mem_cons.1 hd with rfl | hd
    · exact h.1
    · exact ih h.2 d hd
theorem SmL_of {l : List D} (h : ∀ d ∈ l, Sm d) : SmL l := by
  induction l with
  | nil => simp [SmL]
  | cons x r ih => simp only [SmL]; exact ⟨h x List.mem_cons_self, ih (fun d hd => h d (List.mem_cons_of_mem _ hd))⟩
theorem Sm_some {x : SD} (h : Sm (some x)) : x.l.length < 9223372036854775807 ∧ ∀ d ∈ x.l, Sm d := by
  obtain ⟨w, hh, s, k, t, b, l⟩ := x
  simp only [Sm, SmS] at h
  exact ⟨h.1, SmL_mem h.2⟩
theorem Sm_mk {x : SD} (h1 : x.l.length < 9223372036854775807) (h2 : ∀ d ∈ x.l, Sm d) : Sm (some x) := by
  obtain ⟨w, hh, s, k, t, b, l⟩ := x
  simp only [Sm, SmS]
  exact ⟨h1, SmL_of h2⟩
theorem fl_some (bl : List UInt8) (x : SD) : fl bl (some x) = x.t.data.toList ++ ((if x.k = 1 then bl else []) ++ flL bl x.l) := by
  obtain ⟨w, h, s, k, t, b, l⟩ := x
  simp [fl, flS]
theorem flL_take (bl : List UInt8) (l : List D) (i : Nat) (hi : i < l.length) : flL bl (l.take (i + 1)) = flL bl (l.take i) ++ fl bl l[i] := by
  rw [List.take_succ_eq_append_getElem hi, flL_append]
  simp [flL]
theorem flL_le (bl : List UInt8) (l : List D) (i : Nat) : (flL bl (l.take i)).length ≤ (flL bl l).length := by
  have := congrArg (fun z => (flL bl z).length) (List.take_append_drop i l)
  simp only [flL_append, List.length_append] at this
  omega
theorem size_part (x : SD) (i : Nat) (hi : i < x.l.length) : SizeOf.sizeOf x.l[i] < SizeOf.sizeOf (some x : D) := by
  have h1 := List.sizeOf_lt_of_mem (List.getElem_mem hi)
  obtain ⟨w, h, s, k, t, b, l⟩ := x
  simp only [Option.some.sizeOf_spec, SD.mk.sizeOf_spec] at h1 ⊢
  omega
set_option maxHeartbeats 4000000 in
set_option maxRecDepth 100000 in
theorem write_ (bl : ByteArray) : ∀ (n : Nat) (d : D), SizeOf.sizeOf d ≤ n → Sm d → ∀ (w0 w : World) (b : Nat) (x : List UInt8) (v : Value), DV w0 v d → Below w0.heap.size w0 w → Lib.IsBuilderF 69 5 w0.heap.size b (Lib.byteCells x) w → x.length + (fl bl.data.toList d).length ≤ 1000000000 →
    Calls Tryd.prog 35 #[.pointer (some ⟨b, 0, none⟩), v, .string bl] w fun e w' => e = .returned (.tuple #[]) ∧ Lib.IsBuilderF 69 5 w0.heap.size b (Lib.byteCells (x ++ fl bl.data.toList d)) w' ∧ Below w0.heap.size w0 w' := by
  intro n
  induction n with
  | zero =>
    intro d hd _
    cases d with
    | none => simp at hd
    | some x => simp at hd
  | succ n ih =>
    intro d hd hm w0 w b x v hv hB hI hz
    cases d with
    | none =>
      obtain rfl := hv.nil
      have HI := Aside0.mk hI
      have HB := Aside0.mk hB
      clear hI hB hz ih hm
      go_enter Tryd.func35, Tryd.ntmps35
      go_wp2
      exact bodyPost_ret (v := .tuple #[]) (by simp [results, Tryd.results35, go_sem]) rfl ⟨rfl, by simpa [fl] using HI.out, HB.out⟩
    | some y =>
      have IH := Aside0.mk (fun i (hi : i < y.l.length) => ih y.l[i] (by have := size_part y i hi; omega) ((Sm_some hm).2 _ (List.getElem_mem hi)))
      have HSM := Aside0.mk (Sm_some hm).1
      obtain ⟨g, A, c, rfl, hx⟩ := hv.open
      have HX := Aside0.mk hx
      have HXW := Aside0.mk (hx.below hB)
      obtain ⟨k0, k1, k2, k3, k4, k5, k6⟩ := (hx.below hB).cells
      have HB := Aside0.mk hB
      have HI := Aside0.mk hI
      rw [fl_some] at hz
      rw [fl_some]
      simp only [List.length_append] at hz
      have HZ := Aside0.mk hz
      clear ih hv hx hB hI hz hd hm k0 k1 k2 k5
      by_cases c1 : y.k = 1
      · rw [if_pos c1] at HZ ⊢
        have C1 := Aside0.mk c1
        have d1 : (y.k == 1) = true := by rw [c1]; rfl
        clear c1
        go_enter Tryd.func35, Tryd.ntmps35
        go_wp2_with (first | (go_at_call 47; with_reducible refine (Tryd.bws _ b x y.t w HI.out (by have := HZ.out; have e := data_length y.t; omega) HB.out.size).mono ?_; rintro e w1 ⟨rfl, hI, hb, -⟩; have HI1 := Aside0.mk hI; have n0_ := Aside0.mk (HB.out.trans hb); clear HB HI hI hb k3 k4 k6; have HB := n0_; clear n0_; obtain ⟨k0, k1, k2, k3, k4, k5, k6⟩ := (HX.out.below HB.out).cells; clear k0 k1 k2 k4 k5) | (go_at_call 47; with_reducible refine (Tryd.bws _ b _ bl _ HI1.out (by have := HZ.out; have e := data_length y.t; have e2 := data_length bl; rw [List.length_append]; omega) HB.out.size).mono ?_; rintro e w2 ⟨rfl, hI, hb, -⟩; have n1_ := Aside0.mk hI; have n0_ := Aside0.mk (HB.out.trans hb); clear HB HI1 hI hb k3 k6; have HB := n0_; have HI1 := n1_; clear n0_ n1_; obtain ⟨k0, k1, k2, k3, k4, k5, k6⟩ := (HX.out.below HB.out).cells; clear k0 k1 k2 k3 k4 k5))
        have HI := HI1
        clear HI1
        go_loopg [29] (y.l.length + 1) (fun kq v29 w' => ∃ (i : Nat), v29 = .int .i64 (i : Int) ∧ Aside0 (i ≤ y.l.length ∧ kq + i = y.l.length + 1) ∧ Aside0 (Lib.IsBuilderF 69 5 w0.heap.size b (Lib.byteCells (x ++ (y.t.data.toList ++ (bl.data.toList ++ flL bl.data.toList (y.l.take i))))) w') ∧ Aside0 (Below w0.heap.size w0 w'))
        case atStart => exact ⟨0, rfl, ⟨by omega, by simp⟩, ⟨by have := HI.out; simpa [flL, List.append_assoc] using this⟩, HB⟩
        case round =>
          clear HI HB
          obtain ⟨i, rfl, HII, HI, HB⟩ := hrel
          by_cases c9 : i < y.l.length
          · have d9 : decide (i < y.l.length) = true := decide_eq_true c9
            obtain ⟨ad, u, e1, hcell, hu⟩ := at_D HX.out.hC i c9
            subst e1
            have hcw := pw_cell_below (show Below w0.heap.size w0 wr from HB.out) hcell
            have hft := flL_take bl.data.toList y.l i c9
            have hfe := flL_le bl.data.toList y.l (i + 1)
            have HW := Aside0.mk (IH.out i c9 w0 wr b _ u hu HB.out HI.out (by have := HZ.out; rw [hft] at hfe; simp only [List.length_append, List.length_nil] at hfe this ⊢; omega))
            have HFT := Aside0.mk hft
            have hle : y.l.length < 9223372036854775807 := HSM.out
            go_wp2_with (go_at_call 35; refine HW.out.mono ?_; clear HW; rintro e w3 ⟨rfl, hI, hb⟩; have HI3 := Aside0.mk hI; have HB3 := Aside0.mk hb; clear HI HB hI hb)
            go_roundg (gk - 1)
            case measure => have := HII.out; omega
            case rel => exact ⟨i + 1, by go_num, ⟨by omega, by have := HII.out; omega⟩, ⟨by rw [HFT.out]; simpa [List.append_assoc] using HI3.out⟩, HB3⟩
          · have d9 : decide (i < y.l.length) = false := decide_eq_false c9
            have hi : i = y.l.length := by have := HII.out; omega
            clear c9
            go_wp2
            go_end0
            have h9 := HI.out
            rw [hi, List.take_of_length_le (Nat.le_refl _)] at h9
            exact ⟨rfl, h9, HB.out⟩
      · rw [if_neg c1] at HZ ⊢
        have C1 := Aside0.mk c1
        have d1 : (y.k == 1) = false := beq_eq_false_iff_ne.2 c1
        clear c1
        go_enter Tryd.func35, Tryd.ntmps35
        go_wp2_with (first | (go_at_call 47; with_reducible refine (Tryd.bws _ b x y.t w HI.out (by have := HZ.out; have e := data_length y.t; omega) HB.out.size).mono ?_; rintro e w1 ⟨rfl, hI, hb, -⟩; have HI1 := Aside0.mk hI; have n0_ := Aside0.mk (HB.out.trans hb); clear HB HI hI hb k3 k4 k6; have HB := n0_; clear n0_; obtain ⟨k0, k1, k2, k3, k4, k5, k6⟩ := (HX.out.below HB.out).cells; clear k0 k1 k2 k4 k5) | (go_at_call 47; with_reducible refine (Tryd.bws _ b _ bl _ HI1.out (by have := HZ.out; have e := data_length y.t; have e2 := data_length bl; rw [List.length_append]; omega) HB.out.size).mono ?_; rintro e w2 ⟨rfl, hI, hb, -⟩; have n1_ := Aside0.mk hI; have n0_ := Aside0.mk (HB.out.trans hb); clear HB HI1 hI hb k3 k6; have HB := n0_; have HI1 := n1_; clear n0_ n1_; obtain ⟨k0, k1, k2, k3, k4, k5, k6⟩ := (HX.out.below HB.out).cells; clear k0 k1 k2 k3 k4 k5))
        have HI := HI1
        clear HI1
        go_loopg [29] (y.l.length + 1) (fun kq v29 w' => ∃ (i : Nat), v29 = .int .i64 (i : Int) ∧ Aside0 (i ≤ y.l.length ∧ kq + i = y.l.length + 1) ∧ Aside0 (Lib.IsBuilderF 69 5 w0.heap.size b (Lib.byteCells (x ++ (y.t.data.toList ++ (([] : List UInt8) ++ flL bl.data.toList (y.l.take i))))) w') ∧ Aside0 (Below w0.heap.size w0 w'))
        case atStart => exact ⟨0, rfl, ⟨by omega, by simp⟩, ⟨by have := HI.out; simpa [flL, List.append_assoc] using this⟩, HB⟩
        case round =>
          clear HI HB
          obtain ⟨i, rfl, HII, HI, HB⟩ := hrel
          by_cases c9 : i < y.l.length
          · have d9 : decide (i < y.l.length) = true := decide_eq_true c9
            obtain ⟨ad, u, e1, hcell, hu⟩ := at_D HX.out.hC i c9
            subst e1
            have hcw := pw_cell_below (show Below w0.heap.size w0 wr from HB.out) hcell
            have hft := flL_take bl.data.toList y.l i c9
            have hfe := flL_le bl.data.toList y.l (i + 1)
            have HW := Aside0.mk (IH.out i c9 w0 wr b _ u hu HB.out HI.out (by have := HZ.out; rw [hft] at hfe; simp only [List.length_append, List.length_nil] at hfe this ⊢; omega))
            have HFT := Aside0.mk hft
            have hle : y.l.length < 9223372036854775807 := HSM.out
            go_wp2_with (go_at_call 35; refine HW.out.mono ?_; clear HW; rintro e w3 ⟨rfl, hI, hb⟩; have HI3 := Aside0.mk hI; have HB3 := Aside0.mk hb; clear HI HB hI hb)
            go_roundg (gk - 1)
            case measure => have := HII.out; omega
            case rel => exact ⟨i + 1, by go_num, ⟨by omega, by have := HII.out; omega⟩, ⟨by rw [HFT.out]; simpa [List.append_assoc] using HI3.out⟩, HB3⟩
          · have d9 : decide (i < y.l.length) = false := decide_eq_false c9
            have hi : i = y.l.length := by have := HII.out; omega
            clear c9
            go_wp2
            go_end0
            have h9 := HI.out
            rw [hi, List.take_of_length_le (Nat.le_refl _)] at h9
            exact ⟨rfl, h9, HB.out⟩
end Go.Proofs.YtjgaikmejccdkaaDoor.PDoc
