/- Layer 25: one box is laid. -/
import Derived.Test.YtjgaikmejccdkaaDoorLay3
namespace Go.Proofs.YtjgaikmejccdkaaDoor.PDoc
open Go.RowKit Go.Proofs.YtjgaikmejccdkaaDoorW.PrintWords Go.Proofs.YtjgaikmejccdkaaDoorW.PrintLast Go.Proofs.YtjgaikmejccdkaaDoorW.PrintMore
set_option linter.unusedVariables false
set_option linter.unusedSimpArgs false
section
variable {w0 w : World} {g : Nat} {W : Int} {q : LS} {ts : List Tk} {ok : Nat → Prop}
theorem PS_text (h : PS w0 g W q ts ok w) (s : ByteArray) (hs : s.size ≤ 1000000) (hlen : q.x.length + q.p ≤ 100000000000) (h0 : 0 ≤ q.c) (hc0 : q.c ≤ 1000000000000) :
    Calls Tryd.prog 55 #[.pointer (some ⟨g, 0, none⟩), .string s] w fun e w' => e = .returned (.tuple #[]) ∧ PS w0 g W (lT s q) ts ok w' := by
  obtain ⟨⟨p, v, td, h1, h2⟩, h3⟩ := h
  refine (text_ h1 s hs hlen h0 hc0 h3.size).mono ?_
  rintro e w' ⟨rfl, ⟨p', v', hp⟩, hb, ht⟩
  exact ⟨rfl, ⟨p', v', td, hp, R_ty rfl h2 ht⟩, h3.trans hb⟩
theorem PS_line (h : PS w0 g W q ts ok w) (i : Nat) (hlen : q.x.length ≤ 100000000000) :
    Calls Tryd.prog 56 #[.pointer (some ⟨g, 0, none⟩), .int .i64 (i : Int)] w fun e w' => e = .returned (.tuple #[]) ∧ PS w0 g W (lN i q) ts ok w' := by
  obtain ⟨⟨p, v, td, h1, h2⟩, h3⟩ := h
  refine (line_ h1 i hlen h3.size).mono ?_
  rintro e w' ⟨rfl, ⟨p', v', hp⟩, hb, ht⟩
  exact ⟨rfl, ⟨p', v', td, hp, R_ty rfl h2 ht⟩, h3.trans hb⟩
theorem PS_fits (h : PS w0 g W q ts ok w) {vd : Value} {d : D} (hd : DV w0 vd d) (h0 : 0 ≤ q.c) (hc0 : q.c ≤ 1000000000000) (hW : 0 ≤ W) (hW2 : W ≤ 1000000000000) :
    Calls Tryd.prog 58 #[.pointer (some ⟨g, 0, none⟩), vd] w fun e w' => e = .returned (.bool (fit W d q)) ∧ Below w.heap.size w w' := by
  obtain ⟨⟨p, v, td, h1, h2⟩, h3⟩ := h
  exact fits_ h1 (hd.below h3) h0 hc0 hW hW2
end
theorem pushed_eq (i : Nat) (f : Bool) (l : List D) : (l.reverse.map fun d => (d, i, f)) = pushed i f l := rfl
def ly15.T : Bool × List (List Nat × List Nat) := (true, [([], []), ([], []), ([], []), ([2], [2]), ([3], [3]), ([4], [4]), ([4], [4]), ([6, 4], [4, 6]), ([5, 7, 4, 4], [4, 5, 7]), ([4, 8], [4, 8]), ([0, 1, 9, 8], [0, 1, 9])])
def ly15.B : List Nat := [0, 0, 0, 4, 12, 28, 28, 92, 252, 508, 1023]
theorem ly15.tab : rtab .any (opsOf Tryd.f49 15) = ly15.T := by kernel_rfl
theorem ly15.bits : waitsOk ly15.T.2 ly15.B = true := by kernel_rfl
def ly2.T : Bool × List (List Nat × List Nat) := (true, [([], []), ([], []), ([], []), ([2], [2]), ([3], [3]), ([], []), ([5], [5]), ([0, 1, 4, 6, 4], [0, 1, 4, 6])])
def ly2.B : List Nat := [0, 0, 0, 4, 12, 0, 32, 127]
theorem ly2.tab : rtab .any (opsOf Tryd.f49 2) = ly2.T := by kernel_rfl
theorem ly2.bits : waitsOk ly2.T.2 ly2.B = true := by kernel_rfl
set_option maxHeartbeats 8000000 in
set_option maxRecDepth 100000 in
theorem lay_text {w0 w : World} {g : Nat} {W : Int} {q : LS} {ts : List Tk} (h : PS w0 g W q ts (fun _ => True) w) {vd : Value} {d : D} (hd : DV w0 vd d) (i : Nat) (f : Bool) {I K X : Nat} (hL : Lb I K X (ts ++ [(d, i, f)]) q) (hI : I ≤ 1000000000) (hK : K ≤ 100000000000) (hX : X ≤ 100000000000) (hN : nT (ts ++ [(d, i, f)]) ≤ 1000000000) (hW : 0 ≤ W) (hW2 : W ≤ 1000000000000) (k : kd d = 0) :
    Calls Tryd.prog 49 #[.pointer (some ⟨g, 0, none⟩), .agg #[vd, .int .i64 (i : Int), .bool f]] w fun e w' => e = .returned (.tuple #[]) ∧ PS w0 g W (st1 W (d, i, f) q).1 (ts ++ (st1 W (d, i, f) q).2) (fun _ => True) w' := by
  have hbx : q.x.length + q.p ≤ 100000000000 := by have := hL.x; omega
  have hc0 := hL.c0
  have hc1 : q.c ≤ 1000000000000 := by have := hL.c; omega
  have hwf := (hL.wf (d, i, f) (by simp))
  have hwf1 : Wf d := hwf.1
  have hwf2 : i + ib d ≤ I := hwf.2
  have hnn : nbL (ps d) + ts.length ≤ 1000000000 := by
    have h1 := nT_len ts
    rw [nT_app, nT_one] at hN
    have h2 : nbL (ps d) ≤ nb d := by
      cases d with
      | none => simp [ps, nbL]
      | some x => rw [nb_some]; show nbL x.l ≤ _; omega
    have h3 : nb (d, i, f).1 = nb d := rfl
    omega
  obtain ⟨wb, hwb⟩ : ∃ wb, w.alloc (.cells #[vd, .int .i64 (i : Int), .bool f] 87) = wb := ⟨_, rfl⟩
  have HBT := Aside0.mk (show wb.heap[w.heap.size]? = some (.cells #[vd, .int .i64 (i : Int), .bool f] 87 (0, 0)) from hwb ▸ blk_new w _)
  have HS := Aside0.mk (show PS w0 g W q ts (fun _ => True) wb from h.below (hwb ▸ below_alloc (Below.refl _ _) _))
  have HK := Aside0.mk (Kind_ (hd.below HS.out.b))
  have kv : wb.cell? ⟨w.heap.size, 0, none⟩ = some vd := (blk_cell HBT.out 0).trans rfl
  have ki : wb.cell? ⟨w.heap.size, 1, none⟩ = some (.int .i64 (i : Int)) := (blk_cell HBT.out 1).trans rfl
  have kf : wb.cell? ⟨w.heap.size, 2, none⟩ = some (.bool f) := (blk_cell HBT.out 2).trans rfl
  have HO := Aside0.mk (Own_ (hd.below HS.out.b))
  have hs : (ow d).size ≤ 1000000 := by
    cases d with
    | none => show 0 ≤ 1000000; omega
    | some x => exact ((wf_some x).1 hwf1).1
  have HT := Aside0.mk (PS_text HS.out (ow d) hs hbx hc0 hc1)
  have e1 : st1 W (d, i, f) q = (lT (ow d) q, []) := by unfold st1; rw [if_pos k]
  rw [e1]
  have dk : decide (kd d = 0) = true := decide_eq_true k
  clear hbx hc0 hc1 hwf hwf1 hwf2 hnn hL hI hK hX hN hW hW2 h hd hs e1 ki kf
  go_enter Tryd.func49, Tryd.ntmps49
  go_wp2_with (first | (go_at_call 18; refine HK.out.mono ?_; clear HK; rintro e w1 ⟨rfl, hq⟩; obtain rfl := hq.symm; clear hq; rw [k]) | (go_at_call 41; refine HO.out.mono ?_; clear HO; rintro e w1 ⟨rfl, hq⟩; obtain rfl := hq.symm; clear hq) | (go_at_call 55; refine HT.out.mono ?_; clear HT kv; rintro e w2 ⟨rfl, hp⟩; have HP := Aside0.mk hp; clear hp))
  go_end0
  refine ⟨rfl, ?_⟩
  rw [List.append_nil]
  exact HP.out
set_option maxHeartbeats 8000000 in
set_option maxRecDepth 100000 in
theorem lay_blankf {w0 w : World} {g : Nat} {W : Int} {q : LS} {ts : List Tk} (h : PS w0 g W q ts (fun _ => True) w) {vd : Value} {d : D} (hd : DV w0 vd d) (i : Nat) (f : Bool) {I K X : Nat} (hL : Lb I K X (ts ++ [(d, i, f)]) q) (hI : I ≤ 1000000000) (hK : K ≤ 100000000000) (hX : X ≤ 100000000000) (hN : nT (ts ++ [(d, i, f)]) ≤ 1000000000) (hW : 0 ≤ W) (hW2 : W ≤ 1000000000000) (k : kd d = 1) (hf : f = true) :
    Calls Tryd.prog 49 #[.pointer (some ⟨g, 0, none⟩), .agg #[vd, .int .i64 (i : Int), .bool f]] w fun e w' => e = .returned (.tuple #[]) ∧ PS w0 g W (st1 W (d, i, f) q).1 (ts ++ (st1 W (d, i, f) q).2) (fun _ => True) w' := by
  have hbx : q.x.length + q.p ≤ 100000000000 := by have := hL.x; omega
  have hc0 := hL.c0
  have hc1 : q.c ≤ 1000000000000 := by have := hL.c; omega
  have hwf := (hL.wf (d, i, f) (by simp))
  have hwf1 : Wf d := hwf.1
  have hwf2 : i + ib d ≤ I := hwf.2
  have hnn : nbL (ps d) + ts.length ≤ 1000000000 := by
    have h1 := nT_len ts
    rw [nT_app, nT_one] at hN
    have h2 : nbL (ps d) ≤ nb d := by
      cases d with
      | none => simp [ps, nbL]
      | some x => rw [nb_some]; show nbL x.l ≤ _; omega
    have h3 : nb (d, i, f).1 = nb d := rfl
    omega
  obtain ⟨wb, hwb⟩ : ∃ wb, w.alloc (.cells #[vd, .int .i64 (i : Int), .bool f] 87) = wb := ⟨_, rfl⟩
  have HBT := Aside0.mk (show wb.heap[w.heap.size]? = some (.cells #[vd, .int .i64 (i : Int), .bool f] 87 (0, 0)) from hwb ▸ blk_new w _)
  have HS := Aside0.mk (show PS w0 g W q ts (fun _ => True) wb from h.below (hwb ▸ below_alloc (Below.refl _ _) _))
  have HK := Aside0.mk (Kind_ (hd.below HS.out.b))
  have kv : wb.cell? ⟨w.heap.size, 0, none⟩ = some vd := (blk_cell HBT.out 0).trans rfl
  have ki : wb.cell? ⟨w.heap.size, 1, none⟩ = some (.int .i64 (i : Int)) := (blk_cell HBT.out 1).trans rfl
  have kf : wb.cell? ⟨w.heap.size, 2, none⟩ = some (.bool f) := (blk_cell HBT.out 2).trans rfl
  subst hf
  have HT := Aside0.mk (PS_text HS.out sp1 (by decide) hbx hc0 hc1)
  have e1 : st1 W (d, i, true) q = (lT sp1 q, []) := by unfold st1; simp [k]
  rw [e1]
  clear hbx hc0 hc1 hwf hwf1 hwf2 hnn hL hI hK hX hN hW hW2 h hd e1
  go_enter Tryd.func49, Tryd.ntmps49
  go_wp2_with (first | (go_at_call 18; refine HK.out.mono ?_; clear HK; rintro e w1 ⟨rfl, hq⟩; obtain rfl := hq.symm; clear hq; rw [k]) | (go_at_call 55; refine HT.out.mono ?_; clear HT kv ki kf; rintro e w2 ⟨rfl, hp⟩; have HP := Aside0.mk hp; clear hp))
  go_end0
  refine ⟨rfl, ?_⟩
  rw [List.append_nil]
  exact HP.out
set_option maxHeartbeats 8000000 in
set_option maxRecDepth 100000 in
theorem lay_blank {w0 w : World} {g : Nat} {W : Int} {q : LS} {ts : List Tk} (h : PS w0 g W q ts (fun _ => True) w) {vd : Value} {d : D} (hd : DV w0 vd d) (i : Nat) (f : Bool) {I K X : Nat} (hL : Lb I K X (ts ++ [(d, i, f)]) q) (hI : I ≤ 1000000000) (hK : K ≤ 100000000000) (hX : X ≤ 100000000000) (hN : nT (ts ++ [(d, i, f)]) ≤ 1000000000) (hW : 0 ≤ W) (hW2 : W ≤ 1000000000000) (k : kd d = 1) (hf : f = false) :
    Calls Tryd.prog 49 #[.pointer (some ⟨g, 0, none⟩), .agg #[vd, .int .i64 (i : Int), .bool f]] w fun e w' => e = .returned (.tuple #[]) ∧ PS w0 g W (st1 W (d, i, f) q).1 (ts ++ (st1 W (d, i, f) q).2) (fun _ => True) w' := by
  have hbx : q.x.length + q.p ≤ 100000000000 := by have := hL.x; omega
  have hc0 := hL.c0
  have hc1 : q.c ≤ 1000000000000 := by have := hL.c; omega
  have hwf := (hL.wf (d, i, f) (by simp))
  have hwf1 : Wf d := hwf.1
  have hwf2 : i + ib d ≤ I := hwf.2
  have hnn : nbL (ps d) + ts.length ≤ 1000000000 := by
    have h1 := nT_len ts
    rw [nT_app, nT_one] at hN
    have h2 : nbL (ps d) ≤ nb d := by
      cases d with
      | none => simp [ps, nbL]
      | some x => rw [nb_some]; show nbL x.l ≤ _; omega
    have h3 : nb (d, i, f).1 = nb d := rfl
    omega
  obtain ⟨wb, hwb⟩ : ∃ wb, w.alloc (.cells #[vd, .int .i64 (i : Int), .bool f] 87) = wb := ⟨_, rfl⟩
  have HBT := Aside0.mk (show wb.heap[w.heap.size]? = some (.cells #[vd, .int .i64 (i : Int), .bool f] 87 (0, 0)) from hwb ▸ blk_new w _)
  have HS := Aside0.mk (show PS w0 g W q ts (fun _ => True) wb from h.below (hwb ▸ below_alloc (Below.refl _ _) _))
  have HK := Aside0.mk (Kind_ (hd.below HS.out.b))
  have kv : wb.cell? ⟨w.heap.size, 0, none⟩ = some vd := (blk_cell HBT.out 0).trans rfl
  have ki : wb.cell? ⟨w.heap.size, 1, none⟩ = some (.int .i64 (i : Int)) := (blk_cell HBT.out 1).trans rfl
  have kf : wb.cell? ⟨w.heap.size, 2, none⟩ = some (.bool f) := (blk_cell HBT.out 2).trans rfl
  subst hf
  have HT := Aside0.mk (PS_line HS.out i (by omega))
  have e1 : st1 W (d, i, false) q = (lN i q, []) := by unfold st1; simp [k]
  rw [e1]
  clear hbx hc0 hc1 hwf hwf1 hwf2 hnn hL hI hK hX hN hW hW2 h hd e1
  go_enter Tryd.func49, Tryd.ntmps49
  go_wp2_with (first | (go_at_call 18; refine HK.out.mono ?_; clear HK; rintro e w1 ⟨rfl, hq⟩; obtain rfl := hq.symm; clear hq; rw [k]) | (go_at_call 56; refine HT.out.mono ?_; clear HT kv ki kf; rintro e w2 ⟨rfl, hp⟩; have HP := Aside0.mk hp; clear hp))
  go_end0
  refine ⟨rfl, ?_⟩
  rw [List.append_nil]
  exact HP.out
set_option maxHeartbeats 8000000 in
set_option maxRecDepth 100000 in
theorem lay_tightf {w0 w : World} {g : Nat} {W : Int} {q : LS} {ts : List Tk} (h : PS w0 g W q ts (fun _ => True) w) {vd : Value} {d : D} (hd : DV w0 vd d) (i : Nat) (f : Bool) {I K X : Nat} (hL : Lb I K X (ts ++ [(d, i, f)]) q) (hI : I ≤ 1000000000) (hK : K ≤ 100000000000) (hX : X ≤ 100000000000) (hN : nT (ts ++ [(d, i, f)]) ≤ 1000000000) (hW : 0 ≤ W) (hW2 : W ≤ 1000000000000) (k : kd d = 2) (hf : f = true) :
    Calls Tryd.prog 49 #[.pointer (some ⟨g, 0, none⟩), .agg #[vd, .int .i64 (i : Int), .bool f]] w fun e w' => e = .returned (.tuple #[]) ∧ PS w0 g W (st1 W (d, i, f) q).1 (ts ++ (st1 W (d, i, f) q).2) (fun _ => True) w' := by
  have hbx : q.x.length + q.p ≤ 100000000000 := by have := hL.x; omega
  have hc0 := hL.c0
  have hc1 : q.c ≤ 1000000000000 := by have := hL.c; omega
  have hwf := (hL.wf (d, i, f) (by simp))
  have hwf1 : Wf d := hwf.1
  have hwf2 : i + ib d ≤ I := hwf.2
  have hnn : nbL (ps d) + ts.length ≤ 1000000000 := by
    have h1 := nT_len ts
    rw [nT_app, nT_one] at hN
    have h2 : nbL (ps d) ≤ nb d := by
      cases d with
      | none => simp [ps, nbL]
      | some x => rw [nb_some]; show nbL x.l ≤ _; omega
    have h3 : nb (d, i, f).1 = nb d := rfl
    omega
  obtain ⟨wb, hwb⟩ : ∃ wb, w.alloc (.cells #[vd, .int .i64 (i : Int), .bool f] 87) = wb := ⟨_, rfl⟩
  have HBT := Aside0.mk (show wb.heap[w.heap.size]? = some (.cells #[vd, .int .i64 (i : Int), .bool f] 87 (0, 0)) from hwb ▸ blk_new w _)
  have HS := Aside0.mk (show PS w0 g W q ts (fun _ => True) wb from h.below (hwb ▸ below_alloc (Below.refl _ _) _))
  have HK := Aside0.mk (Kind_ (hd.below HS.out.b))
  have kv : wb.cell? ⟨w.heap.size, 0, none⟩ = some vd := (blk_cell HBT.out 0).trans rfl
  have ki : wb.cell? ⟨w.heap.size, 1, none⟩ = some (.int .i64 (i : Int)) := (blk_cell HBT.out 1).trans rfl
  have kf : wb.cell? ⟨w.heap.size, 2, none⟩ = some (.bool f) := (blk_cell HBT.out 2).trans rfl
  subst hf
  have e1 : st1 W (d, i, true) q = (q, []) := by unfold st1; simp [k]
  rw [e1]
  clear hbx hc0 hc1 hwf hwf1 hwf2 hnn hL hI hK hX hN hW hW2 h hd e1
  go_enter Tryd.func49, Tryd.ntmps49
  go_wp2_with (first | (go_at_call 18; refine HK.out.mono ?_; clear HK; rintro e w1 ⟨rfl, hq⟩; obtain rfl := hq.symm; clear hq; rw [k]))
  go_end0
  refine ⟨rfl, ?_⟩
  rw [List.append_nil]
  exact HS.out
set_option maxHeartbeats 8000000 in
set_option maxRecDepth 100000 in
theorem lay_tight {w0 w : World} {g : Nat} {W : Int} {q : LS} {ts : List Tk} (h : PS w0 g W q ts (fun _ => True) w) {vd : Value} {d : D} (hd : DV w0 vd d) (i : Nat) (f : Bool) {I K X : Nat} (hL : Lb I K X (ts ++ [(d, i, f)]) q) (hI : I ≤ 1000000000) (hK : K ≤ 100000000000) (hX : X ≤ 100000000000) (hN : nT (ts ++ [(d, i, f)]) ≤ 1000000000) (hW : 0 ≤ W) (hW2 : W ≤ 1000000000000) (k : kd d = 2) (hf : f = false) :
    Calls Tryd.prog 49 #[.pointer (some ⟨g, 0, none⟩), .agg #[vd, .int .i64 (i : Int), .bool f]] w fun e w' => e = .returned (.tuple #[]) ∧ PS w0 g W (st1 W (d, i, f) q).1 (ts ++ (st1 W (d, i, f) q).2) (fun _ => True) w' := by
  have hbx : q.x.length + q.p ≤ 100000000000 := by have := hL.x; omega
  have hc0 := hL.c0
  have hc1 : q.c ≤ 1000000000000 := by have := hL.c; omega
  have hwf := (hL.wf (d, i, f) (by simp))
  have hwf1 : Wf d := hwf.1
  have hwf2 : i + ib d ≤ I := hwf.2
  have hnn : nbL (ps d) + ts.length ≤ 1000000000 := by
    have h1 := nT_len ts
    rw [nT_app, nT_one] at hN
    have h2 : nbL (ps d) ≤ nb d := by
      cases d with
      | none => simp [ps, nbL]
      | some x => rw [nb_some]; show nbL x.l ≤ _; omega
    have h3 : nb (d, i, f).1 = nb d := rfl
    omega
  obtain ⟨wb, hwb⟩ : ∃ wb, w.alloc (.cells #[vd, .int .i64 (i : Int), .bool f] 87) = wb := ⟨_, rfl⟩
  have HBT := Aside0.mk (show wb.heap[w.heap.size]? = some (.cells #[vd, .int .i64 (i : Int), .bool f] 87 (0, 0)) from hwb ▸ blk_new w _)
  have HS := Aside0.mk (show PS w0 g W q ts (fun _ => True) wb from h.below (hwb ▸ below_alloc (Below.refl _ _) _))
  have HK := Aside0.mk (Kind_ (hd.below HS.out.b))
  have kv : wb.cell? ⟨w.heap.size, 0, none⟩ = some vd := (blk_cell HBT.out 0).trans rfl
  have ki : wb.cell? ⟨w.heap.size, 1, none⟩ = some (.int .i64 (i : Int)) := (blk_cell HBT.out 1).trans rfl
  have kf : wb.cell? ⟨w.heap.size, 2, none⟩ = some (.bool f) := (blk_cell HBT.out 2).trans rfl
  subst hf
  have HT := Aside0.mk (PS_line HS.out i (by omega))
  have e1 : st1 W (d, i, false) q = (lN i q, []) := by unfold st1; simp [k]
  rw [e1]
  clear hbx hc0 hc1 hwf hwf1 hwf2 hnn hL hI hK hX hN hW hW2 h hd e1
  go_enter Tryd.func49, Tryd.ntmps49
  go_wp2_with (first | (go_at_call 18; refine HK.out.mono ?_; clear HK; rintro e w1 ⟨rfl, hq⟩; obtain rfl := hq.symm; clear hq; rw [k]) | (go_at_call 56; refine HT.out.mono ?_; clear HT kv ki kf; rintro e w2 ⟨rfl, hp⟩; have HP := Aside0.mk hp; clear hp))
  go_end0
  refine ⟨rfl, ?_⟩
  rw [List.append_nil]
  exact HP.out
set_option maxHeartbeats 8000000 in
set_option maxRecDepth 100000 in
theorem lay_hard {w0 w : World} {g : Nat} {W : Int} {q : LS} {ts : List Tk} (h : PS w0 g W q ts (fun _ => True) w) {vd : Value} {d : D} (hd : DV w0 vd d) (i : Nat) (f : Bool) {I K X : Nat} (hL : Lb I K X (ts ++ [(d, i, f)]) q) (hI : I ≤ 1000000000) (hK : K ≤ 100000000000) (hX : X ≤ 100000000000) (hN : nT (ts ++ [(d, i, f)]) ≤ 1000000000) (hW : 0 ≤ W) (hW2 : W ≤ 1000000000000) (k : kd d = 3) :
    Calls Tryd.prog 49 #[.pointer (some ⟨g, 0, none⟩), .agg #[vd, .int .i64 (i : Int), .bool f]] w fun e w' => e = .returned (.tuple #[]) ∧ PS w0 g W (st1 W (d, i, f) q).1 (ts ++ (st1 W (d, i, f) q).2) (fun _ => True) w' := by
  have hbx : q.x.length + q.p ≤ 100000000000 := by have := hL.x; omega
  have hc0 := hL.c0
  have hc1 : q.c ≤ 1000000000000 := by have := hL.c; omega
  have hwf := (hL.wf (d, i, f) (by simp))
  have hwf1 : Wf d := hwf.1
  have hwf2 : i + ib d ≤ I := hwf.2
  have hnn : nbL (ps d) + ts.length ≤ 1000000000 := by
    have h1 := nT_len ts
    rw [nT_app, nT_one] at hN
    have h2 : nbL (ps d) ≤ nb d := by
      cases d with
      | none => simp [ps, nbL]
      | some x => rw [nb_some]; show nbL x.l ≤ _; omega
    have h3 : nb (d, i, f).1 = nb d := rfl
    omega
  obtain ⟨wb, hwb⟩ : ∃ wb, w.alloc (.cells #[vd, .int .i64 (i : Int), .bool f] 87) = wb := ⟨_, rfl⟩
  have HBT := Aside0.mk (show wb.heap[w.heap.size]? = some (.cells #[vd, .int .i64 (i : Int), .bool f] 87 (0, 0)) from hwb ▸ blk_new w _)
  have HS := Aside0.mk (show PS w0 g W q ts (fun _ => True) wb from h.below (hwb ▸ below_alloc (Below.refl _ _) _))
  have HK := Aside0.mk (Kind_ (hd.below HS.out.b))
  have kv : wb.cell? ⟨w.heap.size, 0, none⟩ = some vd := (blk_cell HBT.out 0).trans rfl
  have ki : wb.cell? ⟨w.heap.size, 1, none⟩ = some (.int .i64 (i : Int)) := (blk_cell HBT.out 1).trans rfl
  have kf : wb.cell? ⟨w.heap.size, 2, none⟩ = some (.bool f) := (blk_cell HBT.out 2).trans rfl
  have HT := Aside0.mk (PS_line HS.out i (by omega))
  have e1 : st1 W (d, i, f) q = (lN i q, []) := by unfold st1; simp [k]
  rw [e1]
  clear hbx hc0 hc1 hwf hwf1 hwf2 hnn hL hI hK hX hN hW hW2 h hd e1
  go_enter Tryd.func49, Tryd.ntmps49
  go_wp2_with (first | (go_at_call 18; refine HK.out.mono ?_; clear HK; rintro e w1 ⟨rfl, hq⟩; obtain rfl := hq.symm; clear hq; rw [k]) | (go_at_call 56; refine HT.out.mono ?_; clear HT kv ki kf; rintro e w2 ⟨rfl, hp⟩; have HP := Aside0.mk hp; clear hp))
  go_end0
  refine ⟨rfl, ?_⟩
  rw [List.append_nil]
  exact HP.out
theorem nbL_len (l : List D) : l.length ≤ nbL l := by
  induction l with
  | nil => simp [nbL]
  | cons x r ih =>
    have := nb_pos x
    simp only [nbL, List.length_cons]
    omega
set_option maxHeartbeats 8000000 in
set_option maxRecDepth 100000 in
theorem lay_groupf {w0 w : World} {g : Nat} {W : Int} {q : LS} {ts : List Tk} (h : PS w0 g W q ts (fun _ => True) w) {vd : Value} {d : D} (hd : DV w0 vd d) (i : Nat) (f : Bool) {I K X : Nat} (hL : Lb I K X (ts ++ [(d, i, f)]) q) (hI : I ≤ 1000000000) (hK : K ≤ 100000000000) (hX : X ≤ 100000000000) (hN : nT (ts ++ [(d, i, f)]) ≤ 1000000000) (hW : 0 ≤ W) (hW2 : W ≤ 1000000000000) (k : kd d = 6) (hf : f = true) :
    Calls Tryd.prog 49 #[.pointer (some ⟨g, 0, none⟩), .agg #[vd, .int .i64 (i : Int), .bool f]] w fun e w' => e = .returned (.tuple #[]) ∧ PS w0 g W (st1 W (d, i, f) q).1 (ts ++ (st1 W (d, i, f) q).2) (fun _ => True) w' := by
  have hbx : q.x.length + q.p ≤ 100000000000 := by have := hL.x; omega
  have hc0 := hL.c0
  have hc1 : q.c ≤ 1000000000000 := by have := hL.c; omega
  have hwf := (hL.wf (d, i, f) (by simp))
  have hwf1 : Wf d := hwf.1
  have hwf2 : i + ib d ≤ I := hwf.2
  have hnn : nbL (ps d) + ts.length ≤ 1000000000 := by
    have h1 := nT_len ts
    rw [nT_app, nT_one] at hN
    have h2 : nbL (ps d) ≤ nb d := by
      cases d with
      | none => simp [ps, nbL]
      | some x => rw [nb_some]; show nbL x.l ≤ _; omega
    have h3 : nb (d, i, f).1 = nb d := rfl
    omega
  obtain ⟨wb, hwb⟩ : ∃ wb, w.alloc (.cells #[vd, .int .i64 (i : Int), .bool f] 87) = wb := ⟨_, rfl⟩
  have HBT := Aside0.mk (show wb.heap[w.heap.size]? = some (.cells #[vd, .int .i64 (i : Int), .bool f] 87 (0, 0)) from hwb ▸ blk_new w _)
  have HS := Aside0.mk (show PS w0 g W q ts (fun _ => True) wb from h.below (hwb ▸ below_alloc (Below.refl _ _) _))
  have HK := Aside0.mk (Kind_ (hd.below HS.out.b))
  have kv : wb.cell? ⟨w.heap.size, 0, none⟩ = some vd := (blk_cell HBT.out 0).trans rfl
  have ki : wb.cell? ⟨w.heap.size, 1, none⟩ = some (.int .i64 (i : Int)) := (blk_cell HBT.out 1).trans rfl
  have kf : wb.cell? ⟨w.heap.size, 2, none⟩ = some (.bool f) := (blk_cell HBT.out 2).trans rfl
  subst hf
  obtain ⟨pv, rfl⟩ := hd.ptr
  have HPT := Aside0.mk (fun (u : World) (hp : PS w0 g W q ts (fun _ => True) u) => (show Calls Tryd.prog 57 #[.pointer (some ⟨g, 0, none⟩), .agg #[.pointer pv, .int .i64 (i : Int), .bool true], .int .i64 0, .bool true] u fun e w' => e = .returned (.tuple #[]) ∧ PS w0 g W q (ts ++ pushed i true (ps d)) (fun _ => True) w' from parts_ hp hd i 0 true true (by omega) (by have := nbL_len (ps d); omega)))
  have e1 : st1 W (d, i, true) q = (q, pushed i true (ps d)) := by unfold st1; simp [k, pushed]
  rw [e1]
  clear hbx hc0 hc1 hwf hwf1 hwf2 hnn hL hI hK hX hN hW hW2 h hd e1
  go_enter Tryd.func49, Tryd.ntmps49
  go_wp2_with (go_at_call 18; refine HK.out.mono ?_; clear HK; rintro e w1 ⟨rfl, hq⟩; obtain rfl := hq.symm; clear hq; rw [k])
  clear kv ki kf
  have n0_ := Aside0.mk (HS.out.below (below_drew1 (Below.refl _ wb)))
  have n1_ := Aside0.mk (blk_drew HBT.out)
  clear HS HBT 
  have HS := n0_
  have HBT := n1_
  clear n0_ n1_
  refine start_ (n := 11) (S := fun w' => w'.cell? ⟨w.heap.size, 0, none⟩ = some (.pointer pv) ∧ w'.cell? ⟨w.heap.size, 1, none⟩ = some (.int .i64 (i : Int)) ∧ w'.cell? ⟨w.heap.size, 2, none⟩ = some (.bool true)) (ds := [10]) #[false, false, false, false, false, false, false, false, false, false, false] (by kernel_rfl) rfl rfl ⟨(blk_cell HBT.out 0).trans rfl, (blk_cell HBT.out 1).trans rfl, (blk_cell HBT.out 2).trans rfl⟩ (fun hHeld => ?_); refine with_tabW ly15.tab ly15.bits (fun HT_ HW_ => ?_)
  clear hwb
  generalize wb.drew = w2 at HS HBT hHeld ⊢
  refine pure_ (i := 0) (N := some 49) (v := ?_) (a' := ?_) #[true, false, false, false, false, false, false, false, false, false, false] rfl rfl (any_of HT_.out (by kernel_rfl)) (fun _ _ _ h => h) (Or.inl ⟨by rfl, ?_⟩) ?_ ?_
  rotate_left
  · intro w'
    go_simp
    try with_reducible rfl
  rotate_left
  · simp only [Act.put, List.setIfInBounds_toArray, List.set_cons_zero, List.set_cons_succ, i64_w, i32_w]
    rfl
  refine take_ (i := 1) (N := some 50) (v := ?_) (a' := ?_) #[true, true, false, false, false, false, false, false, false, false, false] rfl rfl (take_ofW HT_.out HW_.out (by kernel_rfl)) (fun _ _ _ h => h) (Or.inl ⟨by rfl, ?_⟩) hHeld ?_ ?_
  rotate_left
  · rintro w' ⟨s0, s1, s2⟩
    go_simp
    try with_reducible rfl
  rotate_left
  · simp only [Act.put, List.setIfInBounds_toArray, List.set_cons_zero, List.set_cons_succ, i64_w, i32_w]
    rfl
  refine pure_ (i := 2) (N := some 51) (v := ?_) (a' := ?_) #[true, true, true, false, false, false, false, false, false, false, false] rfl rfl (any_of HT_.out (by kernel_rfl)) (fun _ _ _ h => h) (Or.inl ⟨by rfl, ?_⟩) ?_ ?_
  rotate_left
  · intro w'
    go_simp
    try with_reducible rfl
  rotate_left
  · simp only [Act.put, List.setIfInBounds_toArray, List.set_cons_zero, List.set_cons_succ, i64_w, i32_w]
    rfl
  refine take_ (i := 3) (N := some 52) (v := ?_) (a' := ?_) #[true, true, true, true, false, false, false, false, false, false, false] rfl rfl (take_ofW HT_.out HW_.out (by kernel_rfl)) (fun _ _ _ h => h) (Or.inl ⟨by rfl, ?_⟩) hHeld ?_ ?_
  rotate_left
  · rintro w' ⟨s0, s1, s2⟩
    go_simp
    try with_reducible rfl
  rotate_left
  · simp only [Act.put, List.setIfInBounds_toArray, List.set_cons_zero, List.set_cons_succ, i64_w, i32_w]
    rfl
  refine pure_ (i := 4) (N := some 53) (v := ?_) (a' := ?_) #[true, true, true, true, true, false, false, false, false, false, false] rfl rfl (any_of HT_.out (by kernel_rfl)) (fun _ _ _ h => h) (Or.inl ⟨by rfl, ?_⟩) ?_ ?_
  rotate_left
  · intro w'
    go_simp
    try with_reducible rfl
  rotate_left
  · simp only [Act.put, List.setIfInBounds_toArray, List.set_cons_zero, List.set_cons_succ, i64_w, i32_w]
    rfl
  refine pure_ (i := 5) (N := some 54) (v := undef) (a' := ?_) #[true, true, true, true, true, true, false, false, false, false, false] rfl rfl (any_of HT_.out (by kernel_rfl)) (fun _ _ _ h => h) (Or.inr ⟨by rfl, rfl⟩) ?_ ?_
  rotate_left
  · simp only [Act.put, List.setIfInBounds_toArray, List.set_cons_zero, List.set_cons_succ, i64_w, i32_w]
    rfl
  refine pure_ (i := 6) (N := some 55) (v := undef) (a' := ?_) #[true, true, true, true, true, true, true, false, false, false, false] rfl rfl (any_of HT_.out (by kernel_rfl)) (fun _ _ _ h => h) (Or.inr ⟨by rfl, rfl⟩) ?_ ?_
  rotate_left
  · simp only [Act.put, List.setIfInBounds_toArray, List.set_cons_zero, List.set_cons_succ, i64_w, i32_w]
    rfl
  refine pure_ (i := 7) (N := some 56) (v := undef) (a' := ?_) #[true, true, true, true, true, true, true, true, false, false, false] rfl rfl (any_of HT_.out (by kernel_rfl)) (fun _ _ _ h => h) (Or.inr ⟨by rfl, rfl⟩) ?_ ?_
  rotate_left
  · simp only [Act.put, List.setIfInBounds_toArray, List.set_cons_zero, List.set_cons_succ, i64_w, i32_w]
    rfl
  refine pure_ (i := 8) (N := some 57) (v := undef) (a' := ?_) #[true, true, true, true, true, true, true, true, true, false, false] rfl rfl (any_of HT_.out (by kernel_rfl)) (fun _ _ _ h => h) (Or.inr ⟨by rfl, rfl⟩) ?_ ?_
  rotate_left
  · simp only [Act.put, List.setIfInBounds_toArray, List.set_cons_zero, List.set_cons_succ, i64_w, i32_w]
    rfl
  refine pure_ (i := 9) (N := some 58) (v := ?_) (a' := ?_) #[true, true, true, true, true, true, true, true, true, true, false] rfl rfl (any_of HT_.out (by kernel_rfl)) (fun _ _ _ h => h) (Or.inl ⟨by rfl, ?_⟩) ?_ ?_
  rotate_left
  · intro w'
    go_simp
    try with_reducible rfl
  rotate_left
  · simp only [Act.put, List.setIfInBounds_toArray, List.set_cons_zero, List.set_cons_succ, i64_w, i32_w]
    rfl
  refine last_ (i := 10) (N := some 59) #[true, true, true, true, true, true, true, true, true, true, true] rfl rfl (one_of HT_.out (by kernel_rfl)) (by decide) (fun K hK => ?_)
  refine goes_ Tryd.func57 (by kernel_rfl) rfl #[.pointer (some ⟨g, 0, none⟩), .agg #[.pointer pv, .int .i64 (i : Int), .bool true], .int .i64 0, .bool true] (by rfl) rfl rfl (by (try simp only [List.map_toArray, List.map_cons, List.map_nil]); first | done | rfl) ?_
  refine (HPT.out _ HS.out).mono ?_
  rintro e w4 ⟨rfl, hp⟩
  refine ⟨_, rfl, ?_⟩
  have HP := Aside0.mk hp
  clear hp HS HBT
  refine hK.out _ _ ?_
  clear hK K
  refine done_ (done_of HT_.out (by kernel_rfl)) ?_
  clear hHeld
  go_end0
  exact ⟨rfl, HP.out⟩
set_option maxHeartbeats 8000000 in
set_option maxRecDepth 100000 in
theorem lay_group {w0 w : World} {g : Nat} {W : Int} {q : LS} {ts : List Tk} (h : PS w0 g W q ts (fun _ => True) w) {vd : Value} {d : D} (hd : DV w0 vd d) (i : Nat) (f : Bool) {I K X : Nat} (hL : Lb I K X (ts ++ [(d, i, f)]) q) (hI : I ≤ 1000000000) (hK : K ≤ 100000000000) (hX : X ≤ 100000000000) (hN : nT (ts ++ [(d, i, f)]) ≤ 1000000000) (hW : 0 ≤ W) (hW2 : W ≤ 1000000000000) (k : kd d = 6) (hf : f = false) :
    Calls Tryd.prog 49 #[.pointer (some ⟨g, 0, none⟩), .agg #[vd, .int .i64 (i : Int), .bool f]] w fun e w' => e = .returned (.tuple #[]) ∧ PS w0 g W (st1 W (d, i, f) q).1 (ts ++ (st1 W (d, i, f) q).2) (fun _ => True) w' := by
  have hbx : q.x.length + q.p ≤ 100000000000 := by have := hL.x; omega
  have hc0 := hL.c0
  have hc1 : q.c ≤ 1000000000000 := by have := hL.c; omega
  have hwf := (hL.wf (d, i, f) (by simp))
  have hwf1 : Wf d := hwf.1
  have hwf2 : i + ib d ≤ I := hwf.2
  have hnn : nbL (ps d) + ts.length ≤ 1000000000 := by
    have h1 := nT_len ts
    rw [nT_app, nT_one] at hN
    have h2 : nbL (ps d) ≤ nb d := by
      cases d with
      | none => simp [ps, nbL]
      | some x => rw [nb_some]; show nbL x.l ≤ _; omega
    have h3 : nb (d, i, f).1 = nb d := rfl
    omega
  obtain ⟨wb, hwb⟩ : ∃ wb, w.alloc (.cells #[vd, .int .i64 (i : Int), .bool f] 87) = wb := ⟨_, rfl⟩
  have HBT := Aside0.mk (show wb.heap[w.heap.size]? = some (.cells #[vd, .int .i64 (i : Int), .bool f] 87 (0, 0)) from hwb ▸ blk_new w _)
  have HS := Aside0.mk (show PS w0 g W q ts (fun _ => True) wb from h.below (hwb ▸ below_alloc (Below.refl _ _) _))
  have HK := Aside0.mk (Kind_ (hd.below HS.out.b))
  have kv : wb.cell? ⟨w.heap.size, 0, none⟩ = some vd := (blk_cell HBT.out 0).trans rfl
  have ki : wb.cell? ⟨w.heap.size, 1, none⟩ = some (.int .i64 (i : Int)) := (blk_cell HBT.out 1).trans rfl
  have kf : wb.cell? ⟨w.heap.size, 2, none⟩ = some (.bool f) := (blk_cell HBT.out 2).trans rfl
  subst hf
  obtain ⟨pv, rfl⟩ := hd.ptr
  have HPT := Aside0.mk (fun (u : World) (hp : PS w0 g W q ts (fun _ => True) u) => (show Calls Tryd.prog 57 #[.pointer (some ⟨g, 0, none⟩), .agg #[.pointer pv, .int .i64 (i : Int), .bool false], .int .i64 0, .bool (fit W d q)] u fun e w' => e = .returned (.tuple #[]) ∧ PS w0 g W q (ts ++ pushed i (fit W d q) (ps d)) (fun _ => True) w' from parts_ hp hd i 0 false (fit W d q) (by omega) (by have := nbL_len (ps d); omega)))
  have HFT := Aside0.mk (fun (u : World) (hp : PS w0 g W q ts (fun _ => True) u) => PS_fits hp hd hc0 hc1 hW hW2)
  have e1 : st1 W (d, i, false) q = (q, pushed i (fit W d q) (ps d)) := by unfold st1; simp [k, pushed]
  rw [e1]
  clear hbx hc0 hc1 hwf hwf1 hwf2 hnn hL hI hK hX hN hW hW2 h hd e1
  go_enter Tryd.func49, Tryd.ntmps49
  go_wp2_with (go_at_call 18; refine HK.out.mono ?_; clear HK; rintro e w1 ⟨rfl, hq⟩; obtain rfl := hq.symm; clear hq; rw [k])
  clear kv ki kf
  have n0_ := Aside0.mk (HS.out.below (below_drew1 (Below.refl _ wb)))
  have n1_ := Aside0.mk (blk_drew HBT.out)
  clear HS HBT 
  have HS := n0_
  have HBT := n1_
  clear n0_ n1_
  refine start_ (n := 11) (S := fun w' => w'.cell? ⟨w.heap.size, 0, none⟩ = some (.pointer pv) ∧ w'.cell? ⟨w.heap.size, 1, none⟩ = some (.int .i64 (i : Int)) ∧ w'.cell? ⟨w.heap.size, 2, none⟩ = some (.bool false)) (ds := [10]) #[false, false, false, false, false, false, false, false, false, false, false] (by kernel_rfl) rfl rfl ⟨(blk_cell HBT.out 0).trans rfl, (blk_cell HBT.out 1).trans rfl, (blk_cell HBT.out 2).trans rfl⟩ (fun hHeld => ?_); refine with_tabW ly15.tab ly15.bits (fun HT_ HW_ => ?_)
  clear hwb
  generalize wb.drew = w2 at HS HBT hHeld ⊢
  refine pure_ (i := 0) (N := some 49) (v := ?_) (a' := ?_) #[true, false, false, false, false, false, false, false, false, false, false] rfl rfl (any_of HT_.out (by kernel_rfl)) (fun _ _ _ h => h) (Or.inl ⟨by rfl, ?_⟩) ?_ ?_
  rotate_left
  · intro w'
    go_simp
    try with_reducible rfl
  rotate_left
  · simp only [Act.put, List.setIfInBounds_toArray, List.set_cons_zero, List.set_cons_succ, i64_w, i32_w]
    rfl
  refine take_ (i := 1) (N := some 50) (v := ?_) (a' := ?_) #[true, true, false, false, false, false, false, false, false, false, false] rfl rfl (take_ofW HT_.out HW_.out (by kernel_rfl)) (fun _ _ _ h => h) (Or.inl ⟨by rfl, ?_⟩) hHeld ?_ ?_
  rotate_left
  · rintro w' ⟨s0, s1, s2⟩
    go_simp
    try with_reducible rfl
  rotate_left
  · simp only [Act.put, List.setIfInBounds_toArray, List.set_cons_zero, List.set_cons_succ, i64_w, i32_w]
    rfl
  refine pure_ (i := 2) (N := some 51) (v := ?_) (a' := ?_) #[true, true, true, false, false, false, false, false, false, false, false] rfl rfl (any_of HT_.out (by kernel_rfl)) (fun _ _ _ h => h) (Or.inl ⟨by rfl, ?_⟩) ?_ ?_
  rotate_left
  · intro w'
    go_simp
    try with_reducible rfl
  rotate_left
  · simp only [Act.put, List.setIfInBounds_toArray, List.set_cons_zero, List.set_cons_succ, i64_w, i32_w]
    rfl
  refine take_ (i := 3) (N := some 52) (v := ?_) (a' := ?_) #[true, true, true, true, false, false, false, false, false, false, false] rfl rfl (take_ofW HT_.out HW_.out (by kernel_rfl)) (fun _ _ _ h => h) (Or.inl ⟨by rfl, ?_⟩) hHeld ?_ ?_
  rotate_left
  · rintro w' ⟨s0, s1, s2⟩
    go_simp
    try with_reducible rfl
  rotate_left
  · simp only [Act.put, List.setIfInBounds_toArray, List.set_cons_zero, List.set_cons_succ, i64_w, i32_w]
    rfl
  refine pure_ (i := 4) (N := some 53) (v := ?_) (a' := ?_) #[true, true, true, true, true, false, false, false, false, false, false] rfl rfl (any_of HT_.out (by kernel_rfl)) (fun _ _ _ h => h) (Or.inl ⟨by rfl, ?_⟩) ?_ ?_
  rotate_left
  · intro w'
    go_simp
    try with_reducible rfl
  rotate_left
  · simp only [Act.put, List.setIfInBounds_toArray, List.set_cons_zero, List.set_cons_succ, i64_w, i32_w]
    rfl
  refine pure_ (i := 5) (N := some 54) (v := ?_) (a' := ?_) #[true, true, true, true, true, true, false, false, false, false, false] rfl rfl (any_of HT_.out (by kernel_rfl)) (fun _ _ _ h => h) (Or.inl ⟨by rfl, ?_⟩) ?_ ?_
  rotate_left
  · intro w'
    go_simp
    try with_reducible rfl
  rotate_left
  · simp only [Act.put, List.setIfInBounds_toArray, List.set_cons_zero, List.set_cons_succ, i64_w, i32_w]
    rfl
  refine pure_ (i := 6) (N := some 55) (v := ?_) (a' := ?_) #[true, true, true, true, true, true, true, false, false, false, false] rfl rfl (any_of HT_.out (by kernel_rfl)) (fun _ _ _ h => h) (Or.inl ⟨by rfl, ?_⟩) ?_ ?_
  rotate_left
  · intro w'
    go_simp
    try with_reducible rfl
  rotate_left
  · simp only [Act.put, List.setIfInBounds_toArray, List.set_cons_zero, List.set_cons_succ, i64_w, i32_w]
    rfl
  refine take_ (i := 7) (N := some 56) (v := ?_) (a' := ?_) #[true, true, true, true, true, true, true, true, false, false, false] rfl rfl (take_ofW HT_.out HW_.out (by kernel_rfl)) (fun _ _ _ h => h) (Or.inl ⟨by rfl, ?_⟩) hHeld ?_ ?_
  rotate_left
  · rintro w' ⟨s0, s1, s2⟩
    go_simp
    try with_reducible rfl
  rotate_left
  · simp only [Act.put, List.setIfInBounds_toArray, List.set_cons_zero, List.set_cons_succ, i64_w, i32_w]
    rfl
  refine one_ (i := 8) (N := some 57) #[true, true, true, true, true, true, true, true, true, false, false] rfl rfl (one_of HT_.out (by kernel_rfl)) (by decide) (fun K hK => ?_)
  refine goes_ Tryd.func58 (by kernel_rfl) rfl #[.pointer (some ⟨g, 0, none⟩), .pointer pv] (by rfl) rfl rfl (by (try simp only [List.map_toArray, List.map_cons, List.map_nil]); first | done | rfl) ?_
  refine (HFT.out _ HS.out).mono ?_
  rintro e w3 ⟨rfl, hb⟩
  refine ⟨_, rfl, ?_⟩
  have n0_ := Aside0.mk (HS.out.below hb)
  have n1_ := Aside0.mk (blk_below HBT.out hb)
  clear HS HBT hb
  have HS := n0_
  have HBT := n1_
  clear n0_ n1_
  refine hK.out _ _ ⟨(blk_cell HBT.out 0).trans rfl, (blk_cell HBT.out 1).trans rfl, (blk_cell HBT.out 2).trans rfl⟩ (fun hHeld => ?_)
  clear hK K
  refine norm_ (a' := ?_) ?_ ?_
  rotate_left
  · show Act.put _ (some 57) _ = _
    simp only [Act.put, List.setIfInBounds_toArray, List.set_cons_zero, List.set_cons_succ, i64_w, i32_w]
    rfl
  refine pure_ (i := 9) (N := some 58) (v := ?_) (a' := ?_) #[true, true, true, true, true, true, true, true, true, true, false] rfl rfl (any_of HT_.out (by kernel_rfl)) (fun _ _ _ h => h) (Or.inl ⟨by rfl, ?_⟩) ?_ ?_
  rotate_left
  · intro w'
    go_simp
    try with_reducible rfl
  rotate_left
  · simp only [Act.put, List.setIfInBounds_toArray, List.set_cons_zero, List.set_cons_succ, i64_w, i32_w]
    rfl
  refine last_ (i := 10) (N := some 59) #[true, true, true, true, true, true, true, true, true, true, true] rfl rfl (one_of HT_.out (by kernel_rfl)) (by decide) (fun K hK => ?_)
  refine goes_ Tryd.func57 (by kernel_rfl) rfl #[.pointer (some ⟨g, 0, none⟩), .agg #[.pointer pv, .int .i64 (i : Int), .bool false], .int .i64 0, .bool (fit W d q)] (by rfl) rfl rfl (by (try simp only [List.map_toArray, List.map_cons, List.map_nil]); first | done | rfl) ?_
  refine (HPT.out _ HS.out).mono ?_
  rintro e w4 ⟨rfl, hp⟩
  refine ⟨_, rfl, ?_⟩
  have HP := Aside0.mk hp
  clear hp HS HBT
  refine hK.out _ _ ?_
  clear hK K
  refine done_ (done_of HT_.out (by kernel_rfl)) ?_
  clear hHeld
  go_end0
  exact ⟨rfl, HP.out⟩
set_option maxHeartbeats 8000000 in
set_option maxRecDepth 100000 in
theorem lay_other {w0 w : World} {g : Nat} {W : Int} {q : LS} {ts : List Tk} (h : PS w0 g W q ts (fun _ => True) w) {vd : Value} {d : D} (hd : DV w0 vd d) (i : Nat) (f : Bool) {I K X : Nat} (hL : Lb I K X (ts ++ [(d, i, f)]) q) (hI : I ≤ 1000000000) (hK : K ≤ 100000000000) (hX : X ≤ 100000000000) (hN : nT (ts ++ [(d, i, f)]) ≤ 1000000000) (hW : 0 ≤ W) (hW2 : W ≤ 1000000000000) (k0 : kd d ≠ 0) (k1 : kd d ≠ 1) (k2 : kd d ≠ 2) (k3 : kd d ≠ 3) (k6 : kd d ≠ 6) :
    Calls Tryd.prog 49 #[.pointer (some ⟨g, 0, none⟩), .agg #[vd, .int .i64 (i : Int), .bool f]] w fun e w' => e = .returned (.tuple #[]) ∧ PS w0 g W (st1 W (d, i, f) q).1 (ts ++ (st1 W (d, i, f) q).2) (fun _ => True) w' := by
  have hbx : q.x.length + q.p ≤ 100000000000 := by have := hL.x; omega
  have hc0 := hL.c0
  have hc1 : q.c ≤ 1000000000000 := by have := hL.c; omega
  have hwf := (hL.wf (d, i, f) (by simp))
  have hwf1 : Wf d := hwf.1
  have hwf2 : i + ib d ≤ I := hwf.2
  have hnn : nbL (ps d) + ts.length ≤ 1000000000 := by
    have h1 := nT_len ts
    rw [nT_app, nT_one] at hN
    have h2 : nbL (ps d) ≤ nb d := by
      cases d with
      | none => simp [ps, nbL]
      | some x => rw [nb_some]; show nbL x.l ≤ _; omega
    have h3 : nb (d, i, f).1 = nb d := rfl
    omega
  obtain ⟨wb, hwb⟩ : ∃ wb, w.alloc (.cells #[vd, .int .i64 (i : Int), .bool f] 87) = wb := ⟨_, rfl⟩
  have HBT := Aside0.mk (show wb.heap[w.heap.size]? = some (.cells #[vd, .int .i64 (i : Int), .bool f] 87 (0, 0)) from hwb ▸ blk_new w _)
  have HS := Aside0.mk (show PS w0 g W q ts (fun _ => True) wb from h.below (hwb ▸ below_alloc (Below.refl _ _) _))
  have HK := Aside0.mk (Kind_ (hd.below HS.out.b))
  have kv : wb.cell? ⟨w.heap.size, 0, none⟩ = some vd := (blk_cell HBT.out 0).trans rfl
  have ki : wb.cell? ⟨w.heap.size, 1, none⟩ = some (.int .i64 (i : Int)) := (blk_cell HBT.out 1).trans rfl
  have kf : wb.cell? ⟨w.heap.size, 2, none⟩ = some (.bool f) := (blk_cell HBT.out 2).trans rfl
  obtain ⟨pv, rfl⟩ := hd.ptr
  have hby : 0 ≤ byD d ∧ (byD d).toNat ≤ ib d := by
    cases d with
    | none => exact ⟨Int.le_refl 0, Nat.zero_le _⟩
    | some x => exact ⟨((wf_some x).1 hwf1).2.1, by rw [ib_some]; show x.b.toNat ≤ _; omega⟩
  obtain ⟨bb, hbb⟩ : ∃ bb : Nat, byD d = (bb : Int) := ⟨(byD d).toNat, by omega⟩
  have HBY := Aside0.mk (fun (u : World) (hp : PS w0 g W q ts (fun _ => True) u) => (show Calls Tryd.prog 40 #[.pointer pv] u fun e w' => e = .returned (.int .i64 (bb : Int)) ∧ w' = u from hbb ▸ By_ (hd.below hp.b)))
  have HPT := Aside0.mk (fun (u : World) (hp : PS w0 g W q ts (fun _ => True) u) => parts_ hp hd i bb f f (by omega) (by have := nbL_len (ps d); omega))
  have e1 : st1 W (d, i, f) q = (q, pushed (i + bb) f (ps d)) := by unfold st1; simp only [if_neg k0, if_neg k1, if_neg k2, if_neg k3, if_neg k6, hbb, Int.toNat_natCast]; rfl
  rw [e1]
  have b0 : (kd d == 0) = false := beq_eq_false_iff_ne.2 k0
  have b1 : (kd d == 1) = false := beq_eq_false_iff_ne.2 k1
  have b2 : (kd d == 2) = false := beq_eq_false_iff_ne.2 k2
  have b3 : (kd d == 3) = false := beq_eq_false_iff_ne.2 k3
  have b6 : (kd d == 6) = false := beq_eq_false_iff_ne.2 k6
  clear hbx hc0 hc1 hwf hwf1 hwf2 hnn hL hI hK hX hN hW hW2 h hd e1 hby hbb k0 k1 k2 k3 k6
  go_enter Tryd.func49, Tryd.ntmps49
  go_wp2_with (go_at_call 18; refine HK.out.mono ?_; clear HK; rintro e w1 ⟨rfl, hq⟩; obtain rfl := hq.symm; clear hq)
  clear kv ki kf
  have n0_ := Aside0.mk (HS.out.below (below_drew1 (Below.refl _ wb)))
  have n1_ := Aside0.mk (blk_drew HBT.out)
  clear HS HBT 
  have HS := n0_
  have HBT := n1_
  clear n0_ n1_
  refine start_ (n := 8) (S := fun w' => w'.cell? ⟨w.heap.size, 0, none⟩ = some (.pointer pv) ∧ w'.cell? ⟨w.heap.size, 1, none⟩ = some (.int .i64 (i : Int)) ∧ w'.cell? ⟨w.heap.size, 2, none⟩ = some (.bool f)) (ds := [7]) #[false, false, false, false, false, false, false, false] (by kernel_rfl) rfl rfl ⟨(blk_cell HBT.out 0).trans rfl, (blk_cell HBT.out 1).trans rfl, (blk_cell HBT.out 2).trans rfl⟩ (fun hHeld => ?_); refine with_tabW ly2.tab ly2.bits (fun HT_ HW_ => ?_)
  clear hwb
  generalize wb.drew = w2 at HS HBT hHeld ⊢
  refine pure_ (i := 0) (N := some 7) (v := ?_) (a' := ?_) #[true, false, false, false, false, false, false, false] rfl rfl (any_of HT_.out (by kernel_rfl)) (fun _ _ _ h => h) (Or.inl ⟨by rfl, ?_⟩) ?_ ?_
  rotate_left
  · intro w'
    go_simp
    try with_reducible rfl
  rotate_left
  · simp only [Act.put, List.setIfInBounds_toArray, List.set_cons_zero, List.set_cons_succ, i64_w, i32_w]
    rfl
  refine take_ (i := 1) (N := some 8) (v := ?_) (a' := ?_) #[true, true, false, false, false, false, false, false] rfl rfl (take_ofW HT_.out HW_.out (by kernel_rfl)) (fun _ _ _ h => h) (Or.inl ⟨by rfl, ?_⟩) hHeld ?_ ?_
  rotate_left
  · rintro w' ⟨s0, s1, s2⟩
    go_simp
    try with_reducible rfl
  rotate_left
  · simp only [Act.put, List.setIfInBounds_toArray, List.set_cons_zero, List.set_cons_succ, i64_w, i32_w]
    rfl
  refine pure_ (i := 2) (N := some 9) (v := ?_) (a' := ?_) #[true, true, true, false, false, false, false, false] rfl rfl (any_of HT_.out (by kernel_rfl)) (fun _ _ _ h => h) (Or.inl ⟨by rfl, ?_⟩) ?_ ?_
  rotate_left
  · intro w'
    go_simp
    try with_reducible rfl
  rotate_left
  · simp only [Act.put, List.setIfInBounds_toArray, List.set_cons_zero, List.set_cons_succ, i64_w, i32_w]
    rfl
  refine take_ (i := 3) (N := some 10) (v := ?_) (a' := ?_) #[true, true, true, true, false, false, false, false] rfl rfl (take_ofW HT_.out HW_.out (by kernel_rfl)) (fun _ _ _ h => h) (Or.inl ⟨by rfl, ?_⟩) hHeld ?_ ?_
  rotate_left
  · rintro w' ⟨s0, s1, s2⟩
    go_simp
    try with_reducible rfl
  rotate_left
  · simp only [Act.put, List.setIfInBounds_toArray, List.set_cons_zero, List.set_cons_succ, i64_w, i32_w]
    rfl
  refine pure_ (i := 5) (N := some 12) (v := ?_) (a' := ?_) #[true, true, true, true, false, true, false, false] rfl rfl (any_of HT_.out (by kernel_rfl)) (fun _ _ _ h => h) (Or.inl ⟨by rfl, ?_⟩) ?_ ?_
  rotate_left
  · intro w'
    go_simp
    try with_reducible rfl
  rotate_left
  · simp only [Act.put, List.setIfInBounds_toArray, List.set_cons_zero, List.set_cons_succ, i64_w, i32_w]
    rfl
  refine take_ (i := 6) (N := some 13) (v := ?_) (a' := ?_) #[true, true, true, true, false, true, true, false] rfl rfl (take_ofW HT_.out HW_.out (by kernel_rfl)) (fun _ _ _ h => h) (Or.inl ⟨by rfl, ?_⟩) hHeld ?_ ?_
  rotate_left
  · rintro w' ⟨s0, s1, s2⟩
    go_simp
    try with_reducible rfl
  rotate_left
  · simp only [Act.put, List.setIfInBounds_toArray, List.set_cons_zero, List.set_cons_succ, i64_w, i32_w]
    rfl
  refine one_ (i := 4) (N := some 11) #[true, true, true, true, true, true, true, false] rfl rfl (one_of HT_.out (by kernel_rfl)) (by decide) (fun K hK => ?_)
  refine goes_ Tryd.func40 (by kernel_rfl) rfl #[.pointer pv] (by rfl) rfl rfl (by (try simp only [List.map_toArray, List.map_cons, List.map_nil]); first | done | rfl) ?_
  refine (HBY.out _ HS.out).mono ?_
  rintro e w3 ⟨rfl, hq⟩
  obtain rfl := hq.symm
  clear hq
  refine ⟨_, rfl, ?_⟩
  refine hK.out _ _ ⟨(blk_cell HBT.out 0).trans rfl, (blk_cell HBT.out 1).trans rfl, (blk_cell HBT.out 2).trans rfl⟩ (fun hHeld => ?_)
  clear hK K
  refine norm_ (a' := ?_) ?_ ?_
  rotate_left
  · show Act.put _ (some 11) _ = _
    simp only [Act.put, List.setIfInBounds_toArray, List.set_cons_zero, List.set_cons_succ, i64_w, i32_w]
    rfl
  refine last_ (i := 7) (N := some 14) #[true, true, true, true, true, true, true, true] rfl rfl (one_of HT_.out (by kernel_rfl)) (by decide) (fun K hK => ?_)
  refine goes_ Tryd.func57 (by kernel_rfl) rfl #[.pointer (some ⟨g, 0, none⟩), .agg #[.pointer pv, .int .i64 (i : Int), .bool f], .int .i64 (bb : Int), .bool f] (by rfl) rfl rfl (by (try simp only [List.map_toArray, List.map_cons, List.map_nil]); first | done | rfl) ?_
  refine (HPT.out _ HS.out).mono ?_
  rintro e w4 ⟨rfl, hp⟩
  refine ⟨_, rfl, ?_⟩
  have HP := Aside0.mk hp
  clear hp HS HBT
  refine hK.out _ _ ?_
  clear hK K
  refine done_ (done_of HT_.out (by kernel_rfl)) ?_
  clear hHeld
  go_end0
  exact ⟨rfl, HP.out⟩
/-- One box is laid. -/
theorem lay_ {w0 w : World} {g : Nat} {W : Int} {q : LS} {ts : List Tk} (h : PS w0 g W q ts (fun _ => True) w) {vd : Value} {d : D} (hd : DV w0 vd d) (i : Nat) (f : Bool) {I K X : Nat} (hL : Lb I K X (ts ++ [(d, i, f)]) q) (hI : I ≤ 1000000000) (hK : K ≤ 100000000000) (hX : X ≤ 100000000000) (hN : nT (ts ++ [(d, i, f)]) ≤ 1000000000) (hW : 0 ≤ W) (hW2 : W ≤ 1000000000000) :
    Calls Tryd.prog 49 #[.pointer (some ⟨g, 0, none⟩), .agg #[vd, .int .i64 (i : Int), .bool f]] w fun e w' => e = .returned (.tuple #[]) ∧ PS w0 g W (st1 W (d, i, f) q).1 (ts ++ (st1 W (d, i, f) q).2) (fun _ => True) w' := by
  by_cases k0 : kd d = 0
  · exact lay_text h hd i f hL hI hK hX hN hW hW2 k0
  by_cases k1 : kd d = 1
  · cases hf : f with
    | true => subst hf; exact lay_blankf h hd i true hL hI hK hX hN hW hW2 k1 rfl
    | false => subst hf; exact lay_blank h hd i false hL hI hK hX hN hW hW2 k1 rfl
  by_cases k2 : kd d = 2
  · cases hf : f with
    | true => subst hf; exact lay_tightf h hd i true hL hI hK hX hN hW hW2 k2 rfl
    | false => subst hf; exact lay_tight h hd i false hL hI hK hX hN hW hW2 k2 rfl
  by_cases k3 : kd d = 3
  · exact lay_hard h hd i f hL hI hK hX hN hW hW2 k3
  by_cases k6 : kd d = 6
  · cases hf : f with
    | true => subst hf; exact lay_groupf h hd i true hL hI hK hX hN hW hW2 k6 rfl
    | false => subst hf; exact lay_group h hd i false hL hI hK hX hN hW hW2 k6 rfl
  exact lay_other h hd i f hL hI hK hX hN hW hW2 k0 k1 k2 k3 k6
end Go.Proofs.YtjgaikmejccdkaaDoor.PDoc
