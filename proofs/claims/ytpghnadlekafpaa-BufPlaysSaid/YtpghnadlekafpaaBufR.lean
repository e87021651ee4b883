/- BufPlays: what turns a step, both ways; what is held in memory beside a buffer; the calls, told of these. -/
import Derived.Test.YtpghnadlekafpaaBufN
import Derived.Laws.IdiomStrings
namespace Go.Proofs.Ytpghnadlekafpaa.PBuf
open Go.RowKit Go.Proofs.YtpghnadlekafpaaW.PrintWords Go.Proofs.YtpghnadlekafpaaW.PrintLast Go.Proofs.YtpghnadlekafpaaW.PrintMore
set_option linter.unusedVariables false
set_option linter.unusedSimpArgs false
def sw (x : St) : St := ⟨x.f1, x.f0⟩
theorem sw_sw (x : St) : sw (sw x) = x := rfl
theorem back_step {m : Nat} {T t : List UInt8} {x : St} {r q : List St} {ts us : List (List UInt8)} (h : back m T (x :: r) (t :: ts)) (hT : T.length ≤ m) (hq : back m T (q.map sw) us) : back m t r ts ∧ back m t (sw x :: q.map sw) (T :: us) := by
  obtain ⟨h1, h2, h3, h4, h5, h6, h7, h8, h9, h10⟩ := h
  exact ⟨h10, h6, h8, h9, h7, hT, h1, h4, h2, h3, hq⟩
structure Pl (m kP kS : Nat) (P : List Pc) (past fut : List St) (ts us : List (List UInt8)) : Prop where
  t : (tx P).length ≤ m
  p : P.length ≤ kP
  a : past.length ≤ kS
  f : fut.length ≤ kS
  b : back m (tx P) past.reverse ts
  c : back m (tx P) (fut.reverse.map sw) us
theorem Pl.la {m kP kS : Nat} {P : List Pc} {past fut : List St} {ts us : List (List UInt8)} (h : Pl m kP kS P past fut ts us) : past.length = ts.length := by rw [← List.length_reverse, back_len h.b]
theorem Pl.lf {m kP kS : Nat} {P : List Pc} {past fut : List St} {ts us : List (List UInt8)} (h : Pl m kP kS P past fut ts us) : fut.length = us.length := by rw [← back_len h.c]; simp
theorem Pl.keep {m kP kS m' kS' : Nat} {P : List Pc} {past fut : List St} {ts us : List (List UInt8)} (h : Pl m kP kS P past fut ts us) (hm : m ≤ m') (hS : kS ≤ kS') : Pl m' kP kS' P past fut ts us :=
  ⟨Nat.le_trans h.t hm, h.p, Nat.le_trans h.a hS, Nat.le_trans h.f hS, back_mono hm h.b, back_mono hm h.c⟩
theorem tx_dosP (P : List Pc) (l : List X) (hr : rt ((tx P).length : Int) 0 l = true) : tx (dosP P l) = Ed.ap (tx P) 0 (tL l) ∧ (tx (dosP P l)).length ≤ (tx P).length + Ed.sz (tL l) := by
  have hR := rt_R (tx P).length l 0 (Int.le_refl 0) hr
  have hfo : fo (tx P) l = Ed.ap (tx P) 0 (tL l) := Ed.foldr_ap _ (tx P) rfl _ hR
  have hal := Ed.ap_len _ (tx P) rfl (tL l) 0 (Nat.zero_le _) hR
  have e1 : tx (dosP P l) = fo (tx P) l := tx_dos P l
  rw [e1, hfo]
  exact ⟨rfl, by omega⟩
theorem Pl.edit {m kP kS : Nat} {P : List Pc} {past fut : List St} {ts us : List (List UInt8)} (h : Pl m kP kS P past fut ts us) (l : List X) (hr : rt ((tx P).length : Int) 0 l = true) (hz : Ed.sz (tL l) ≤ 6000) (hl : l.length ≤ 60) (hk : kS < 1000) : Pl (m + 6000) (kP + 2 * l.length) (kS + 1) (dosP P l) (trim (past ++ [⟨l, tX (tb P) 0 0 l⟩])) [] (tx P :: ts) [] := by
  have ha := h.a
  have ht := h.t
  have hp := h.p
  have hd := (dos_len P (tx P).length l 0 hr).1
  have hx := (tx_dosP P l hr).2
  have e1 : tx (dosP P l) = fo (tx P) l := tx_dos P l
  have hbk := back_push (m := m + 6000) P l past.reverse ts (back_mono (by omega) h.b) hr (by omega) (by omega) (by omega)
  rw [trim_short _ (by simp; omega)]
  exact ⟨by omega, by omega, by simp; omega, by simp, by rw [e1, List.reverse_append]; exact hbk, trivial⟩
theorem Pl.undo {m kP kS : Nat} {P : List Pc} {past fut : List St} {ts us : List (List UInt8)} (h : Pl m kP kS P past fut ts us) {ys : List St} {x : St} (he : past = ys ++ [x]) (hk : kS < 1000) : ∃ t ts', ts = t :: ts' ∧ tx (dosP P x.f1) = t ∧ rt ((tx P).length : Int) 0 x.f1 = true ∧ Ed.sz (tL x.f1) ≤ m ∧ x.f1.length ≤ m ∧ Pl m (kP + 2 * x.f1.length) (kS + 1) (dosP P x.f1) ys (trim (fut ++ [x])) ts' (tx P :: us) := by
  subst he
  have hb := h.b
  rw [List.reverse_append] at hb
  cases ts with
  | nil => exact hb.elim
  | cons t ts =>
    have hb0 := hb
    obtain ⟨h1, h2, h3, h4, h5, -⟩ := hb0
    have e1 : tx (dosP P x.f1) = t := by rw [tx_dos]; exact h4
    have hd := (dos_len P _ x.f1 0 h1).1
    obtain ⟨g1, g2⟩ := back_step (r := ys.reverse) hb h.t h.c
    have hf := h.f
    have ha := h.a
    have hp := h.p
    rw [List.length_append, List.length_singleton] at ha
    refine ⟨t, ts, rfl, e1, h1, h2, h3, ?_⟩
    rw [trim_short _ (by simp; omega)]
    exact ⟨by rw [e1]; exact h5, by omega, by omega, by simp; omega, by rw [e1]; exact g1, by rw [e1, List.reverse_append]; exact g2⟩
theorem Pl.redo {m kP kS : Nat} {P : List Pc} {past fut : List St} {ts us : List (List UInt8)} (h : Pl m kP kS P past fut ts us) {ys : List St} {x : St} (he : fut = ys ++ [x]) (hk : kS < 1000) : ∃ t us', us = t :: us' ∧ tx (dosP P x.f0) = t ∧ rt ((tx P).length : Int) 0 x.f0 = true ∧ Ed.sz (tL x.f0) ≤ m ∧ x.f0.length ≤ m ∧ Pl m (kP + 2 * x.f0.length) (kS + 1) (dosP P x.f0) (trim (past ++ [x])) ys (tx P :: ts) us' := by
  subst he
  have hb := h.c
  rw [List.reverse_append, List.map_append] at hb
  cases us with
  | nil => exact hb.elim
  | cons t us =>
    have hb0 := hb
    obtain ⟨h1, h2, h3, h4, h5, -⟩ := hb0
    have e1 : tx (dosP P x.f0) = t := by rw [tx_dos]; exact h4
    have hd := (dos_len P _ x.f0 0 h1).1
    have hq : back m (tx P) ((past.reverse.map sw).map sw) ts := by
      have e : (past.reverse.map sw).map sw = past.reverse := by rw [List.map_map]; exact List.map_id' _
      rw [e]; exact h.b
    obtain ⟨g1, g2⟩ := back_step (x := sw x) (r := ys.reverse.map sw) hb h.t hq
    have e2 : (past.reverse.map sw).map sw = past.reverse := by rw [List.map_map]; exact List.map_id' _
    rw [e2] at g2
    have hf := h.f
    have ha := h.a
    have hp := h.p
    rw [List.length_append, List.length_singleton] at hf
    refine ⟨t, us, rfl, e1, h1, h2, h3, ?_⟩
    rw [trim_short _ (by simp; omega)]
    exact ⟨by rw [e1]; exact h5, by omega, by simp; omega, by omega, by rw [e1, List.reverse_append]; exact g2, by rw [e1]; exact g1⟩
theorem gw_bd (n : Int) : ∀ (l : List X) (a : Int), a ≤ n → rt n a l = true → gw l ≤ Ed.sz (tL l) ∧ -(n - a) ≤ gw l := by
  intro l
  induction l with
  | nil => intro a ha _; exact ⟨by simp [gw], by simp [gw]; omega⟩
  | cons e l ih =>
    intro a ha h
    obtain ⟨h1, h2, h3, h4⟩ := rt_cons h
    obtain ⟨g1, g2⟩ := ih e.f1 h3 h4
    have hcons : tL (e :: l) = tE e :: tL l := rfl
    rw [hcons]
    simp only [Ed.sz, tE, B_size, gw]
    omega
theorem gr_no {l : List X} (h : gr l = false) : l.length ≤ 30 ∧ ∀ e ∈ l, e.f2.size ≤ 100 := by
  unfold gr at h
  rw [Bool.or_eq_false_iff] at h
  obtain ⟨h1, h2⟩ := h
  refine ⟨by simp at h2; omega, fun e he => ?_⟩
  have := List.any_eq_false.1 h1 e he
  simp at this
  omega
theorem sz_100 {l : List X} (h : ∀ e ∈ l, e.f2.size ≤ 100) : Ed.sz (tL l) ≤ 100 * l.length := by
  induction l with
  | nil => simp [tL, Ed.sz]
  | cons e l ih =>
    have hcons : tL (e :: l) = tE e :: tL l := rfl
    have h1 := h e List.mem_cons_self
    have h2 := ih (fun x hx => h x (List.mem_cons_of_mem _ hx))
    rw [hcons]
    simp only [Ed.sz, tE, B_size, List.length_cons]
    omega
/-- From w to w': only blocks of buffers, or above b, are written. -/
def Mv (b : Nat) (w w' : World) : Prop := ∃ S, Fr S w w' ∧ Typed w S ∧ ∀ i, S i → b ≤ i
theorem Mv.of_below {b : Nat} {w w' : World} (h : Below w.heap.size w w') : Mv b w w' := ⟨fun _ => False, Fr.of_below h, fun _ h => h.elim, fun _ h => h.elim⟩
theorem Mv.of_foot {w w' : World} {base g : Nat} {Vp Vf Vl : Value} {n : Int} {P : List Pc} {past fut : List St} (hB : Bf w base g Vp Vf Vl n P past fut) (h : Fr (foot g Vp Vf) w w') : Mv base w w' := ⟨_, h, fun i hi => hB.foot_typed i hi, fun i hi => (hB.foot_lt i hi).2⟩
theorem Mv.below {b : Nat} {w0 w w' : World} (h : Mv b w w') (hw : Below b w0 w) (hb : b ≤ w.heap.size) : Below b w0 w' := by
  obtain ⟨S, h1, h2, h3⟩ := h
  exact hw.trans (h1.below h3 hb)
theorem Mv.size {b : Nat} {w w' : World} (h : Mv b w w') : w.heap.size ≤ w'.heap.size := by obtain ⟨S, h1, _⟩ := h; exact h1.size
theorem Mv.row {α : Type} {d : Kd α} {b e base : Nat} {ok : Nat → Prop} {w w' : World} {v : Value} {xs : List α} (h : Mv b w w') (hr : d.R e w base ok v xs) (hE : ∀ q, q ∈ e :: d.E → q ≠ 61 ∧ q ≠ 63) : d.R e w' base ok v xs := by
  obtain ⟨S, h1, h2, _⟩ := h
  exact R_typ hr hE h1 h2
theorem Mv.blk {b k q : Nat} {w w' : World} {cells : Array Value} (h : Mv b w w') (hc : w.heap[k]? = some (.cells cells q (0, 0))) (hq : q ≠ 61 ∧ q ≠ 63) : w'.heap[k]? = some (.cells cells q (0, 0)) := by
  obtain ⟨S, h1, h2, _⟩ := h
  exact (typ_stay h1 h2 (blk_lt hc) hc hq).trans hc
/-- A row of edits that is read: one's own, or one that was given. -/
def Rm (w0 w : World) (A : Option Addr) (c : Nat) (l : List X) : Prop := Kd.R kX 40 w w0.heap.size (fun _ => True) (.slice A l.length c) l ∨ (Kd.C kX w0 A l.length l ∧ l.length ≤ c ∧ Below w0.heap.size w0 w)
theorem Rm.c {w0 w : World} {A : Option Addr} {c : Nat} {l : List X} (h : Rm w0 w A c l) : Kd.C kX w A l.length l ∧ l.length ≤ c := by
  rcases h with h | ⟨h1, h2, h3⟩
  · obtain ⟨A', c', e, hl, hC⟩ := R_reads0 h
    injection e with e1 e2 e3
    subst e1; subst e3
    exact ⟨hC, hl⟩
  · exact ⟨Kd.C_below h1 h3, h2⟩
theorem Rm.mv {w0 w w' : World} {A : Option Addr} {c : Nat} {l : List X} (h : Rm w0 w A c l) (hm : Mv w0.heap.size w w') (hs : w0.heap.size ≤ w.heap.size) : Rm w0 w' A c l := by
  rcases h with h | ⟨h1, h2, h3⟩
  · exact .inl (hm.row h (by rw [show kX.E = [] from rfl]; decide))
  · exact .inr ⟨h1, h2, hm.below h3 hs⟩
/-- What is held: the buffer, and two rows of texts. -/
structure Ms (w0 : World) (g : Nat) (Vp Vf Vl : Value) (n : Int) (P : List Pc) (past fut : List St) (v7 : Value) (ss : List ByteArray) (v8 : Value) (us : List ByteArray) (w : World) : Prop where
  b : Bf w w0.heap.size g Vp Vf Vl n P past fut
  p : Kd.R Kd.string 9 w w0.heap.size (fun _ => True) v7 ss
  f : Kd.R Kd.string 9 w w0.heap.size (fun _ => True) v8 us
  w : Below w0.heap.size w0 w
section
variable {w0 w w' : World} {g : Nat} {Vp Vf Vl Vp' Vf' Vl' : Value} {n n' : Int} {P P' : List Pc} {past fut past' fut' : List St} {v7 v8 v7' v8' : Value} {ss us ss' us' : List ByteArray}
theorem Ms.below (h : Ms w0 g Vp Vf Vl n P past fut v7 ss v8 us w) (hb : Below w.heap.size w w') : Ms w0 g Vp Vf Vl n P past fut v7 ss v8 us w' := ⟨h.b.below hb, Kd.R_below h.p hb, Kd.R_below h.f hb, below_step h.w hb⟩
theorem Ms.buf (h : Ms w0 g Vp Vf Vl n P past fut v7 ss v8 us w) (hB : Bf w' w0.heap.size g Vp' Vf' Vl' n' P' past' fut') (hf : Fr (foot g Vp Vf) w w') : Ms w0 g Vp' Vf' Vl' n' P' past' fut' v7 ss v8 us w' ∧ Mv w0.heap.size w w' := by
  have hm := Mv.of_foot h.b hf
  exact ⟨⟨hB, hm.row h.p (by rw [show Kd.string.E = [] from rfl]; decide), hm.row h.f (by rw [show Kd.string.E = [] from rfl]; decide), hm.below h.w h.w.size⟩, hm⟩
theorem Ms.past_ (h : Ms w0 g Vp Vf Vl n P past fut v7 ss v8 us w) (hb : Below w.heap.size w w') (hr : Kd.R Kd.string 9 w' w.heap.size (fun _ => True) v7' ss') : Ms w0 g Vp Vf Vl n P past fut v7' ss' v8 us w' := ⟨h.b.below hb, Kd.R_lower hr h.w.size, Kd.R_below h.f hb, below_step h.w hb⟩
theorem Ms.fut_ (h : Ms w0 g Vp Vf Vl n P past fut v7 ss v8 us w) (hb : Below w.heap.size w w') (hr : Kd.R Kd.string 9 w' w.heap.size (fun _ => True) v8' us') : Ms w0 g Vp Vf Vl n P past fut v7 ss v8' us' w' := ⟨h.b.below hb, Kd.R_below h.p hb, Kd.R_lower hr h.w.size, below_step h.w hb⟩
theorem Ms.fnil (h : Ms w0 g Vp Vf Vl n P past fut v7 ss v8 us w) : Ms w0 g Vp Vf Vl n P past fut v7 ss (.slice none 0 0) [] w := ⟨h.b, h.p, Kd.R_nil _ _ _ _ _, h.w⟩
theorem Ms.text (h : Ms w0 g Vp Vf Vl n P past fut v7 ss v8 us w) (T : ByteArray) (hT : T = tb P) (hp : P.length ≤ 1000000000) (ht : (tx P).length ≤ 1000000000) : Calls Try.prog 16 #[.pointer (some ⟨g, 0, none⟩)] w fun e w' => e = .returned (.string T) ∧ Ms w0 g Vp Vf Vl n P past fut v7 ss v8 us w' := by
  refine (Text h.b (by omega) (by omega)).mono ?_
  rintro e w' ⟨rfl, hb⟩
  exact ⟨by rw [hT], h.below hb⟩
theorem Ms.len (h : Ms w0 g Vp Vf Vl n P past fut v7 ss v8 us w) (T : ByteArray) (hT : T = tb P) : Calls Try.prog 13 #[.pointer (some ⟨g, 0, none⟩)] w fun e w' => e = .returned (.int .i64 (T.size : Int)) ∧ Ms w0 g Vp Vf Vl n P past fut v7 ss v8 us w' := by
  refine (Len h.b).mono ?_
  rintro e w' ⟨rfl, hb⟩
  exact ⟨by rw [hT, tb_size, h.b.n], h.below hb⟩
theorem Ms.pastc (h : Ms w0 g Vp Vf Vl n P past fut v7 ss v8 us w) (k : Nat) (hk : past.length = k) : Calls Try.prog 11 #[.pointer (some ⟨g, 0, none⟩)] w fun e w' => e = .returned (.int .i64 (k : Int)) ∧ Ms w0 g Vp Vf Vl n P past fut v7 ss v8 us w' := by
  refine (Past h.b).mono ?_
  rintro e w' ⟨rfl, hb⟩
  exact ⟨by rw [hk], h.below hb⟩
theorem Ms.futurec (h : Ms w0 g Vp Vf Vl n P past fut v7 ss v8 us w) (k : Nat) (hk : fut.length = k) : Calls Try.prog 17 #[.pointer (some ⟨g, 0, none⟩)] w fun e w' => e = .returned (.int .i64 (k : Int)) ∧ Ms w0 g Vp Vf Vl n P past fut v7 ss v8 us w' := by
  refine (Future h.b).mono ?_
  rintro e w' ⟨rfl, hb⟩
  exact ⟨by rw [hk], h.below hb⟩
theorem Ms.pieces (h : Ms w0 g Vp Vf Vl n P past fut v7 ss v8 us w) : Calls Try.prog 23 #[.pointer (some ⟨g, 0, none⟩)] w fun e w' => e = .returned (.int .i64 (P.length : Int)) ∧ Ms w0 g Vp Vf Vl n P past fut v7 ss v8 us w' := by
  refine (Pieces h.b).mono ?_
  rintro e w' ⟨rfl, hb⟩
  exact ⟨rfl, h.below hb⟩
/-- Edits that are right are done; a Splice is that of the one edit. -/
theorem Ms.apply (h : Ms w0 g Vp Vf Vl n P past fut v7 ss v8 us w) {A : Option Addr} {c : Nat} {l : List X} (hm : Rm w0 w A c l) (hr : rt ((tx P).length : Int) 0 l = true) (hl : l.length ≤ 60) (hz : ∀ e ∈ l, e.f2.size ≤ 100) (ht : (tx P).length ≤ 1000000) (hP : P.length ≤ 1000000000) (hpl : past.length ≤ 1000000) : Calls Try.prog 15 #[.pointer (some ⟨g, 0, none⟩), .slice A l.length c] w fun e w' => e = .returned (.int .i64 0) ∧ ∃ Vp' Vl' n', Ms w0 g Vp' (.slice none 0 0) Vl' n' (dosP P l) (trim (past ++ [⟨l, tX (tb P) 0 0 l⟩])) [] v7 ss v8 us w' ∧ Mv w0.heap.size w w' := by
  have hn := h.b.n
  have hg := gw_bd _ l 0 (by omega) hr
  have hs := sz_100 hz
  rw [← hn] at hr hg
  refine (Apply_yes h.b A c l hm.c.1 hm.c.2 (by omega) (by omega) hr (fun e he => by have := hz e he; omega) (by omega) (by omega) h.w.size hP hpl).mono ?_
  rintro e w' ⟨rfl, Vp', Vl', n', h1, h2, -⟩
  obtain ⟨h3, h4⟩ := h.buf h1 h2
  exact ⟨rfl, Vp', Vl', n', h3, h4⟩
theorem Ms.apply_no (h : Ms w0 g Vp Vf Vl n P past fut v7 ss v8 us w) {A : Option Addr} {c : Nat} {l : List X} (hm : Rm w0 w A c l) (hr : rt ((tx P).length : Int) 0 l = false) (hl : l.length ≤ 60) : Calls Try.prog 15 #[.pointer (some ⟨g, 0, none⟩), .slice A l.length c] w fun e w' => e = .returned (.int .i64 2) ∧ Ms w0 g Vp Vf Vl n P past fut v7 ss v8 us w' := by
  refine (Apply_range h.b A c l hm.c.1 hm.c.2 (by omega) (by rw [h.b.n]; exact hr)).mono ?_
  rintro e w' ⟨rfl, hb⟩
  exact ⟨rfl, h.below hb⟩
theorem Ms.splice (h : Ms w0 g Vp Vf Vl n P past fut v7 ss v8 us w) {x y : Int} {t : ByteArray} {l : List X} (hl : l = [⟨x, y, t⟩]) (hr : rt ((tx P).length : Int) 0 l = true) (hz : ∀ e ∈ l, e.f2.size ≤ 100) (ht : (tx P).length ≤ 1000000) (hP : P.length ≤ 1000000000) (hpl : past.length ≤ 1000000) : Calls Try.prog 10 #[.pointer (some ⟨g, 0, none⟩), .int .i64 x, .int .i64 y, .string t] w fun e w' => e = .returned (.int .i64 0) ∧ ∃ Vp' Vl' n', Ms w0 g Vp' (.slice none 0 0) Vl' n' (dosP P l) (trim (past ++ [⟨l, tX (tb P) 0 0 l⟩])) [] v7 ss v8 us w' ∧ Mv w0.heap.size w w' := by
  subst hl
  have hn := h.b.n
  have hg := gw_bd _ _ 0 (by omega) hr
  have hs := sz_100 hz
  simp only [List.length_singleton] at hs
  rw [← hn] at hr hg
  refine (Splice_yes h.b x y t (by omega) hr (by have := hz _ List.mem_cons_self; dsimp only at this; omega) (by omega) h.w.size hP hpl).mono ?_
  rintro e w' ⟨z, rfl, rfl, Vp', Vl', n', h1, h2, -⟩
  obtain ⟨h3, h4⟩ := h.buf h1 h2
  exact ⟨rfl, Vp', Vl', n', h3, h4⟩
theorem Ms.splice_no (h : Ms w0 g Vp Vf Vl n P past fut v7 ss v8 us w) {x y : Int} {t : ByteArray} {l : List X} (hl : l = [⟨x, y, t⟩]) (hr : rt ((tx P).length : Int) 0 l = false) : Calls Try.prog 10 #[.pointer (some ⟨g, 0, none⟩), .int .i64 x, .int .i64 y, .string t] w fun e w' => e = .returned (.int .i64 2) ∧ Ms w0 g Vp Vf Vl n P past fut v7 ss v8 us w' := by
  subst hl
  refine (Splice_range h.b x y t (by rw [h.b.n]; exact hr)).mono ?_
  rintro e w' ⟨z, rfl, rfl, hb⟩
  exact ⟨rfl, h.below hb⟩
theorem Ms.undo {ys : List St} {x : St} (h : Ms w0 g Vp Vf Vl n P (ys ++ [x]) fut v7 ss v8 us w) {m : Nat} (hm : m ≤ 1000000) (hr : rt ((tx P).length : Int) 0 x.f1 = true) (hs : Ed.sz (tL x.f1) ≤ m) (hl : x.f1.length ≤ m) (ht : (tx P).length ≤ 1000000) (hP : P.length ≤ 1000000000) (ha : ys.length ≤ 1000) (hf : fut.length ≤ 1000) : Calls Try.prog 12 #[.pointer (some ⟨g, 0, none⟩)] w fun e w' => ∃ A c, e = .returned (.tuple #[.slice A x.f1.length c, .bool true]) ∧ Rm w0 w' A c x.f1 ∧ ∃ Vp' Vf' Vl' n', Ms w0 g Vp' Vf' Vl' n' (dosP P x.f1) ys (trim (fut ++ [x])) v7 ss v8 us w' ∧ Mv w0.heap.size w w' := by
  refine (Undo_yes h.b h.w.size (by omega) (by omega) (by omega) (okAt_big P _ rfl (by omega) (by omega) x.f1 0 (Int.le_refl 0) hr (by omega) (by omega))).mono ?_
  rintro e w' ⟨Vr, Va', Vb', Vl', n', rfl, hR, h1, h2, -⟩
  obtain ⟨A, c, rfl, -⟩ := R_slice0 hR
  obtain ⟨h3, h4⟩ := h.buf h1 h2
  exact ⟨A, c, rfl, .inl (Kd.R_lower hR h.w.size), Va', Vb', Vl', n', h3, h4⟩
theorem Ms.undo_no (h : Ms w0 g Vp Vf Vl n P [] fut v7 ss v8 us w) : Calls Try.prog 12 #[.pointer (some ⟨g, 0, none⟩)] w fun e w' => e = .returned (.tuple #[.slice none 0 0, .bool false]) ∧ Ms w0 g Vp Vf Vl n P [] fut v7 ss v8 us w' := by
  refine (Undo_no h.b).mono ?_
  rintro e w' ⟨rfl, hb⟩
  exact ⟨rfl, h.below hb⟩
theorem Ms.redo {ys : List St} {x : St} (h : Ms w0 g Vp Vf Vl n P past (ys ++ [x]) v7 ss v8 us w) {m : Nat} (hm : m ≤ 1000000) (hr : rt ((tx P).length : Int) 0 x.f0 = true) (hs : Ed.sz (tL x.f0) ≤ m) (hl : x.f0.length ≤ m) (ht : (tx P).length ≤ 1000000) (hP : P.length ≤ 1000000000) (ha : ys.length ≤ 1000) (hf : past.length ≤ 1000) : Calls Try.prog 22 #[.pointer (some ⟨g, 0, none⟩)] w fun e w' => ∃ A c, e = .returned (.tuple #[.slice A x.f0.length c, .bool true]) ∧ Rm w0 w' A c x.f0 ∧ ∃ Vp' Vf' Vl' n', Ms w0 g Vp' Vf' Vl' n' (dosP P x.f0) (trim (past ++ [x])) ys v7 ss v8 us w' ∧ Mv w0.heap.size w w' := by
  refine (Redo_yes h.b h.w.size (by omega) (by omega) (by omega) (okAt_big P _ rfl (by omega) (by omega) x.f0 0 (Int.le_refl 0) hr (by omega) (by omega))).mono ?_
  rintro e w' ⟨Vr, Va', Vb', Vl', n', rfl, hR, h1, h2, -⟩
  obtain ⟨A, c, rfl, -⟩ := R_slice0 hR
  obtain ⟨h3, h4⟩ := h.buf h1 h2
  exact ⟨A, c, rfl, .inl (Kd.R_lower hR h.w.size), Vb', Va', Vl', n', h3, h4⟩
theorem Ms.redo_no (h : Ms w0 g Vp Vf Vl n P past [] v7 ss v8 us w) : Calls Try.prog 22 #[.pointer (some ⟨g, 0, none⟩)] w fun e w' => e = .returned (.tuple #[.slice none 0 0, .bool false]) ∧ Ms w0 g Vp Vf Vl n P past [] v7 ss v8 us w' := by
  refine (Redo_no h.b).mono ?_
  rintro e w' ⟨rfl, hb⟩
  exact ⟨rfl, h.below hb⟩
end
/-- The document's answer: are edits right, and what do they make? -/
theorem refRight_ {w0 w : World} (P : List Pc) (T : ByteArray) (hT : T = tb P) {A : Option Addr} {c : Nat} {l : List X} (hm : Rm w0 w A c l) (hl : l.length ≤ 10000000) : Calls Try.prog 20 #[.int .i64 (T.size : Int), .slice A l.length c] w fun e w' => e = .returned (.bool (rt ((tx P).length : Int) 0 l)) ∧ Below w.heap.size w w' := by
  refine (frisketref01_Right.calls (l.length + 1) (T.size : Int) A c l _ w hm.c.1 hm.c.2 (refRight_eq _ l _ (by omega) (by omega))).mono ?_
  rintro e w' ⟨rfl, hb⟩
  exact ⟨by rw [hT, tb_size], hb.below⟩
theorem refApply_ {w0 w : World} (P : List Pc) (T T' : ByteArray) (hT : T = tb P) {A : Option Addr} {c : Nat} {l : List X} (hT' : T' = tb (dosP P l)) (hm : Rm w0 w A c l) (hr : rt ((tx P).length : Int) 0 l = true) (hl : l.length ≤ 10000000) (ht : (tx P).length ≤ 100000000) (hz : Ed.sz (tL l) ≤ 100000000) : Calls Try.prog 21 #[.string T, .slice A l.length c] w fun e w' => e = .returned (.string T') ∧ Below w.heap.size w w' := by
  subst hT; subst hT'
  refine (frisketref01_Apply.calls (l.length + 1) (tb P) A c l _ w hm.c.1 hm.c.2 (refApply_eq _ l _ (by omega) (by omega) (by rw [tb_size]; exact hr) (by rw [tb_size]; omega))).mono ?_
  rintro e w' ⟨rfl, hb⟩
  exact ⟨by rw [B_tb, ← (tx_dosP P l hr).1], hb.below⟩
abbrev mkb (t : List UInt8) : ByteArray := ⟨t.toArray⟩
theorem tb_one (s : ByteArray) : s = tb [⟨s⟩] := by
  refine B_inj ?_
  rw [B_tb]
  simp [tx, tP, Bu.jn]
theorem last_or {α : Type} (l : List α) : l = [] ∨ ∃ ys x, l = ys ++ [x] := by
  cases hr : l.reverse with
  | nil => exact .inl (by simpa using hr)
  | cons x r => exact .inr ⟨r.reverse, x, by rw [← List.reverse_reverse l, hr]; simp⟩
theorem R_c {α : Type} {d : Kd α} {e base n c : Nat} {ok : Nat → Prop} {w : World} {A : Option Addr} {xs : List α} (h : d.R e w base ok (.slice A n c) xs) : d.C w A n xs ∧ n = xs.length ∧ n ≤ c := by
  obtain ⟨A', c', he, hl, hC⟩ := R_reads0 h
  injection he with e1 e2 e3
  subst e1; subst e2; subst e3
  exact ⟨hC, rfl, hl⟩
theorem R_some {e base n c : Nat} {ok : Nat → Prop} {w : World} {A : Option Addr} {ys : List ByteArray} {t : ByteArray} (h : Kd.R Kd.string e w base ok (.slice A n c) (ys ++ [t])) : ∃ ad, A = some ad ∧ w.cell? (ad.add ys.length) = some (.string t) := by
  obtain ⟨hC, hn, -⟩ := R_c h
  rw [List.length_append, List.length_singleton] at hn
  obtain ⟨ad, cl, e1, _, hK, hc⟩ := Kd.C_get hC (⟨#[]⟩ : ByteArray) (ys.length : Int) (by omega) (by omega)
  refine ⟨ad, e1, ?_⟩
  obtain rfl : cl = [.string ((ys ++ [t]).getD (ys.length : Int).toNat ⟨#[]⟩)] := hK
  have := hc 0 _ rfl
  rw [show Kd.string.sz = 1 from rfl, Nat.mul_one, Nat.add_zero, Int.toNat_natCast] at this
  rw [this]
  simp [List.getD]
theorem R_cut {e base n c : Nat} {ok : Nat → Prop} {w : World} {A : Option Addr} {ys : List ByteArray} {t : ByteArray} (h : Kd.R Kd.string e w base ok (.slice A n c) (ys ++ [t])) : Kd.R Kd.string e w base ok (.slice A ys.length c) ys := by
  have := Kd.R_take h (m := ys.length) (by simp)
  rwa [List.take_left' rfl] at this
theorem info9 : (Try.prog.info? 9).map (fun i => (i.zero, i.size, i.bytes)) = some (some (.string ⟨#[]⟩), 1, 16) := by kernel_rfl
section
variable {ops : Array Oper} {rest : List Oper} {o : Oper} {a : Go.Act} {Q : Exit → Go.Act → World → Prop} {W W0 : World}
theorem st_lit (hg : o.guard = none) {N : Tmp} (hd : o.dst = some N) (ho : o.op = .buildSlice 48 0 #[]) (h : ∀ A c w1, Kd.R Kd.string 9 w1 W.heap.size (fun _ => True) (.slice A 0 c) [] → Below W.heap.size W w1 → wpList Try.prog ops Q rest (a.put o.dst (.slice A 0 c)) w1) : wpList Try.prog ops Q (o :: rest) a W := by
  refine Kd.R_lit Kd.string (w0 := W) W.heap.size 9 hg hd (xs := ([] : List ByteArray)) (inner := []) (ok := fun _ => True) (okp := fun _ => True) ?_ (Reps.none _ _) (fun _ h => h) trivial (Below.refl _ _) (Nat.le_refl _) (by simp) ?_
  · simp [execOp, ho]
    first | (go_simp; done) | (go_simp; rfl)
  · intro v1 w1 hR hB _ _
    obtain ⟨A, c, rfl, -⟩ := R_slice0 hR
    exact h A c w1 hR hB
theorem st_rows (hg : o.guard = none) (s x : Operand) (ho : o.op = .call { callee := .builtin .append, args := #[s, x], argTypes := #[48, 48] }) {As A : Option Addr} {cs m c : Nat} {ys : List ByteArray} (hs : a.eval s = .slice As 0 cs) (hx : a.eval x = .slice A m c) (HO : Kd.R Kd.string 9 W W0.heap.size (fun _ => True) (.slice As 0 cs) []) (HC : Kd.C Kd.string W A m ys) (HB : Below W0.heap.size W0 W) (hl : m ≤ 1000000)
    (h : ∀ A1 n1 c1 w1, Kd.R Kd.string 9 w1 W0.heap.size (fun _ => True) (.slice A1 n1 c1) ys → Below W0.heap.size W0 w1 → wpList Try.prog ops Q rest (a.put o.dst (.slice A1 n1 c1)) w1) : wpList Try.prog ops Q (o :: rest) a W := by
  refine Kd.R_append_rows Kd.string (Rr := Kd.string.K W) (w0 := W0) W0.heap.size hg s x 48 9 (.string ⟨#[]⟩) 16 ho Try.underlying48 info9 rfl (by decide) (by omega) (.slice As 0 cs) [] ys A m c (fun _ => True) (fun _ => False) hs hx HO HC (fun x cs h => h) (fun _ h => h.elim) (fun _ _ => trivial) HB HB.size (by simp only [List.length_nil]; omega) ?_
  intro v1 w1 hR hB _ _
  rw [List.nil_append] at hR
  obtain ⟨A1, c1, rfl, -⟩ := R_slice0 hR
  exact h A1 _ c1 w1 hR hB
theorem st_one (hg : o.guard = none) (s x : Operand) (ho : o.op = .call { callee := .builtin .append, args := #[s, x], argTypes := #[48, 48] }) {As : Option Addr} {ns cs : Nat} {ys : List ByteArray} (hs : a.eval s = .slice As ns cs) (hx : a.eval x = .slice (some ⟨W.heap.size, 0, none⟩) 1 1) (HO : Kd.R Kd.string 9 W W0.heap.size (fun _ => True) (.slice As ns cs) ys) (HB : Below W0.heap.size W0 W) (hl : ys.length ≤ 1000000) (t : ByteArray)
    (h : ∀ A1 c1 w1 ys', ys' = ys ++ [t] → Kd.R Kd.string 9 w1 W0.heap.size (fun _ => True) (.slice A1 ys'.length c1) ys' → Below W0.heap.size W0 w1 → wpList Try.prog ops Q rest (a.put o.dst (.slice A1 ys'.length c1)) w1) : wpList Try.prog ops Q (o :: rest) a (W.alloc (.cells #[.string t] 9)) := by
  refine Kd.R_append Kd.string (w0 := W0) W0.heap.size hg s x 48 9 (.string ⟨#[]⟩) 16 ho Try.underlying48 info9 rfl (by decide) (by omega) (.slice As ns cs) ys t [.string t] (fun _ => True) (fun _ => False) hs hx rfl (fun _ h => h.elim) (fun _ _ => trivial) HO HB HB.size (by omega) ?_
  intro v1 w1 hR hB _ _
  obtain ⟨A1, c1, rfl, -⟩ := R_slice0 hR
  exact h A1 c1 w1 _ rfl hR hB
theorem ed_lit (hg : o.guard = none) {N : Tmp} (hd : o.dst = some N) (u : Operand) (ho : o.op = .buildSlice 29 1 #[(0, u)]) (x y : Int) (t : ByteArray) (hu : a.eval u = .agg #[.int .i64 x, .int .i64 y, .string t]) (h : ∀ A c w1 l, l = [(⟨x, y, t⟩ : X)] → Kd.R kX 40 w1 W.heap.size (fun _ => True) (.slice A l.length c) l → Below W.heap.size W w1 → wpList Try.prog ops Q rest (a.put o.dst (.slice A l.length c)) w1) : wpList Try.prog ops Q (o :: rest) a W := by
  refine Kd.R_lit kX (w0 := W) W.heap.size 40 hg hd (xs := [(⟨x, y, t⟩ : X)]) (inner := [.int .i64 x, .int .i64 y, .string t]) (ok := fun _ => True) (okp := fun _ => True) ?_ (Reps.c3 (show Kd.M kX _ _ _ (⟨x, y, t⟩ : X) [.int .i64 x, .int .i64 y, .string t] from (k40_mkM _ _ _ (⟨x, y, t⟩ : X))) (Reps.none _ _)) (fun _ h => h) trivial (Below.refl _ _) (Nat.le_refl _) (by simp) ?_
  · simp [execOp, ho, hu]
    first | (go_simp; done) | (go_simp; rfl)
  · intro v1 w1 hR hB _ _
    obtain ⟨A, c, rfl, -⟩ := R_slice0 hR
    exact h A c w1 _ rfl hR hB
end
end Go.Proofs.Ytpghnadlekafpaa.PBuf
