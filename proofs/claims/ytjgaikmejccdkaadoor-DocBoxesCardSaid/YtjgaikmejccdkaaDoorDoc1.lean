/- Layer 24, boxes in memory: what a pointer to a box says; what is known of a box. -/
import Derived.Test.YtjgaikmejccdkaaDoorPDocx0
namespace Go.Proofs.YtjgaikmejccdkaaDoor.PDoc
open Go.RowKit Go.Proofs.YtjgaikmejccdkaaDoorW.PrintWords Go.Proofs.YtjgaikmejccdkaaDoorW.PrintLast Go.Proofs.YtjgaikmejccdkaaDoorW.PrintMore
set_option linter.unusedVariables false
set_option linter.unusedSimpArgs false
/-- A pointer, nil or to one thing of type T. -/
def ptrK {α : Type} (T : Nat) (d : Kd α) : Kd (Option α) where
  sz := 1
  E := T :: d.E
  K := fun w x cs => match x with
    | none => cs = [.pointer none]
    | some y => ∃ g cells, cs = [.pointer (some ⟨g, 0, none⟩)] ∧ w.heap[g]? = some (.cells cells T (0, 0)) ∧ d.K w y cells.toList
  M := fun w base ok x cs => match x with
    | none => cs = [.pointer none]
    | some y => ∃ g cells, cs = [.pointer (some ⟨g, 0, none⟩)] ∧ ok g ∧ base ≤ g ∧ w.heap[g]? = some (.cells cells T (0, 0)) ∧ d.M w base ok y cells.toList
  K_len := by
    intro w x cs h
    cases x with
    | none => cases h; rfl
    | some y => obtain ⟨g, cells, rfl, _⟩ := h; rfl
  K_one := by
    intro w x cs h u hu
    cases x with
    | none => cases h; rw [List.mem_singleton.1 hu]; rfl
    | some y => obtain ⟨g, cells, rfl, _⟩ := h; rw [List.mem_singleton.1 hu]; rfl
  K_below := by
    intro w w1 x cs hb h
    cases x with
    | none => exact h
    | some y =>
      obtain ⟨g, cells, rfl, hg, hd⟩ := h
      exact ⟨g, cells, rfl, (hb.block g (Array.getElem?_eq_some_iff.1 hg).1).trans hg, d.K_below hb hd⟩
  K_of_M := by
    intro w base ok x cs h
    cases x with
    | none => exact h
    | some y => obtain ⟨g, cells, rfl, _, _, hg, hd⟩ := h; exact ⟨g, cells, rfl, hg, d.K_of_M hd⟩
  M_mono := by
    intro w base ok ok' x cs hok h
    cases x with
    | none => exact h
    | some y => obtain ⟨g, cells, rfl, h1, h2, hg, hd⟩ := h; exact ⟨g, cells, rfl, hok g h1, h2, hg, d.M_mono hok hd⟩
  M_bound := by
    intro w base ok x cs h
    cases x with
    | none => exact h
    | some y =>
      obtain ⟨g, cells, rfl, h1, h2, hg, hd⟩ := h
      refine ⟨g, cells, rfl, ⟨h1, h2, (Array.getElem?_eq_some_iff.1 hg).1, T, List.mem_cons_self, cells, hg⟩, h2, hg, d.M_mono ?_ (d.M_bound hd)⟩
      rintro k ⟨h3, h4, h5, q, hq, hc⟩
      exact ⟨h3, h4, h5, q, List.mem_cons_of_mem _ hq, hc⟩
  M_move := by
    intro w w1 base ok x cs hm h
    cases x with
    | none => exact h
    | some y => obtain ⟨g, cells, rfl, h1, h2, hg, hd⟩ := h; exact ⟨g, cells, rfl, h1, h2, (hm g h1).trans hg, d.M_move hm hd⟩
  M_lower := by
    intro w base base' ok x cs hb h
    cases x with
    | none => exact h
    | some y => obtain ⟨g, cells, rfl, h1, h2, hg, hd⟩ := h; exact ⟨g, cells, rfl, h1, Nat.le_trans hb h2, hg, d.M_lower hb hd⟩
theorem mono_ptr {α β : Type} (T : Nat) {G : Kd α → Kd β} (hG : Kd.Mono G) : Kd.Mono (fun d => ptrK T (G d)) := by
  refine ⟨fun _ _ _ => rfl, ?_, ?_⟩
  · intro d d' hs h w x cs hx
    cases x with
    | none => exact hx
    | some y => obtain ⟨g, cells, rfl, hg, hd⟩ := hx; exact ⟨g, cells, rfl, hg, hG.K d d' hs h _ _ _ hd⟩
  · intro d d' hs h w base ok x cs hx
    cases x with
    | none => exact hx
    | some y => obtain ⟨g, cells, rfl, h1, h2, hg, hd⟩ := hx; exact ⟨g, cells, rfl, h1, h2, hg, hG.M d d' hs h _ _ _ _ _ hd⟩
theorem sub_ptr {α β : Type} {E : List Nat} (T : Nat) {G : Kd α → Kd β} (he : T ∈ E) (hG : Kd.Sub G E) : Kd.Sub (fun d => ptrK T (G d)) E := fun d h q hq => by
  rcases List.mem_cons.1 hq with rfl | hq
  · exact he
  · exact hG d h q hq
/-- A box: width, whether it can't be flat, size; kind, text, indent, parts. -/
structure SD where
  w : Int
  h : Bool
  s : Int
  k : Int
  t : ByteArray
  b : Int
  l : List (Option SD)
abbrev D := Option SD
def FD (d : Kd D) : Kd D := ptrK 65 (Kd.iso (Kd.pair (Kd.int .i64) (Kd.pair Kd.bool (Kd.pair (Kd.int .i64) (Kd.pair (Kd.int .i64) (Kd.pair Kd.string (Kd.pair (Kd.int .i64) (Kd.slice 24 d))))))) (fun x : SD => (x.w, x.h, x.s, x.k, x.t, x.b, x.l)))
theorem monoD : Kd.Mono FD := mono_ptr _ (Kd.mono_iso _ (Kd.mono_pair (Kd.mono_const _) (Kd.mono_pair (Kd.mono_const _) (Kd.mono_pair (Kd.mono_const _) (Kd.mono_pair (Kd.mono_const _) (Kd.mono_pair (Kd.mono_const _) (Kd.mono_pair (Kd.mono_const _) (Kd.mono_slice 24 Kd.mono_id))))))))
theorem subD : Kd.Sub FD [65, 24] := sub_ptr _ (by decide) (Kd.sub_iso _ (Kd.sub_pair (Kd.sub_const _ (by decide)) (Kd.sub_pair (Kd.sub_const _ (by decide)) (Kd.sub_pair (Kd.sub_const _ (by decide)) (Kd.sub_pair (Kd.sub_const _ (by decide)) (Kd.sub_pair (Kd.sub_const _ (by decide)) (Kd.sub_pair (Kd.sub_const _ (by decide)) (Kd.sub_slice 24 (by decide) Kd.sub_id))))))))
theorem szD : ∀ n, (Kd.upto FD 1 [65, 24] n).sz = 1 := Kd.upto_sz (fun _ => rfl)
def kD : Kd D := Kd.fix FD 1 [65, 24] szD (Kd.upto_E subD)
theorem kD_none {w : World} : kD.K w none [.pointer none] := ⟨1, rfl⟩
theorem kD_nil {w : World} {cs : List Value} (h : kD.K w none cs) : cs = [.pointer none] := by
  obtain ⟨n, h⟩ := h
  cases n with
  | zero => exact h.elim
  | succ n => exact h
theorem kD_open {w : World} {x : SD} {cs : List Value} (h : kD.K w (some x) cs) : ∃ g A c, cs = [.pointer (some ⟨g, 0, none⟩)] ∧ w.heap[g]? = some (.cells #[.int .i64 x.w, .bool x.h, .int .i64 x.s, .int .i64 x.k, .string x.t, .int .i64 x.b, .slice A x.l.length c] 65 (0, 0)) ∧ x.l.length ≤ c ∧ kD.C w A x.l.length x.l := by
  obtain ⟨n, h⟩ := h
  cases n with
  | zero => exact h.elim
  | succ n =>
    obtain ⟨g, cells, rfl, hg, hd⟩ := h
    obtain ⟨_, _, hc, rfl, ⟨_, _, rfl, rfl, ⟨_, _, rfl, rfl, ⟨_, _, rfl, rfl, ⟨_, _, rfl, rfl, ⟨_, _, rfl, rfl, ⟨A, c, rfl, hl, hC⟩⟩⟩⟩⟩⟩⟩ := hd
    obtain rfl : cells = _ := Array.toList_inj.1 hc
    exact ⟨g, A, c, rfl, hg, hl, Kd.fix_C hC⟩
theorem kD_mk {w : World} {x : SD} {g : Nat} {A : Option Addr} {c : Nat} (hg : w.heap[g]? = some (.cells #[.int .i64 x.w, .bool x.h, .int .i64 x.s, .int .i64 x.k, .string x.t, .int .i64 x.b, .slice A x.l.length c] 65 (0, 0))) (hl : x.l.length ≤ c) (hC : kD.C w A x.l.length x.l) : kD.K w (some x) [.pointer (some ⟨g, 0, none⟩)] := by
  obtain ⟨n, hC⟩ := Kd.fix_C_back monoD hC
  exact ⟨n + 1, g, _, rfl, hg, [.int .i64 x.w], _, rfl, rfl, [.bool x.h], _, rfl, rfl, [.int .i64 x.s], _, rfl, rfl, [.int .i64 x.k], _, rfl, rfl, [.string x.t], _, rfl, rfl, [.int .i64 x.b], _, rfl, rfl, A, c, rfl, hl, hC⟩
/-- A value is a box. -/
def DV (w : World) (v : Value) (d : D) : Prop := kD.K w d [v]
theorem DV.below {w w' : World} {v : Value} {d : D} (h : DV w v d) (hb : Below w.heap.size w w') : DV w' v d := kD.K_below hb h
theorem DV.nil {w : World} {v : Value} (h : DV w v none) : v = .pointer none := by
  have := kD_nil h
  injection this
/-- What is known of a box at once. -/
structure Bx (w : World) (g : Nat) (A : Option Addr) (c : Nat) (x : SD) : Prop where
  hp : w.heap[g]? = some (.cells #[.int .i64 x.w, .bool x.h, .int .i64 x.s, .int .i64 x.k, .string x.t, .int .i64 x.b, .slice A x.l.length c] 65 (0, 0))
  hl : x.l.length ≤ c
  hC : kD.C w A x.l.length x.l
theorem DV.open {w : World} {v : Value} {x : SD} (h : DV w v (some x)) : ∃ g A c, v = .pointer (some ⟨g, 0, none⟩) ∧ Bx w g A c x := by
  obtain ⟨g, A, c, e, h1, h2, h3⟩ := kD_open h
  injection e with e
  exact ⟨g, A, c, e, h1, h2, h3⟩
theorem Bx.dv {w : World} {g : Nat} {A : Option Addr} {c : Nat} {x : SD} (h : Bx w g A c x) : DV w (.pointer (some ⟨g, 0, none⟩)) (some x) := kD_mk h.hp h.hl h.hC
theorem Bx.below {w w' : World} {g : Nat} {A : Option Addr} {c : Nat} {x : SD} (h : Bx w g A c x) (hb : Below w.heap.size w w') : Bx w' g A c x := ⟨(hb.block g (Array.getElem?_eq_some_iff.1 h.hp).1).trans h.hp, h.hl, Kd.C_below h.hC hb⟩
theorem Bx.cells {w : World} {g : Nat} {A : Option Addr} {c : Nat} {x : SD} (h : Bx w g A c x) : w.cell? ⟨g, 0, none⟩ = some (.int .i64 x.w) ∧ w.cell? ⟨g, 1, none⟩ = some (.bool x.h) ∧ w.cell? ⟨g, 2, none⟩ = some (.int .i64 x.s) ∧ w.cell? ⟨g, 3, none⟩ = some (.int .i64 x.k) ∧ w.cell? ⟨g, 4, none⟩ = some (.string x.t) ∧ w.cell? ⟨g, 5, none⟩ = some (.int .i64 x.b) ∧ w.cell? ⟨g, 6, none⟩ = some (.slice A x.l.length c) := by
  have k : ∀ j, w.cell? ⟨g, j, none⟩ = (#[.int .i64 x.w, .bool x.h, .int .i64 x.s, .int .i64 x.k, .string x.t, .int .i64 x.b, .slice A x.l.length c] : Array Value)[j]? := fun j => by simp [World.cell?, h.hp]
  exact ⟨k 0, k 1, k 2, k 3, k 4, k 5, k 6⟩
/-- A part of a box. -/
theorem at_D {w : World} {A : Option Addr} {n : Nat} {xs : List D} (h : kD.C w A n xs) (i : Nat) (hi : i < xs.length) : ∃ ad v, A = some ad ∧ w.cell? (ad.add i) = some v ∧ DV w v xs[i] := by
  have hn : xs.length = n := h.1
  obtain ⟨ad, c, e, hl, hK, hc⟩ := Kd.C_get h none (i : Int) (by omega) (by omega)
  have hl1 : c.length = 1 := hl
  obtain ⟨v, rfl⟩ : ∃ v, c = [v] := by
    cases c with
    | nil => simp at hl1
    | cons v r => cases r with
      | nil => exact ⟨v, rfl⟩
      | cons _ _ => simp at hl1
  refine ⟨ad, v, e, ?_, ?_⟩
  · have := hc 0 v rfl
    rw [show kD.sz = 1 from rfl, Int.toNat_natCast, Nat.mul_one, Nat.add_zero] at this
    exact this
  · rw [Int.toNat_natCast] at hK
    have e2 : xs.getD i none = xs[i] := by simp [List.getD, hi]
    rw [e2] at hK
    exact hK
/-- All blocks but those of S are what they were. -/
structure Fr (S : Nat → Prop) (w w' : World) : Prop where
  os : w'.os = w.os
  tape : w'.tape = w.tape
  output : w'.output = w.output
  size : w.heap.size ≤ w'.heap.size
  block : ∀ i, i < w.heap.size → ¬ S i → w'.heap[i]? = w.heap[i]?
theorem Fr.of_below {S : Nat → Prop} {w w' : World} (h : Below w.heap.size w w') : Fr S w w' := ⟨h.os, h.tape, h.output, h.size, fun i hi _ => h.block i hi⟩
theorem Fr.refl (S : Nat → Prop) (w : World) : Fr S w w := .of_below (Below.refl _ _)
theorem Fr.trans {S : Nat → Prop} {w w1 w2 : World} (h : Fr S w w1) (k : Fr S w1 w2) : Fr S w w2 :=
  ⟨k.os.trans h.os, k.tape.trans h.tape, k.output.trans h.output, Nat.le_trans h.size k.size, fun i hi hS => (k.block i (Nat.lt_of_lt_of_le hi h.size) hS).trans (h.block i hi hS)⟩
theorem Fr.set {S : Nat → Prop} {w w1 : World} (h : Fr S w w1) (p : Addr) (u : Value) (hp : S p.block) : Fr S w (w1.setCell p u) :=
  h.trans ⟨rfl, rfl, rfl, by simp [World.setCell], fun i _ hS => Below.heap_setCell w1 p u i (fun e => hS (e ▸ hp))⟩
theorem Fr.below {S : Nat → Prop} {base : Nat} {w w' : World} (h : Fr S w w') (hs : ∀ i, S i → base ≤ i) (hb : base ≤ w.heap.size) : Below base w w' :=
  ⟨h.os, h.tape, h.output, h.size, fun i hi => h.block i (Nat.lt_of_lt_of_le hi hb) (fun h2 => by have := hs i h2; omega)⟩
/-- A box, whatever becomes of S's blocks. -/
def DVX (S : Nat → Prop) (w : World) (v : Value) (d : D) : Prop := ∀ w', Fr S w w' → DV w' v d
theorem DVX.dv {S : Nat → Prop} {w : World} {v : Value} {d : D} (h : DVX S w v d) : DV w v d := h w (Fr.refl _ _)
theorem DVX.fr {S : Nat → Prop} {w w1 : World} {v : Value} {d : D} (h : DVX S w v d) (hf : Fr S w w1) : DVX S w1 v d := fun w' h' => h w' (hf.trans h')
theorem DV.x {S : Nat → Prop} {w w1 : World} {v : Value} {d : D} (h : DV w v d) (hb : Below w.heap.size w w1) (hS : ∀ k, S k → w.heap.size ≤ k) : DVX S w1 v d :=
  fun w' h' => h.below (hb.trans (h'.below hS hb.size))
/-- The same of the elements of a row. -/
def rob {α : Type} (d : Kd α) (S : Nat → Prop) (w : World) : Kd α where
  sz := d.sz
  E := []
  K := fun _ x cs => ∀ w', Fr S w w' → d.K w' x cs
  M := fun _ _ _ x cs => ∀ w', Fr S w w' → d.K w' x cs
  K_len := fun h => d.K_len (h w (Fr.refl _ _))
  K_one := fun h => d.K_one (h w (Fr.refl _ _))
  K_below := fun _ h => h
  K_of_M := fun h => h
  M_mono := fun _ h => h
  M_bound := fun h => h
  M_move := fun _ h => h
  M_lower := fun _ h => h
theorem rob_of {α : Type} {d : Kd α} {S : Nat → Prop} {w w1 : World} {A : Option Addr} {n : Nat} {xs : List α} (h : d.C w A n xs) (hb : Below w.heap.size w w1) (hS : ∀ k, S k → w.heap.size ≤ k) : (rob d S w1).C w1 A n xs :=
  ReadsRow.imp_ h hb (fun x cs hk w' h' => d.K_below (hb.trans (h'.below hS hb.size)) hk)
/-! #### what is known of boxes -/
def wd : D → Int
  | none => 0
  | some x => x.w
def hd : D → Bool
  | none => false
  | some x => x.h
def sz : D → Int
  | none => 1
  | some x => x.s
def wds (l : List D) : Int := (l.map wd).foldr (· + ·) 0
def hds (l : List D) : Bool := l.any hd
def szs (l : List D) : Int := (l.map sz).foldr (· + ·) 0
mutual
def fl (bl : List UInt8) : Option SD → List UInt8
  | none => []
  | some x => flS bl x
def flS (bl : List UInt8) : SD → List UInt8
  | ⟨_, _, _, k, t, _, l⟩ => t.data.toList ++ ((if k = 1 then bl else []) ++ flL bl l)
def flL (bl : List UInt8) : List (Option SD) → List UInt8
  | [] => []
  | d :: r => fl bl d ++ flL bl r
end
theorem flL_append (bl : List UInt8) (a b : List D) : flL bl (a ++ b) = flL bl a ++ flL bl b := by
  induction a with
  | nil => simp [flL]
  | cons d r ih => simp [flL, ih]
end Go.Proofs.YtjgaikmejccdkaaDoor.PDoc
