/- Layer 24: what only looks at a box; texts, breaks. -/
import Derived.Test.YtjgaikmejccdkaaDoorDoc1
import Derived.Test.YtjgaikmejccdkaaDoorPDocx2
import Derived.Test.YtjgaikmejccdkaaDoorBuilder
namespace Go.Proofs.YtjgaikmejccdkaaDoor.PDoc
open Go.RowKit Go.Proofs.YtjgaikmejccdkaaDoorW.PrintWords Go.Proofs.YtjgaikmejccdkaaDoorW.PrintLast Go.Proofs.YtjgaikmejccdkaaDoorW.PrintMore
set_option linter.unusedVariables false
set_option linter.unusedSimpArgs false
def kd : D → Int
  | none => 4
  | some x => x.k
def byD : D → Int
  | none => 0
  | some x => x.b
def ow : D → ByteArray
  | none => ⟨#[]⟩
  | some x => x.t
def ps : D → List D
  | none => []
  | some x => x.l
set_option maxHeartbeats 1000000 in
theorem Kind_ {w : World} {v : Value} {d : D} (h : DV w v d) : Calls Tryd.prog 18 #[v] w fun e w' => e = .returned (.int .i64 (kd d)) ∧ w' = w := by
  cases d with
  | none =>
    obtain rfl := h.nil
    go_enter Tryd.func18, Tryd.ntmps18
    go_wp2
    go_ret
    exact ⟨rfl, rfl⟩
  | some x =>
    obtain ⟨g, A, c, rfl, hx⟩ := h.open
    obtain ⟨k0, k1, k2, k3, k4, k5, k6⟩ := hx.cells
    clear h hx
    go_enter Tryd.func18, Tryd.ntmps18
    go_wp2
    go_ret
    exact ⟨rfl, rfl⟩
set_option maxHeartbeats 1000000 in
theorem By_ {w : World} {v : Value} {d : D} (h : DV w v d) : Calls Tryd.prog 40 #[v] w fun e w' => e = .returned (.int .i64 (byD d)) ∧ w' = w := by
  cases d with
  | none =>
    obtain rfl := h.nil
    go_enter Tryd.func40, Tryd.ntmps40
    go_wp2
    go_ret
    exact ⟨rfl, rfl⟩
  | some x =>
    obtain ⟨g, A, c, rfl, hx⟩ := h.open
    obtain ⟨k0, k1, k2, k3, k4, k5, k6⟩ := hx.cells
    clear h hx
    go_enter Tryd.func40, Tryd.ntmps40
    go_wp2
    go_ret
    exact ⟨rfl, rfl⟩
set_option maxHeartbeats 1000000 in
theorem Own_ {w : World} {v : Value} {d : D} (h : DV w v d) : Calls Tryd.prog 41 #[v] w fun e w' => e = .returned (.string (ow d)) ∧ w' = w := by
  cases d with
  | none =>
    obtain rfl := h.nil
    go_enter Tryd.func41, Tryd.ntmps41
    go_wp2
    go_ret
    exact ⟨rfl, rfl⟩
  | some x =>
    obtain ⟨g, A, c, rfl, hx⟩ := h.open
    obtain ⟨k0, k1, k2, k3, k4, k5, k6⟩ := hx.cells
    clear h hx
    go_enter Tryd.func41, Tryd.ntmps41
    go_wp2
    go_ret
    exact ⟨rfl, rfl⟩
set_option maxHeartbeats 1000000 in
set_option maxRecDepth 100000 in
theorem Width_ {w : World} {v : Value} {d : D} (h : DV w v d) : Calls Tryd.prog 12 #[v] w fun e w' => e = .returned (.tuple #[.int .i64 (if hd d = true then 0 else wd d), .bool (!hd d)]) ∧ w' = w := by
  cases d with
  | none =>
    obtain rfl := h.nil
    go_enter Tryd.func12, Tryd.ntmps12
    go_wp2
    go_ret2
    exact ⟨rfl, rfl⟩
  | some x =>
    obtain ⟨g, A, c, rfl, hx⟩ := h.open
    obtain ⟨k0, k1, k2, k3, k4, k5, k6⟩ := hx.cells
    clear h hx
    obtain ⟨w1, h1, s1, k1', t1, b1, l1⟩ := x
    cases h1 with
    | true =>
      go_enter Tryd.func12, Tryd.ntmps12
      go_wp2
      go_ret2
      exact ⟨rfl, rfl⟩
    | false =>
      go_enter Tryd.func12, Tryd.ntmps12
      go_wp2
      go_ret2
      exact ⟨rfl, rfl⟩
set_option maxHeartbeats 1000000 in
set_option maxRecDepth 100000 in
theorem known_ {w : World} {v : Value} {d : D} (h : DV w v d) : Calls Tryd.prog 37 #[v] w fun e w' => e = .returned (.agg #[.int .i64 (wd d), .bool (hd d), .int .i64 (sz d)]) ∧ Below w.heap.size w w' := by
  cases d with
  | none =>
    obtain rfl := h.nil
    go_enter Tryd.func37, Tryd.ntmps37
    go_wp2
    exact bodyPost_ret (v := .agg #[.int .i64 0, .bool false, .int .i64 1]) (by simp [results, Tryd.results37, go_sem]) rfl ⟨rfl, (Below.refl _ _).alloc (Nat.le_refl _) _⟩
  | some x =>
    obtain ⟨g, A, c, rfl, hx⟩ := h.open
    obtain ⟨k0, k1, k2, k3, k4, k5, k6⟩ := hx.cells
    clear h hx
    obtain ⟨w1, h1, s1, k1', t1, b1, l1⟩ := x
    dsimp only at k0 k1 k2
    have hb : Below w.heap.size w (w.alloc (.cells #[.int .i64 0, .bool false, .int .i64 0] 63)) := (Below.refl _ _).alloc (Nat.le_refl _) _
    replace k0 := pw_cell_below hb k0
    replace k1 := pw_cell_below hb k1
    replace k2 := pw_cell_below hb k2
    clear hb k3 k4 k5 k6
    go_enter Tryd.func37, Tryd.ntmps37
    go_wp2
    exact bodyPost_ret (v := .agg #[.int .i64 w1, .bool h1, .int .i64 s1]) (by simp [results, Tryd.results37, go_sem]) rfl ⟨rfl, (Below.refl _ _).alloc (Nat.le_refl _) _⟩
set_option maxHeartbeats 1000000 in
set_option maxRecDepth 100000 in
theorem Size_ {w : World} {v : Value} {d : D} (h : DV w v d) : Calls Tryd.prog 16 #[v] w fun e w' => e = .returned (.int .i64 (sz d)) ∧ Below w.heap.size w w' := by
  have hf : ∀ (W : World) (x : Int) (y : Bool) (z : Int), (Instr.field 63 (.agg #[.int .i64 x, .bool y, .int .i64 z]) 2).run Tryd.prog W = .ok (.int .i64 z) W := fun _ _ _ _ => by kernel_rfl
  go_enter Tryd.func16, Tryd.ntmps16
  go_wp2_with (go_at_call 37; refine (known_ h).mono ?_; rintro e w1 ⟨rfl, hb⟩)
  go_ret
  exact ⟨rfl, hb⟩
theorem info24 : (Tryd.prog.info? 24).map (fun i => (i.zero, i.size, i.bytes)) = some (some (.pointer none), 1, 8) := by kernel_rfl
set_option maxHeartbeats 1000000 in
set_option maxRecDepth 100000 in
/-- A box's parts, in a row of their own. -/
theorem Parts_ {w : World} {v : Value} {d : D} (h : DV w v d) (hl : (ps d).length ≤ 1000000000) : Calls Tryd.prog 19 #[v] w fun e w' => ∃ A c, e = .returned (.slice A (ps d).length c) ∧ (ps d).length ≤ c ∧ kD.C w' A (ps d).length (ps d) ∧ Below w.heap.size w w' := by
  cases d with
  | none =>
    obtain rfl := h.nil
    go_enter Tryd.func19, Tryd.ntmps19
    go_wp2
    go_ret
    exact ⟨none, 0, rfl, Nat.le_refl _, ⟨rfl, Nat.zero_le _, fun h => absurd h (Nat.lt_irrefl 0)⟩, Below.refl _ _⟩
  | some x =>
    obtain ⟨g, A, c, rfl, hx⟩ := h.open
    obtain ⟨k0, k1, k2, k3, k4, k5, k6⟩ := hx.cells
    have HC := Aside0.mk hx.hC
    have HL := Aside0.mk hx.hl
    have HLL := Aside0.mk (show x.l.length ≤ 1000000000 from hl)
    clear h hx hl
    go_enter Tryd.func19, Tryd.ntmps19
    go_wp2_with (at_builtin; go_loud (refine Kd.R_append_rows (Kd.fixed kD w) (Rr := kD.K w) (w0 := w) w.heap.size rfl _ _ 40 24 (.pointer none) 8 rfl Tryd.underlying40 info24 rfl (Nat.lt_succ_self 0) (by omega) (.slice none 0 0) [] x.l A x.l.length c (fun _ => True) (fun _ => False) rfl rfl (Kd.R_nil _ _ _ _ _) HC.out (fun x cs h => h) (fun _ h => h.elim) (fun _ _ => trivial) (Below.refl _ _) (Nat.le_refl _) (by have := HLL.out; simp only [List.length_nil]; omega) ?_); intro v1 w1 hR hB _ _)
    rw [List.nil_append] at hR
    obtain ⟨A1, c1, rfl, hl1, hC1⟩ := Kd.R_reads hR
    clear hR
    go_wp2
    go_ret
    exact ⟨A1, c1, rfl, hl1, Kd.C_imp (d := Kd.fixed kD w) rfl (fun _ _ _ h => h) (hC1.imp_ (Below.refl _ _) (fun _ _ h => h)) |> fun z => z.imp_ (Below.refl _ _) (fun _ _ hk => kD.K_below hB hk), hB⟩
theorem Blank_X (S : Nat → Prop) (w : World) (hS : ∀ k, S k → k < w.heap.size) : Calls Tryd.prog 31 #[] w fun e w' => ∃ v, e = .returned v ∧ DVX S w' v (some ⟨1, false, 1, 1, ⟨#[]⟩, 0, []⟩) ∧ Below w.heap.size w w' := by
  go_enter Tryd.func31, Tryd.ntmps31
  go_wp2
  go_ret
  exact ⟨_, rfl, fun w' h' => Bx.dv (A := none) (c := 0) ⟨(h'.block _ (by simp) (fun hs => Nat.lt_irrefl _ (hS _ hs))).trans (heap_alloc_new w _), Nat.zero_le _, ⟨rfl, Nat.zero_le _, fun h => absurd h (Nat.lt_irrefl 0)⟩⟩, (Below.refl _ _).alloc (Nat.le_refl _) _⟩
theorem Blank_ (w : World) : Calls Tryd.prog 31 #[] w fun e w' => ∃ v, e = .returned v ∧ DV w' v (some ⟨1, false, 1, 1, ⟨#[]⟩, 0, []⟩) ∧ Below w.heap.size w w' :=
  (Blank_X (fun _ => False) w (fun _ h => h.elim)).mono fun e w' ⟨v, h1, h2, h3⟩ => ⟨v, h1, h2.dv, h3⟩
theorem Tight_X (S : Nat → Prop) (w : World) (hS : ∀ k, S k → k < w.heap.size) : Calls Tryd.prog 26 #[] w fun e w' => ∃ v, e = .returned v ∧ DVX S w' v (some ⟨0, false, 1, 2, ⟨#[]⟩, 0, []⟩) ∧ Below w.heap.size w w' := by
  go_enter Tryd.func26, Tryd.ntmps26
  go_wp2
  go_ret
  exact ⟨_, rfl, fun w' h' => Bx.dv (A := none) (c := 0) ⟨(h'.block _ (by simp) (fun hs => Nat.lt_irrefl _ (hS _ hs))).trans (heap_alloc_new w _), Nat.zero_le _, ⟨rfl, Nat.zero_le _, fun h => absurd h (Nat.lt_irrefl 0)⟩⟩, (Below.refl _ _).alloc (Nat.le_refl _) _⟩
theorem Tight_ (w : World) : Calls Tryd.prog 26 #[] w fun e w' => ∃ v, e = .returned v ∧ DV w' v (some ⟨0, false, 1, 2, ⟨#[]⟩, 0, []⟩) ∧ Below w.heap.size w w' :=
  (Tight_X (fun _ => False) w (fun _ h => h.elim)).mono fun e w' ⟨v, h1, h2, h3⟩ => ⟨v, h1, h2.dv, h3⟩
theorem Hard_X (S : Nat → Prop) (w : World) (hS : ∀ k, S k → k < w.heap.size) : Calls Tryd.prog 32 #[] w fun e w' => ∃ v, e = .returned v ∧ DVX S w' v (some ⟨0, true, 1, 3, ⟨#[]⟩, 0, []⟩) ∧ Below w.heap.size w w' := by
  go_enter Tryd.func32, Tryd.ntmps32
  go_wp2
  go_ret
  exact ⟨_, rfl, fun w' h' => Bx.dv (A := none) (c := 0) ⟨(h'.block _ (by simp) (fun hs => Nat.lt_irrefl _ (hS _ hs))).trans (heap_alloc_new w _), Nat.zero_le _, ⟨rfl, Nat.zero_le _, fun h => absurd h (Nat.lt_irrefl 0)⟩⟩, (Below.refl _ _).alloc (Nat.le_refl _) _⟩
theorem Hard_ (w : World) : Calls Tryd.prog 32 #[] w fun e w' => ∃ v, e = .returned v ∧ DV w' v (some ⟨0, true, 1, 3, ⟨#[]⟩, 0, []⟩) ∧ Below w.heap.size w w' :=
  (Hard_X (fun _ => False) w (fun _ h => h.elim)).mono fun e w' ⟨v, h1, h2, h3⟩ => ⟨v, h1, h2.dv, h3⟩
end Go.Proofs.YtjgaikmejccdkaaDoor.PDoc
