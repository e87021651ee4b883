/- Layer 25: the strings.Builder that lies at the head of a printer: written, and read once. After the shelf's own texts, turned to a block that holds more. -/
import Derived.Test.YtjgaikmejccdkaaDoorDoc6
import Derived.Lib.FrozenHead
import Derived.RegionTactic
namespace Go.Proofs.YtjgaikmejccdkaaDoor.PDoc
open Go.RowKit Go.Proofs.YtjgaikmejccdkaaDoorW.PrintWords Go.Proofs.YtjgaikmejccdkaaDoorW.PrintLast Go.Proofs.YtjgaikmejccdkaaDoorW.PrintMore
set_option linter.unusedVariables false
set_option linter.unusedSimpArgs false
theorem psize : (Tryd.prog.info? 69).map (·.size) = some 2 := by kernel_rfl
theorem plies : liesAt Tryd.prog Tryd.prog.depth 90 (7 / Tryd.prog.cellsOf 90) 0 69 1 = true := by kernel_rfl
/-- A printer at block g: its Builder's two cells, the width, the column, the blanks that wait, the boxes that are left. -/
structure Pr (B g : Nat) (p v : Value) (x : List UInt8) (W col : Int) (pend : Nat) (td F : Value) (w : World) : Prop where
  lg : B ≤ g
  lp : p = .pointer none ∨ p = .pointer (some ⟨g, 0, none⟩)
  c : w.heap[g]? = some (.cells #[p, v, .int .i64 W, .int .i64 col, .int .i64 (pend : Int), td, F] 90 (0, 0))
  own : w.ownsRow B 5 1 v x.length (Lib.byteCells x)
  ne : v.ownBlock ≠ some g
/-- What is of a type of T stays. -/
def Ty (T : Nat) (w w' : World) : Prop := ∀ (k : Nat) (cs : Array Value), w.heap[k]? = some (.cells cs T (0, 0)) → w'.heap[k]? = w.heap[k]?
theorem Ty.refl (T : Nat) (w : World) : Ty T w w := fun _ _ _ => rfl
theorem Ty.trans {T : Nat} {w w1 w2 : World} (h : Ty T w w1) (k : Ty T w1 w2) : Ty T w w2 := fun i cs hi => by
  have h1 := h i cs hi
  exact (k i cs (h1.trans hi)).trans h1
theorem Ty.of_below {T : Nat} {w w' : World} (h : Below w.heap.size w w') : Ty T w w' := fun k cs hk => h.block k (blk_lt hk)
theorem Ty.set {T : Nat} {w : World} {g t : Nat} {cs : Array Value} (h : w.heap[g]? = some (.cells cs t (0, 0))) (ht : t ≠ T) (i : Nat) (u : Value) : Ty T w (w.setCell ⟨g, i, none⟩ u) := fun k cs' hk => by
  refine Below.heap_setCell w ⟨g, i, none⟩ u k (fun e => ?_)
  have e2 : k = g := e
  rw [e2, h] at hk
  injection hk with hk
  injection hk with _ hk
  exact ht hk
theorem Ty.grown {T e s n : Nat} {w w' : World} {v : Value} {b : Nat} {xs : List Value} (ho : w.ownsRow b e s v n xs) (he : e ≠ T) (h : w.grownBy w' v.ownBlock) : Ty T w w' := fun k cs hk => by
  refine h.block k (blk_lt hk) (fun e2 => ?_)
  obtain ⟨cells, hc⟩ := own_typed ho k e2.symm
  rw [hk] at hc
  injection hc with hc
  injection hc with _ hc
  exact he hc.symm
set_option maxHeartbeats 1000000 in
set_option maxRecDepth 100000 in
theorem pcc_used (b : Nat) (w : World) (h0 : w.cell? ⟨b, 0, none⟩ = some (.pointer (some ⟨b, 0, none⟩))) :
    Calls Tryd.prog 52 #[.pointer (some ⟨b, 0, none⟩)] w fun e w' => e = .returned (.tuple #[]) ∧ w' = w := Tryd.cc_used b w h0
set_option maxHeartbeats 1000000 in
set_option maxRecDepth 100000 in
theorem pcc_fresh (b : Nat) (w : World) (h0 : w.cell? ⟨b, 0, none⟩ = some (.pointer none)) (hsh : w.shape? b = some (90, 7)) (hfz : w.frozen? ⟨b, 0, none⟩ = false) :
    Calls Tryd.prog 52 #[.pointer (some ⟨b, 0, none⟩)] w fun e w' => e = .returned (.tuple #[]) ∧ w' = w.setCell ⟨b, 0, none⟩ (.pointer (some ⟨b, 0, none⟩)) := by
  obtain ⟨j, hj, hjs⟩ := Option.map_eq_some_iff.1 psize
  go_enter Tryd.func52, Tryd.ntmps52
  go_wp2
  rw [Lib.run_to_unsafe w ⟨b, 0, none⟩ Tryd.underlying66 Tryd.underlying108 hj (by rw [hjs]; decide) hsh (Nat.zero_lt_succ 6)]
  simp only [Result.andThen]
  rw [Oper.upon_value]
  go_wp2
  rw [run_callFunc_extern Tryd.func65 (by kernel_rfl) (by kernel_rfl) (by kernel_rfl) (e := Extern.AbiNoEscape.same) (by kernel_rfl)]
  rw [Lib.run_noEscape]
  simp only [Result.andThen]
  rw [Oper.upon_value]
  go_wp2
  rw [Lib.run_from_unsafe w ⟨b, 0, none⟩ Tryd.underlying108 Tryd.underlying66 hj hsh plies]
  simp only [Result.andThen]
  rw [Oper.upon_value]
  go_wp2
  go_end0
  exact ⟨rfl, rfl⟩
theorem pcc {B g : Nat} {p v : Value} {x : List UInt8} {W col : Int} {pend : Nat} {td F : Value} {w : World} (h : Pr B g p v x W col pend td F w) :
    Calls Tryd.prog 52 #[.pointer (some ⟨g, 0, none⟩)] w fun e w' => e = .returned (.tuple #[]) ∧ Pr B g (.pointer (some ⟨g, 0, none⟩)) v x W col pend td F w' ∧ Below B w w' ∧ Ty 87 w w' := by
  obtain ⟨h1, h2, h3, h4, h5⟩ := h
  rcases h2 with rfl | rfl
  · refine (pcc_fresh g w ((blk_cell h3 0).trans rfl) (by simp [World.shape?, h3]) (blk_frozen h3 0)).mono ?_
    rintro e w' ⟨rfl, rfl⟩
    refine ⟨rfl, ⟨h1, Or.inr rfl, blk_put h3 0 _ rfl, own_move h4 (fun k hk => Below.heap_setCell w ⟨g, 0, none⟩ _ k (fun e => h5 (by rw [hk]; exact congrArg some e))), h5⟩, (Below.refl B w).setCell (p := ⟨g, 0, none⟩) h1 _, Ty.set h3 (by decide) 0 _⟩
  · refine (pcc_used g w ((blk_cell h3 0).trans rfl)).mono ?_
    rintro e w' ⟨rfl, rfl⟩
    exact ⟨rfl, ⟨h1, Or.inr rfl, h3, h4, h5⟩, Below.refl B _, Ty.refl _ _⟩
set_option maxHeartbeats 2000000 in
set_option maxRecDepth 100000 in
/-- WriteString onto a printer. -/
theorem pws {B g : Nat} {p v : Value} {x : List UInt8} {W col : Int} {pend : Nat} {td F : Value} {w : World} (h : Pr B g p v x W col pend td F w) (s : ByteArray) (hlen : x.length + s.size ≤ 140737488355328) (hBw : B ≤ w.heap.size) :
    Calls Tryd.prog 47 #[.pointer (some ⟨g, 0, none⟩), .string s] w fun e w' => e = .returned (.tuple #[.int .i64 s.size, .nilIface]) ∧ (∃ v', Pr B g (.pointer (some ⟨g, 0, none⟩)) v' (x ++ s.data.toList) W col pend td F w') ∧ Below B w w' ∧ Ty 87 w w' := by
  obtain ⟨i0, hi, hz0, hz1, hz2⟩ := info_parts Tryd.binfo
  have HP := Aside0.mk (pcc h)
  have HLN := Aside0.mk hlen
  have HBW := Aside0.mk hBw
  clear h hlen hBw
  go_enter Tryd.func47, Tryd.ntmps47
  go_wp2_with (go_at_call 52; refine HP.out.mono ?_)
  rintro e w1 ⟨rfl, h1, hb1, ht1⟩
  obtain ⟨hB, -, hbk, hown, hne⟩ := h1
  have HO := Aside0.mk hown
  have HNE := Aside0.mk hne
  have HBK := Aside0.mk hbk
  have HB1 := Aside0.mk hb1
  have HT1 := Aside0.mk ht1
  have HBG := Aside0.mk hB
  have c0 : w1.cell? ⟨g, 0, none⟩ = some (.pointer (some ⟨g, 0, none⟩)) := (blk_cell hbk 0).trans rfl
  have c1 : w1.cell? ⟨g, 1, none⟩ = some v := (blk_cell hbk 1).trans rfl
  clear hB hbk hown hne hb1 ht1
  go_wp2_with (at_builtin; refine Lib.wpList_append_own_string _ rfl _ _ 67 9 rfl B 5 i0 Tryd.underlying67 Tryd.underlying9 hi hz0 hz1 hz2 _ _ _ rfl HO.out s rfl ?c3 ?c4 ?c5 ?_)
  case c3 => have := HLN.out; unfold maxLen; omega
  case c4 => exact HLN.out
  case c5 => have h1 := HB1.out.size; have h2 := HBW.out; omega
  intro v' w2 hown' hgrow _
  have HB2 := Aside0.mk (HB1.out.grown hgrow (by have h1 := HB1.out.size; have h2 := HBW.out; omega) (fun k hk => own_base HO.out k hk))
  have HT2 := Aside0.mk (HT1.out.trans (Ty.grown HO.out (by decide) hgrow))
  have HK2 := Aside0.mk (blk_grown HBK.out hgrow (fun e => HNE.out e.symm))
  have HNE2 := Aside0.mk (show v'.ownBlock ≠ some g from fun e => by
    obtain ⟨cells, hc⟩ := own_typed hown' g e
    rw [HK2.out] at hc
    injection hc with hc
    injection hc with _ hc
    exact absurd hc (by decide))
  have HO2 := Aside0.mk hown'
  have d1 : w2.cell? ⟨g, 1, none⟩ = some v := (blk_cell HK2.out 1).trans rfl
  have f1 := blk_frozen HK2.out 1
  obtain ⟨ao, cap, hv'⟩ := own_slice hown'
  have HV := Aside0.mk hv'
  subst hv'
  clear hown' hgrow
  go_wp2
  go_ret2
  refine ⟨rfl, ⟨_, HBG.out, Or.inr rfl, blk_put HK2.out 1 (.slice ao (x.length + s.size) cap) rfl, ?_, HNE2.out⟩, HB2.out.setCell (p := ⟨g, 1, none⟩) HBG.out _, HT2.out.trans (Ty.set HK2.out (by decide) 1 _)⟩
  have e1 : Lib.byteCells (x ++ s.data.toList) = Lib.byteCells x ++ Lib.strCells s := by rw [Lib.byteCells_append, Lib.strCells_eq]
  have e2 : (x ++ s.data.toList).length = x.length + s.size := by rw [List.length_append, data_length]
  rw [e1, e2]
  exact own_move HO2.out (fun k hk => Below.heap_setCell w2 ⟨g, 1, none⟩ _ k (fun e => HNE2.out (by rw [hk]; exact congrArg some e)))
theorem pUS (W : World) (q : Option Addr) : (Builtin.unsafeString_ #[82, 3] 9 #[.pointer q, .int .i64 0]).run Tryd.prog W = .ok (.string .empty) W := Lib.run_unsafeString_none W _ _ _ q
set_option maxHeartbeats 2000000 in
set_option maxRecDepth 100000 in
/-- String of a printer. -/
theorem pst {B g : Nat} {p v : Value} {x : List UInt8} {W col : Int} {pend : Nat} {td F : Value} {w : World} (h : Pr B g p v x W col pend td F w) (hBw : B ≤ w.heap.size) :
    Calls Tryd.prog 36 #[.pointer (some ⟨g, 0, none⟩)] w fun e w' => e = .returned (.string ⟨x.toArray⟩) ∧ Below B w w' := by
  obtain ⟨hB, hp, hbk, hown, hne⟩ := h
  have hlt := blk_lt hbk
  cases x with
  | nil =>
    have hUS := pUS
    rcases hown.2 with ⟨rfl, _⟩ | ⟨gb, cap, cur, rfl, hbg, hg, _, _, _, _⟩
    · have c1 : w.drew.cell? ⟨g, 1, none⟩ = some (.slice none 0 0) := (blk_cell (blk_drew hbk) 1).trans rfl
      have hSD : (Builtin.unsafeSliceData_ #[67] 82 #[.slice none 0 0]).run Tryd.prog w.drew = .ok (.pointer none) w.drew := rfl
      clear hp hbk hown hne hB hlt
      go_enter Tryd.func36, Tryd.ntmps36
      go_wp2
      go_region
      all_goals (go_wp2; go_ret; exact ⟨rfl, Below.drew (Below.refl B w)⟩)
    · by_cases hc0 : cap = 0
      · subst hc0
        have c1 : w.drew.cell? ⟨g, 1, none⟩ = some (.slice (some ⟨gb, 0, none⟩) 0 0) := (blk_cell (blk_drew hbk) 1).trans rfl
        have hSD : (Builtin.unsafeSliceData_ #[67] 82 #[.slice (some ⟨gb, 0, none⟩) 0 0]).run Tryd.prog w.drew = .ok (.pointer (some ⟨w.drew.heap.size, 0, none⟩)) (w.drew.alloc (.view ⟨gb, 0, none⟩ 5)) :=
          Lib.run_unsafeSliceData_zero w.drew _ _ 5 Tryd.underlying82 ⟨gb, 0, none⟩ 0 (5, cur.size) (by have hg' : w.drew.heap[gb]? = some (.cells cur 5 (0, 0)) := hg; simp [World.shape?, hg'])
        have c2 : (w.drew.alloc (.view ⟨gb, 0, none⟩ 5)).cell? ⟨g, 1, none⟩ = some (.slice (some ⟨gb, 0, none⟩) 0 0) := by
          have h2 : (w.drew.alloc (.view ⟨gb, 0, none⟩ 5)).heap[g]? = _ := (Lib.alloc_old w.drew _ g hlt).trans hbk
          exact (blk_cell h2 1).trans rfl
        have c3 : (w.alloc (.view ⟨gb, 0, none⟩ 5)).drew.cell? ⟨g, 1, none⟩ = some (.slice (some ⟨gb, 0, none⟩) 0 0) := c2
        have c0 : w.cell? ⟨g, 1, none⟩ = some (.slice (some ⟨gb, 0, none⟩) 0 0) := c1
        clear hp hbk hown hne hB hlt
        go_enter Tryd.func36, Tryd.ntmps36
        go_wp2
        go_region
        all_goals (go_wp2; go_ret; exact ⟨rfl, (Below.drew (Below.refl B w)).alloc hBw _⟩)
      · have c1 : w.drew.cell? ⟨g, 1, none⟩ = some (.slice (some ⟨gb, 0, none⟩) 0 cap) := (blk_cell (blk_drew hbk) 1).trans rfl
        have hSD : (Builtin.unsafeSliceData_ #[67] 82 #[.slice (some ⟨gb, 0, none⟩) 0 cap]).run Tryd.prog w.drew = .ok (.pointer (some ⟨gb, 0, none⟩)) w.drew :=
          Lib.run_unsafeSliceData_row _ _ _ _ _ _ hc0
        clear hc0 hp hbk hown hne hB hlt
        go_enter Tryd.func36, Tryd.ntmps36
        go_wp2
        go_region
        all_goals (go_wp2; go_ret; exact ⟨rfl, Below.drew (Below.refl B w)⟩)
  | cons b0 r0 =>
    obtain ⟨l, hl⟩ : ∃ l, l = b0 :: r0 := ⟨_, rfl⟩
    rw [← hl] at hown ⊢
    have h0 : l ≠ [] := by rw [hl]; simp
    have hl0 : l.length ≠ 0 := by simpa using h0
    clear hl
    obtain ⟨gb, cap, cur, rfl, hbg, hg, hnc, hcm, hcs, htake⟩ : ∃ gb cap cur, v = .slice (some ⟨gb, 0, none⟩) l.length cap ∧ B ≤ gb ∧ w.heap[gb]? = some (.cells cur 5 (0, 0)) ∧ l.length ≤ cap ∧ cap ≤ maxLen ∧ cur.size = cap * 1 ∧ cur.toList.take (l.length * 1) = Lib.byteCells l := by
      rcases hown.2 with ⟨_, hz⟩ | ⟨gb, cap, cur, hv, r⟩
      · exact absurd hz hl0
      · exact ⟨gb, cap, cur, hv, r⟩
    have c1 : w.drew.cell? ⟨g, 1, none⟩ = some (.slice (some ⟨gb, 0, none⟩) l.length cap) := (blk_cell (blk_drew hbk) 1).trans rfl
    have hSD : (Builtin.unsafeSliceData_ #[67] 82 #[.slice (some ⟨gb, 0, none⟩) l.length cap]).run Tryd.prog w.drew = .ok (.pointer (some ⟨gb, 0, none⟩)) w.drew :=
      Lib.run_unsafeSliceData_row _ _ _ _ _ _ (by omega)
    have hUS : (Builtin.unsafeString_ #[82, 3] 9 #[.pointer (some ⟨gb, 0, none⟩), .int .i64 l.length]).run Tryd.prog w.drew = .ok (.string ⟨l.toArray⟩) (w.drew.freeze ⟨gb, 0, none⟩ l.length) := by
      refine Lib.run_unsafeString_row w.drew 82 3 9 5 Tryd.underlying82 (by kernel_rfl) gb cur.size (by have hg' : w.drew.heap[gb]? = some (.cells cur 5 (0, 0)) := hg; simp [World.shape?, hg']) l h0 (by omega) (by unfold maxLen at hcm; omega) ?_
      intro j x hx
      have := hown.cells (g := gb) rfl j (.int .u8 x.toNat) (by simp [Lib.byteCells, hx])
      exact this
    have HF := Aside0.mk (show Below B w (w.drew.freeze ⟨gb, 0, none⟩ l.length) from Lib.below_freeze (Below.drew (Below.refl B w)) (p := ⟨gb, 0, none⟩) hbg _)
    clear hp hbk hown hne hB hlt hbg hg hnc hcm hcs htake hl0 h0
    go_enter Tryd.func36, Tryd.ntmps36
    go_wp2
    go_region
    all_goals (go_wp2; go_ret; exact ⟨rfl, HF.out⟩)
end Go.Proofs.YtjgaikmejccdkaaDoor.PDoc
