/- Layer 3: an index, updated: walked. -/
import Derived.Test.YtgejmmkfaliinaaLinesZ
import Derived.Test.YtgejmmkfaliinaaBuilder
import Derived.Deep.DeepMust
import Derived.Deep.RegionHeld3
namespace Go.Proofs.Ytgejmmkfaliinaa.Lines
open Go.RowKit Go.Proofs.YtgejmmkfaliinaaW.PrintWords Go.Proofs.YtgejmmkfaliinaaW.PrintLast Go.Proofs.YtgejmmkfaliinaaW.PrintMore Go.Proofs.Ytgejmmkfaliinaa.PLines
set_option linter.unusedVariables false
set_option linter.unusedSimpArgs false
theorem lineB (g : Nat) (s : ByteArray) (a : Nat) (w : World) (hI : Ix w g s (beg s)) (hs : s.size ≤ 1000000) (ha : a ≤ s.size) :
    Calls Try.prog 30 #[.pointer (some ⟨g, 0, none⟩), .int .i64 a] w fun e w' => e = .returned (.int .i64 (row s a)) ∧ Below w.heap.size w w' := by
  have hg := good_beg s hs
  refine (line g s (beg s) a w hI hg.len (fun x y hxy hy h => Int.lt_of_lt_of_le h (hg.asc x y hxy hy))).mono ?_
  rintro e w' ⟨k, rfl, n1, n2, n3, hb⟩
  have hz := hg.zero
  have hp := hg.pos
  rw [beg_eq s hs] at n1 n2 n3 hz hp
  have hk : 0 < k := by
    rcases Nat.eq_zero_or_pos k with e | e
    · subst e
      have := n3 0 (Nat.le_refl _) hp
      rw [hz] at this
      omega
    · exact e
  obtain ⟨n, rfl⟩ : ∃ n, k = n + 1 := ⟨k - 1, by omega⟩
  obtain rfl := line_uniq s a n ha (by omega) (n2 n (by omega)) (fun t h1 h2 => n3 t (by omega) h2)
  exact ⟨by show _ = Ending.returned (.int .i64 ((brk s a).length : Int)); congr 2; omega, hb⟩
theorem reads_take {w : World} {r m : Nat} {z : List Int} (h : ∀ i, i < z.length → w.cell? ⟨r, i, none⟩ = some (.int .i64 (z.getD i 0))) (hm : m ≤ z.length) (hz : z.length ≤ 2001) : ReadsInt w .i64 (some ⟨r, 0, none⟩) m (z.take m) := by
  refine ⟨by simp; omega, by omega, fun _ => ⟨_, rfl, fun j hj => ?_⟩⟩
  rw [add_plain, h j (by omega)]
  congr 2
  simp only [List.getD_eq_getElem?_getD]
  rw [List.getElem?_take_of_lt hj]
/-- What an update writes. -/
def upd (s : ByteArray) (a b : Nat) (t : ByteArray) : List Int :=
  ((beg s).take (row s a + 1).toNat ++ at' (a : Int) (brk t t.size)) ++ ((beg s).drop (row s b + 1).toNat).map (fun n => wrap64 (n + ((t.size : Int) - ((b : Int) - (a : Int)))))
set_option maxHeartbeats 4000000 in
set_option maxRecDepth 100000 in
theorem Update (g : Nat) (s t : ByteArray) (a b : Nat) (w : World) (hI : Ix w g s (beg s)) (hs : s.size ≤ 2000) (ht : t.size ≤ 300) (hab : a ≤ b) (hb : b ≤ s.size) :
    Calls Try.prog 16 #[.pointer (some ⟨g, 0, none⟩), .int .i64 a, .int .i64 b, .string t] w fun e w' => ∃ g', e = .returned (.tuple #[.pointer (some ⟨g', 0, none⟩), .int .i64 0]) ∧ Ix w' g' (s.extract 0 a ++ t ++ s.extract b s.size) (upd s a b t) ∧ Below w.heap.size w w' := by
  have hsb : s.size ≤ 1000000 := by omega
  have hLa := lineB g s a w hI hsb (by omega)
  have hLb := fun w (hI : Ix w g s (beg s)) => lineB g s b w hI hsb hb
  have hg := good_beg s hsb
  have hra := row_range s hs a (by omega)
  have hrb := row_range s hs b hb
  have hla := row_lt s a (by omega)
  have hlb := row_lt s b hb
  rw [← beg_eq s hsb] at hla hlb
  have hmono : row s a ≤ row s b := by
    obtain ⟨r, e, _⟩ := brk_split s a (b - a)
    rw [show a + (b - a) = b from by omega] at e
    unfold row
    rw [e, List.length_append]
    omega
  have hlen : (beg s).length ≤ 2001 := by rw [beg_eq s hsb, begk_len]; have := brk_len s s.size; omega
  have hU : upd s a b t = ((beg s).take (row s a + 1).toNat ++ at' (a : Int) (brk t t.size)) ++ ((beg s).drop (row s b + 1).toNat).map (fun n => wrap64 (n + ((t.size : Int) - ((b : Int) - (a : Int))))) := rfl
  have hSt := fun w => starts t (a : Int) (by omega) w
  have hsl : (at' (a : Int) (brk t t.size)).length ≤ 300 := by rw [at_len]; have := brk_len t t.size; omega
  have e1 : (row s a).toNat = (brk s a).length := by unfold row; omega
  have e2 : (row s b).toNat = (brk s b).length := by unfold row; omega
  rw [← e1] at hla
  rw [← e2] at hlb
  obtain ⟨f, hf⟩ : ∃ f, f = row s a := ⟨_, rfl⟩
  obtain ⟨l, hl⟩ : ∃ l, l = row s b := ⟨_, rfl⟩
  rw [← hf] at hLa hra hla hmono hU
  simp only [← hl] at hLb hrb hlb hmono hU
  obtain ⟨q, hq⟩ : ∃ q, q = at' (a : Int) (brk t t.size) := ⟨_, rfl⟩
  rw [← hq] at hsl hU
  simp only [← hq] at hSt
  obtain ⟨z, hz⟩ : ∃ z, z = beg s := ⟨_, rfl⟩
  rw [← hz] at hI hg hla hlb hlen hU
  simp only [← hz] at hLb
  obtain ⟨a', ha'⟩ : ∃ x : Int, x = (a : Int) := ⟨_, rfl⟩
  obtain ⟨b', hb'⟩ : ∃ x : Int, x = (b : Int) := ⟨_, rfl⟩
  have ea : a = a'.toNat := by omega
  have eb : b = b'.toNat := by omega
  rw [← ha'] at hLa hU ⊢
  simp only [← ha'] at hSt
  rw [← hb'] at hU ⊢
  simp only [← hb'] at hLb
  rw [hU, ea, eb]
  have a0 : 0 ≤ a' := by omega
  have a1 : a' ≤ b' := by omega
  have a2 : b' ≤ (s.size : Int) := by omega
  have HI := Aside0.mk hI
  obtain ⟨r, c, i1, i2, i3, i4, i5⟩ := hI
  have C0 := Aside0.mk (fun w' (h : Below w.heap.size w w') => (h.cell (World.block_lt_of_cell? _ _ i1)).trans i1)
  have C1 := Aside0.mk (fun w' (h : Below w.heap.size w w') => (h.cell (World.block_lt_of_cell? _ _ i2)).trans i2)
  have CZ := Aside0.mk (fun w' (h : Below w.heap.size w w') i (hi : i < z.length) => (h.cell (World.block_lt_of_cell? _ _ (i5 i hi))).trans (i5 i hi))
  have HLA := Aside0.mk hLa
  have HLB := Aside0.mk hLb
  have HST := Aside0.mk hSt
  clear hLa hLb hSt i5 hU hq hz hf hl e1 e2 ha' hb' ea eb hab hb hg hsb i2
  obtain ⟨f0, f1⟩ := hra
  obtain ⟨l0, l1⟩ := hrb
  have hla' : f + 1 ≤ (z.length : Int) := by omega
  have hlb' : l + 1 ≤ (z.length : Int) := by omega
  clear hla hlb
  have d0 : decide (a' < 0) = false := decide_eq_false (by omega)
  have d1 : decide (b' < a') = false := decide_eq_false (by omega)
  have d2 : decide ((s.size : Int) < b') = false := decide_eq_false (by omega)
  have HNIL := Aside0.mk (fun W => own_nil W w.heap.size 3 1)
  go_enter Try.func16, Try.ntmps16
  go_wp2_with (first | (go_at_call 30; first | (refine HLA.out.mono ?_; clear HLA; (rintro e w4 ⟨rfl, hb⟩); have HB := Aside0.mk hb; clear hb) | (refine (HLB.out _ (HI.out.below HB.out)).mono ?_; clear HLB; (rintro e w5 ⟨rfl, hb⟩); have hB2 := Aside0.mk (below_step HB.out hb); clear HB hb; have HB := hB2; clear hB2; have j1 := C1.out _ HB.out)) | (at_builtin; refine print_append_row (w0 := w) w.heap.size rfl _ _ 45 3 .i64 8 rfl Try.underlying45 info3 (by decide) (.slice none 0 0) [] (z.take (f + 1).toNat) (some ⟨r, 0, none⟩) _ c rfl rfl (HNIL.out _) (reads_take (CZ.out _ HB.out) (by omega) hlen) HB.out HB.out.size (by simp; omega) ?_; clear HNIL HB j1; intro v6 w6 hown6 hB6 hg6 hat6; have HB := Aside0.mk hB6; have HO := Aside0.mk hown6; clear hB6 hown6 hg6 hat6) | (go_at_call 29; refine (HST.out _).mono ?_; rintro e w7 ⟨v7, rfl, hown, hb⟩; obtain ⟨A7, c7, rfl, hR⟩ := own_reads hown; have HO7 := Aside0.mk (own_move HO.out (fun k hk => hb.block k (own_lt HO.out k hk))); have hB7 := Aside0.mk (below_step HB.out hb); have HR := Aside0.mk hR; clear HO HB hb hown hR; have HB := hB7; clear hB7) | (at_builtin; refine print_append_row (w0 := w) w.heap.size rfl _ _ 45 3 .i64 8 rfl Try.underlying45 info3 (by decide) v6 ([] ++ z.take (f + 1).toNat) q A7 _ c7 rfl rfl HO7.out HR.out HB.out HB.out.size (by simp; omega) ?_; intro v8 w8 hown8 hB8 hg8 hat8; clear HB HO7 HR; have HB := Aside0.mk hB8; have HO := Aside0.mk hown8; clear hB8 hown8 hg8 hat8; have j1 := C1.out _ HB.out))
  case inl =>
    have HD0 : Aside0 (z.length - (l + 1).toNat = 0) := ⟨by omega⟩
    obtain ⟨bs, hbs⟩ : ∃ bs, bs = [] ++ z.take (f + 1).toNat ++ q := ⟨_, rfl⟩
    have hbl : bs.length ≤ 2301 := by rw [hbs, List.length_append, List.nil_append, List.length_take]; omega
    have hbp : 0 < bs.length := by rw [hbs, List.length_append, List.nil_append, List.length_take]; omega
    have HBP := Aside0.mk hbp
    clear hbp
    rw [← hbs] at HO
    have HBS := Aside0.mk hbs
    obtain ⟨dz, hdz⟩ : ∃ dz, dz = z.drop (l + 1).toNat := ⟨_, rfl⟩
    have hdl : z.length - (l + 1).toNat = dz.length := by rw [hdz, List.length_drop]
    have hd2 : dz.length ≤ 2001 := by rw [← hdl]; omega
    have HDZ := Aside0.mk hdz
    obtain ⟨k, hk⟩ : ∃ k, k = (l + 1).toNat := ⟨_, rfl⟩
    rw [hdl]
    rw [← hk]
    have HK := Aside0.mk hk
    obtain ⟨F, hF⟩ : ∃ F : Int → Int, F = fun n => wrap64 (n + ((t.size : Int) - (b' - a'))) := ⟨_, rfl⟩
    have HF := Aside0.mk hF
    have HBL := Aside0.mk hbl
    have HD2 := Aside0.mk hd2
    have HCZ : Aside0 (∀ w', Below w.heap.size w w' → ∀ i, i < dz.length → w'.cell? ⟨r, k + i, none⟩ = some (.int .i64 (dz.getD i 0))) := ⟨fun w' h i hi => by
      have := CZ.out w' h (k + i) (by omega)
      rw [this, HDZ.out, hk]
      simp only [List.getD_eq_getElem?_getD, List.getElem?_drop]⟩
    rw [hdl] at HD0
    clear hbs hdz hbl hd2 hF hdl hk CZ j1
    go_loopg [12, 69] (dz.length + 1) (fun kq v12 v69 w' => ∃ (x : Int) (A : Option Addr) (cp : Nat), v69 = .int .i64 x ∧ v12 = .slice A (bs ++ (dz.take x.toNat).map F).length cp ∧ Aside0 (0 ≤ x ∧ x ≤ (dz.length : Int) ∧ kq + x.toNat = dz.length + 1) ∧ Aside0 (w'.ownsRow w.heap.size 3 1 v12 (bs ++ (dz.take x.toNat).map F).length (nums .i64 (bs ++ (dz.take x.toNat).map F))) ∧ Aside0 (Below w.heap.size w w'))
    case atStart =>
      obtain ⟨A8, c8, e8⟩ := own_slice HO.out
      exact ⟨0, A8, c8, rfl, by simpa using e8, ⟨by omega, by omega, by simp⟩, ⟨by simpa using HO.out⟩, HB⟩
    case round =>
      obtain ⟨x, A, cp, rfl, rfl, HX, HO2, HB2⟩ := hrel
      clear HO HB
      have x0 : 0 ≤ x := HX.out.1
      by_cases c1 : x < (dz.length : Int)
      · exfalso
        have := HD0.out
        omega
      · have e1 : decide (x < (dz.length : Int)) = false := decide_eq_false c1
        have c0 := C0.out _ HB2.out
        have q0 := eq_true a0
        have q1 : (a' ≤ (s.size : Int)) = True := eq_true (by omega)
        have q2 : (0 ≤ b') = True := eq_true (by omega)
        have q3 := eq_true a2
        have g1 : (9223372036854775807 < a'.toNat + t.size) = False := eq_false (by omega)
        have g2 : (9223372036854775807 < a'.toNat + t.size + (s.size - b'.toNat)) = False := eq_false (by omega)
        have hpos : 0 < (bs ++ (dz.take x.toNat).map F).length := by have := HBP.out; rw [List.length_append]; omega
        obtain ⟨r9, c9, e9, hr1, hr2⟩ := HO2.out.form hpos
        cases e9
        have HPOS := Aside0.mk hpos
        clear hpos
        go_wp2
        obtain ⟨w2, hw2⟩ : ∃ w2 : World, w2 = wr.drew := ⟨_, rfl⟩
        have HBd : Aside0 (Below w.heap.size w w2) := by rw [hw2]; exact ⟨HB2.out.drew⟩
        have HOd : Aside0 (w2.ownsRow w.heap.size 3 1 (.slice (some ⟨r9, 0, none⟩) (bs ++ (dz.take x.toNat).map F).length cp) (bs ++ (dz.take x.toNat).map F).length (nums .i64 (bs ++ (dz.take x.toNat).map F))) := by rw [hw2]; exact ⟨own_drew HO2.out⟩
        have HW2 := Aside0.mk hw2
        have k0 := C0.out _ HBd.out
        clear hw2 HB2 HO2 c0
        refine Try.still_tail_any 17 (by kernel_rfl) (by kernel_rfl) w2 HW2.out ?_
        simp only [List.take_succ_cons, List.take_zero, List.drop_succ_cons, List.drop_zero]
        repeat (refine wpStill_step (fun K hK => ?_); go_simp; refine hK _ ?_; clear hK K)
        refine wpStill_nil ?_
        clear k0
        go_wp2
        go_ret2
        have hnew := heap_alloc_new w2 (.cells #[.string (s.extract 0 a'.toNat ++ t ++ s.extract b'.toNat s.size), .slice (some ⟨r9, 0, none⟩) (bs.length + dz.length) cp] 58)
        have ex : x.toNat = dz.length := by have := HX.out; omega
        have eL : z.take (f + 1).toNat ++ q ++ (z.drop k).map (fun n => wrap64 (n + ((t.size : Int) - (b' - a')))) = bs ++ (dz.take x.toNat).map F := by
          rw [ex, List.take_length, HF.out, HBS.out, List.nil_append, HDZ.out, HK.out]
        have hr2' : r9 < w2.heap.size := own_lt HOd.out r9 rfl
        rw [HK.out] at eL
        refine ⟨w2.heap.size, rfl, ?_, HBd.out.alloc HBd.out.size _⟩
        rw [eL]
        have eln : (bs ++ (dz.take x.toNat).map F).length = bs.length + dz.length := by rw [List.length_append, List.length_map, List.length_take, ex]; omega
        refine ⟨r9, cp, Go.Lib.cell_of_heap hnew 0, by rw [eln]; exact Go.Lib.cell_of_heap hnew 1, own_cap HOd.out, HPOS.out, fun i hi => ?_⟩
        have hx := (own_at HOd.out (i : Int) (by omega) (by omega)).1
        exact (((Below.refl _ w2).alloc (Nat.le_refl _) _).cell (p := ⟨r9, i, none⟩) hr2').trans hx
  case inr =>
    obtain ⟨bs, hbs⟩ : ∃ bs, bs = [] ++ z.take (f + 1).toNat ++ q := ⟨_, rfl⟩
    have hbl : bs.length ≤ 2301 := by rw [hbs, List.length_append, List.nil_append, List.length_take]; omega
    have hbp : 0 < bs.length := by rw [hbs, List.length_append, List.nil_append, List.length_take]; omega
    have HBP := Aside0.mk hbp
    clear hbp
    rw [← hbs] at HO
    have HBS := Aside0.mk hbs
    obtain ⟨dz, hdz⟩ : ∃ dz, dz = z.drop (l + 1).toNat := ⟨_, rfl⟩
    have hdl : z.length - (l + 1).toNat = dz.length := by rw [hdz, List.length_drop]
    have hd2 : dz.length ≤ 2001 := by rw [← hdl]; omega
    have HDZ := Aside0.mk hdz
    obtain ⟨k, hk⟩ : ∃ k, k = (l + 1).toNat := ⟨_, rfl⟩
    rw [hdl]
    rw [← hk]
    have HK := Aside0.mk hk
    obtain ⟨F, hF⟩ : ∃ F : Int → Int, F = fun n => wrap64 (n + ((t.size : Int) - (b' - a'))) := ⟨_, rfl⟩
    have HF := Aside0.mk hF
    have HBL := Aside0.mk hbl
    have HD2 := Aside0.mk hd2
    have HCZ : Aside0 (∀ w', Below w.heap.size w w' → ∀ i, i < dz.length → w'.cell? ⟨r, k + i, none⟩ = some (.int .i64 (dz.getD i 0))) := ⟨fun w' h i hi => by
      have := CZ.out w' h (k + i) (by omega)
      rw [this, HDZ.out, hk]
      simp only [List.getD_eq_getElem?_getD, List.getElem?_drop]⟩
    clear hbs hdz hbl hd2 hF hdl hk CZ j1
    go_loopg [12, 69] (dz.length + 1) (fun kq v12 v69 w' => ∃ (x : Int) (A : Option Addr) (cp : Nat), v69 = .int .i64 x ∧ v12 = .slice A (bs ++ (dz.take x.toNat).map F).length cp ∧ Aside0 (0 ≤ x ∧ x ≤ (dz.length : Int) ∧ kq + x.toNat = dz.length + 1) ∧ Aside0 (w'.ownsRow w.heap.size 3 1 v12 (bs ++ (dz.take x.toNat).map F).length (nums .i64 (bs ++ (dz.take x.toNat).map F))) ∧ Aside0 (Below w.heap.size w w'))
    case atStart =>
      obtain ⟨A8, c8, e8⟩ := own_slice HO.out
      exact ⟨0, A8, c8, rfl, by simpa using e8, ⟨by omega, by omega, by simp⟩, ⟨by simpa using HO.out⟩, HB⟩
    case round =>
      obtain ⟨x, A, cp, rfl, rfl, HX, HO2, HB2⟩ := hrel
      clear HO HB
      have x0 : 0 ≤ x := HX.out.1
      by_cases c1 : x < (dz.length : Int)
      · have e1 : decide (x < (dz.length : Int)) = true := decide_eq_true c1
        have hcell := HCZ.out _ HB2.out x.toNat (by omega)
        obtain ⟨n, hn⟩ : ∃ n, n = dz.getD x.toNat 0 := ⟨_, rfl⟩
        rw [← hn] at hcell
        have HN := Aside0.mk hn
        have hln : (bs ++ (dz.take x.toNat).map F).length ≤ 4400 := by have := HBL.out; have := HD2.out; simp; omega
        clear hn
        go_wp2_with (at_builtin; refine print_append_num (w0 := w) w.heap.size rfl _ _ 45 3 .i64 8 rfl Try.underlying45 info3 (by decide) (.slice A (bs ++ (dz.take x.toNat).map F).length cp) (bs ++ (dz.take x.toNat).map F) (wrap64 (n + ((t.size : Int) - (b' - a')))) rfl rfl HO2.out HB2.out HB2.out.size (by omega) ?_; intro v9 w9 hown9 hB9 hg9 hat9; clear HO2 HB2; have HB2 := Aside0.mk hB9; have HO2 := Aside0.mk hown9; clear hB9 hown9 hg9 hat9)
        go_roundg (gk - 1)
        case measure => have := HX.out; omega
        case rel =>
          have hx := HX.out
          have ex : (x + 1).toNat = x.toNat + 1 := by omega
          have hh := HO2.out
          have el : bs ++ (dz.take (x + 1).toNat).map F = bs ++ (dz.take x.toNat).map F ++ [wrap64 (n + ((t.size : Int) - (b' - a')))] := by
            have hn : dz[x.toNat]'(by omega) = n := by rw [HN.out, List.getD_eq_getElem?_getD, List.getElem?_eq_getElem (by omega)]; rfl
            rw [ex, List.take_succ_eq_append_getElem (by omega), List.map_append, hn, List.map_singleton, ← List.append_assoc]
            congr 2
            rw [HF.out]
          obtain ⟨A9, c9, e9⟩ := own_slice hh
          refine ⟨x + 1, A9, c9, by first | rfl | (have := HD2.out; congr 1; unfold wrap64; omega), by rw [el]; exact e9, ⟨by omega, by omega, by omega⟩, ⟨?_⟩, HB2⟩
          rw [el]
          exact hh
      · have e1 : decide (x < (dz.length : Int)) = false := decide_eq_false c1
        have c0 := C0.out _ HB2.out
        have q0 := eq_true a0
        have q1 : (a' ≤ (s.size : Int)) = True := eq_true (by omega)
        have q2 : (0 ≤ b') = True := eq_true (by omega)
        have q3 := eq_true a2
        have g1 : (9223372036854775807 < a'.toNat + t.size) = False := eq_false (by omega)
        have g2 : (9223372036854775807 < a'.toNat + t.size + (s.size - b'.toNat)) = False := eq_false (by omega)
        have hpos : 0 < (bs ++ (dz.take x.toNat).map F).length := by have := HBP.out; rw [List.length_append]; omega
        obtain ⟨r9, c9, e9, hr1, hr2⟩ := HO2.out.form hpos
        cases e9
        have HPOS := Aside0.mk hpos
        clear hpos
        go_wp2
        obtain ⟨w2, hw2⟩ : ∃ w2 : World, w2 = wr.drew := ⟨_, rfl⟩
        have HBd : Aside0 (Below w.heap.size w w2) := by rw [hw2]; exact ⟨HB2.out.drew⟩
        have HOd : Aside0 (w2.ownsRow w.heap.size 3 1 (.slice (some ⟨r9, 0, none⟩) (bs ++ (dz.take x.toNat).map F).length cp) (bs ++ (dz.take x.toNat).map F).length (nums .i64 (bs ++ (dz.take x.toNat).map F))) := by rw [hw2]; exact ⟨own_drew HO2.out⟩
        have HW2 := Aside0.mk hw2
        have k0 := C0.out _ HBd.out
        clear hw2 HB2 HO2 c0
        refine Try.still_tail_any 17 (by kernel_rfl) (by kernel_rfl) w2 HW2.out ?_
        simp only [List.take_succ_cons, List.take_zero, List.drop_succ_cons, List.drop_zero]
        repeat (refine wpStill_step (fun K hK => ?_); go_simp; refine hK _ ?_; clear hK K)
        refine wpStill_nil ?_
        clear k0
        go_wp2
        go_ret2
        have hnew := heap_alloc_new w2 (.cells #[.string (s.extract 0 a'.toNat ++ t ++ s.extract b'.toNat s.size), .slice (some ⟨r9, 0, none⟩) (bs.length + dz.length) cp] 58)
        have ex : x.toNat = dz.length := by have := HX.out; omega
        have eL : z.take (f + 1).toNat ++ q ++ (z.drop k).map (fun n => wrap64 (n + ((t.size : Int) - (b' - a')))) = bs ++ (dz.take x.toNat).map F := by
          rw [ex, List.take_length, HF.out, HBS.out, List.nil_append, HDZ.out, HK.out]
        have hr2' : r9 < w2.heap.size := own_lt HOd.out r9 rfl
        rw [HK.out] at eL
        refine ⟨w2.heap.size, rfl, ?_, HBd.out.alloc HBd.out.size _⟩
        rw [eL]
        have eln : (bs ++ (dz.take x.toNat).map F).length = bs.length + dz.length := by rw [List.length_append, List.length_map, List.length_take, ex]; omega
        refine ⟨r9, cp, Go.Lib.cell_of_heap hnew 0, by rw [eln]; exact Go.Lib.cell_of_heap hnew 1, own_cap HOd.out, HPOS.out, fun i hi => ?_⟩
        have hx := (own_at HOd.out (i : Int) (by omega) (by omega)).1
        exact (((Below.refl _ w2).alloc (Nat.le_refl _) _).cell (p := ⟨r9, i, none⟩) hr2').trans hx
end Go.Proofs.Ytgejmmkfaliinaa.Lines
