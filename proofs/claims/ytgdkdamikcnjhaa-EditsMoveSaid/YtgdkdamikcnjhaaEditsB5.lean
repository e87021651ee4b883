/- EditsMove's plain law, its loops joined. -/
import Derived.Test.YtgdkdamikcnjhaaEditsB4
namespace Go.Proofs.Ytgdkdamikcnjhaa.PEdits
open Go.RowKit Go.Proofs.YtgdkdamikcnjhaaW.PrintWords Go.Proofs.YtgdkdamikcnjhaaW.PrintLast
set_option linter.unusedVariables false
set_option linter.unusedSimpArgs false
theorem EM_l0 (s : ByteArray) (x7 x8 : Int) (k : Nat) (hs : s.size ≤ 1000000) : ∀ (n : Nat) (p q : List X) (x9 : Int), p.length = n → (p ++ q).length ≤ 4398046511103 → (∀ e ∈ p, 0 ≤ e.f0 ∧ e.f0 ≤ e.f1 ∧ e.f1 ≤ s.size) → 0 ≤ x9 → (∀ p1 p2, p = p1 ++ p2 → 0 ≤ cs p1) → x9 + cs p ≤ 1152921504606846976 →
    frisketlaw01_EditsMove.l0 (p.length + 1 + k) s (p ++ q) x7 x8 x9 ((p.length : Int) - 1) = frisketlaw01_EditsMove.l1 k s (p ++ q) x7 x8 (x9 + cs p) (-1) 0 := by
  intro n
  induction n with
  | zero =>
    intro p q x9 hn hb hp h9 hc h10
    obtain rfl : p = [] := List.length_eq_zero_iff.1 hn
    rw [show ([] : List X).length + 1 + k = k + 1 from by simp; omega]
    simp only [frisketlaw01_EditsMove.l0, cs]
    rw [if_neg (by simp), Int.add_zero]
  | succ n ih =>
    intro p q x9 hn hb hp h9 hc h10
    obtain ⟨p', e, rfl⟩ : ∃ p' e, p = p' ++ [e] := ⟨p.dropLast, p.getLast (by intro h; simp [h] at hn), (List.dropLast_concat_getLast _).symm⟩
    have hl := snoc_len p' e
    have hl2 : (p' ++ [e] ++ q).length = p'.length + 1 + q.length := by simp; omega
    have hlN : (p' ++ [e]).length = p'.length + 1 := by simp
    rw [show (p' ++ [e]).length + 1 + k = (p'.length + 1 + k) + 1 from by omega]
    have hi : (((p' ++ [e]).length : Int) - 1) = (p'.length : Int) := by omega
    rw [hi]
    have hr : rd_T36 (p' ++ [e] ++ q) (p'.length : Int) = e := by rw [List.append_assoc]; exact rd_mid p' e q
    obtain ⟨m1, m2, m3⟩ := hp e (by simp)
    have hc1 := hc p' [e] rfl
    rw [cs_app] at h10
    simp only [cs, Int.add_zero] at h10
    simp only [frisketlaw01_EditsMove.l0]
    rw [hr, if_pos (by omega), if_pos (by omega), if_pos (by omega), if_pos m1, if_pos m2, if_pos m3]
    have hx : ((s.extract e.f0.toNat e.f1.toNat).size : Int) = e.f1 - e.f0 := by rw [ByteArray.size_extract]; omega
    rw [hx, w64 (x9 + (e.f1 - e.f0)) (by omega) (by omega), w64 (x9 + (e.f1 - e.f0) + _) (by omega) (by omega), w64 ((p'.length : Int) - 1) (by omega) (by omega)]
    have := ih p' ([e] ++ q) (x9 + (e.f1 - e.f0) + (e.f2.size : Int)) (by omega) (by simpa using hb) (fun z hz => hp z (by simp [hz])) (by omega) (fun p1 p2 h => hc p1 (p2 ++ [e]) (by rw [h]; simp)) (by omega)
    rw [List.append_assoc, this, cs_app]
    congr 1
    simp only [cs]; omega
def fi (x7 : Int) : List X → Int → Int → Int
  | [], _, c => c
  | e :: q, i, c => fi x7 q (i + 1) (if over x7 e = true then i else c)
theorem fi_none (x7 : Int) : ∀ (q : List X) (i c : Int), (∀ e ∈ q, over x7 e = false) → fi x7 q i c = c := by
  intro q
  induction q with
  | nil => intro i c _; rfl
  | cons e q ih =>
    intro i c h
    simp only [fi]
    rw [h e List.mem_cons_self, ih _ _ (fun x hx => h x (List.mem_cons_of_mem _ hx))]
    rfl
theorem fi_some (x7 : Int) (e : X) (q2 : List X) (ho : over x7 e = true) (h2 : ∀ x ∈ q2, over x7 x = false) : ∀ (q1 : List X) (i c : Int), (∀ x ∈ q1, over x7 x = false) → fi x7 (q1 ++ e :: q2) i c = i + q1.length := by
  intro q1
  induction q1 with
  | nil =>
    intro i c _
    simp only [List.nil_append, fi]
    rw [ho, fi_none x7 q2 _ _ h2]
    simp
  | cons x q1 ih =>
    intro i c h
    simp only [List.cons_append, fi]
    rw [ih _ _ (fun y hy => h y (List.mem_cons_of_mem _ hy))]
    simp; omega
theorem EM_l1 (s : ByteArray) (x7 x8 x9 : Int) (k : Nat) : ∀ (q p : List X) (x11 : Int), (p ++ q).length ≤ 4398046511103 →
    frisketlaw01_EditsMove.l1 (q.length + 1 + k) s (p ++ q) x7 x8 x9 x11 (p.length : Int) = frisketlaw01_EditsMove.l2 k s (p ++ q) x7 x8 x9 (fi x7 q p.length x11) [] 0 := by
  intro q
  induction q with
  | nil =>
    intro p x11 hb
    rw [show ([] : List X).length + 1 + k = k + 1 from by simp; omega]
    simp only [frisketlaw01_EditsMove.l1, fi]
    rw [if_neg (by simp)]
  | cons e q ih =>
    intro p x11 hb
    have hl := mid_len p e q
    rw [show (e :: q).length + 1 + k = (q.length + 1 + k) + 1 from by simp; omega]
    simp only [frisketlaw01_EditsMove.l1, fi]
    rw [if_pos (by omega), if_pos (by omega)]
    rw [show rd_T36 (p ++ e :: q) (p.length : Int) = e from rd_mid p e q]
    have w6 : wrap64 ((p.length : Int) + 1) = ((p ++ [e]).length : Int) := by rw [w64 _ (by omega) (by omega), snoc_len]
    have step := fun c => ih (p ++ [e]) c (by rw [← mid_assoc]; exact hb)
    rw [snoc_len, ← mid_assoc] at step
    rw [w6, snoc_len]
    unfold over
    by_cases c1 : e.f0 < x7
    · rw [if_pos c1]
      by_cases c2 : e.f1 > x7
      · rw [if_pos c2, step, decide_eq_true c1, decide_eq_true c2]; rfl
      · rw [if_neg c2, step, decide_eq_true c1, decide_eq_false c2]; rfl
    · rw [if_neg c1, step, decide_eq_false c1]; rfl
theorem EM_l2 (s : ByteArray) (x7 x8 x9 x11 : Int) (k : Nat) : ∀ (q p out : List X), (p ++ q).length ≤ 4398046511103 → out.length + q.length ≤ 4398046511103 →
    frisketlaw01_EditsMove.l2 (q.length + 1 + k) s (p ++ q) x7 x8 x9 x11 out (p.length : Int) = (if x11 ≥ 0 then (if 0 ≤ x11 then (if x11 < ((p ++ q).length : Int) then (frisketlaw01_EditsMove.j4 k s (p ++ q) x7 ((rd_T36 (p ++ q) x11).f0) x9 (out ++ hd x7 q)) else (none)) else (none)) else (frisketlaw01_EditsMove.j4 k s (p ++ q) x7 x8 x9 (out ++ hd x7 q))) := by
  intro q
  induction q with
  | nil =>
    intro p out hb ho
    rw [show ([] : List X).length + 1 + k = k + 1 from by simp; omega]
    simp only [frisketlaw01_EditsMove.l2, hd, List.filter_nil, List.append_nil]
    rw [if_neg (by simp)]
  | cons e q ih =>
    intro p out hb ho
    have hl := mid_len p e q
    simp only [List.length_cons] at ho
    rw [show (e :: q).length + 1 + k = (q.length + 1 + k) + 1 from by simp; omega]
    rw [frisketlaw01_EditsMove.l2.eq_2]
    rw [if_pos (by omega), if_pos (by omega)]
    rw [show rd_T36 (p ++ e :: q) (p.length : Int) = e from rd_mid p e q]
    have w6 : wrap64 ((p.length : Int) + 1) = ((p ++ [e]).length : Int) := by rw [w64 _ (by omega) (by omega), snoc_len]
    rw [w6]
    have step := fun o ho => ih (p ++ [e]) o (by rw [← mid_assoc]; exact hb) ho
    rw [← mid_assoc] at step
    by_cases c1 : e.f1 ≤ x7
    · rw [if_pos c1, if_pos (by omega), step _ (by simp; omega)]
      have : out ++ [(⟨e.f0, e.f1, e.f2⟩ : X)] ++ hd x7 q = out ++ hd x7 (e :: q) := by
        unfold hd
        rw [List.filter_cons_of_pos (by simpa using c1), List.append_assoc]; rfl
      rw [this]
    · rw [if_neg c1, step _ (by omega)]
      have : hd x7 (e :: q) = hd x7 q := by
        unfold hd
        rw [List.filter_cons_of_neg (by simpa using c1)]
      rw [this]
theorem EM_j4 (s : ByteArray) (l : List X) (x7 x8 x9 : Int) (h : List X) (k : Nat) (hk : l.length + 20 ≤ k) (hb : l.length ≤ 4398046511103) (hhl : h.length ≤ l.length) (h8 : 0 ≤ x8) (h8' : x8 ≤ s.size) (hs : s.size ≤ 1000000) (hr : rt x8 0 h = true) (hz : Ed.sz (tL h) ≤ 1000000)
    (hm : ∀ k, l.length < k → edits_Move.f k x7 l = some (x8 + dl h)) (hcost : ∀ k, l.length < k → edits_Cost.f k l = some x9) : frisketlaw01_EditsMove.j4 k s l x7 x8 x9 h = some true := by
  obtain ⟨k, rfl⟩ : ∃ m, k = m + 1 := ⟨k - 1, by omega⟩
  simp only [frisketlaw01_EditsMove.j4]
  have hsz : (s.extract 0 x8.toNat).size = x8.toNat := by rw [ByteArray.size_extract]; omega
  have hsz' : ((s.extract 0 x8.toNat).size : Int) = x8 := by omega
  have hr' : rt ((s.extract 0 x8.toNat).size : Int) 0 h = true := by rw [hsz']; exact hr
  rw [if_pos h8, if_pos h8', refApply_eq _ h k (by omega) (by omega) hr' (by omega)]
  simp only [Option.bind_some]
  rw [hm k (by omega)]
  simp only [Option.bind_some]
  have hlen := ap_dl (s.extract 0 x8.toNat).size (B (s.extract 0 x8.toNat)) (B_size _) h 0 (Int.le_refl 0) (by omega) hr'
  have hT : ((⟨(Ed.ap (B (s.extract 0 x8.toNat)) 0 (tL h)).toArray⟩ : ByteArray).size : Int) = x8 + dl h := by
    have e1 : (⟨(Ed.ap (B (s.extract 0 x8.toNat)) 0 (tL h)).toArray⟩ : ByteArray).size = (Ed.ap (B (s.extract 0 x8.toNat)) 0 (tL h)).length := by simp [ByteArray.size]
    rw [show Int.toNat 0 = 0 from rfl] at hlen
    omega
  rw [hT, if_pos rfl, hcost k (by omega)]
  simp only [Option.bind_some]
  rw [if_pos trivial, awake_eq k (by omega)]
  rfl
theorem EditsMove_pure (s : ByteArray) (l : List X) (a2 : Int) (hs : s.size ≤ 140737488351232) (hb0 : l.length * 32 ≤ 140737488351232) (w2 : (Lit.int .u16 a2).wf = true) : ∃ k, frisketlaw01_EditsMove.f k s l a2 = some true := by
  have hb : l.length ≤ 4398046511103 := by omega
  have ha2 : 0 ≤ a2 ∧ a2 ≤ 65535 := by
    simp [Lit.wf, IntKind.min, IntKind.max, IntKind.signed, IntKind.bits] at w2
    omega
  refine ⟨(l.length + 1 + (l.length + 1 + (l.length + 1 + (l.length + 40)))) + 1, ?_⟩
  have hj0t : ∀ k, 20 ≤ k → frisketlaw01_EditsMove.j0 k s l a2 true = some true := by
    intro k hk
    obtain ⟨k, rfl⟩ : ∃ m, k = m + 1 := ⟨k - 1, by omega⟩
    simp only [frisketlaw01_EditsMove.j0, if_true]
    rw [awake_eq _ (by omega)]
    rfl
  unfold frisketlaw01_EditsMove.f
  by_cases c1 : (s.size : Int) > 300
  · rw [if_pos c1]; exact hj0t _ (by omega)
  rw [if_neg c1, Great_eq l _ (by omega) (by omega)]
  simp only [Option.bind_some]
  cases hg : gr l with
  | true => rw [if_pos rfl]; exact hj0t _ (by omega)
  | false =>
    rw [if_neg (by simp), refRight_eq _ _ _ (by omega) (by omega)]
    simp only [Option.bind_some]
    cases hr : rt s.size 0 l with
    | false => exact hj0t _ (by omega)
    | true =>
      obtain ⟨g1, g2⟩ := gr_len hg
      have hz := sz_le g2
      have hpos := rt_pos (Int.le_refl 0) hr
      have hcb : ∀ (q : List X), (∀ e ∈ q, e ∈ l) → 0 ≤ cs q ∧ cs q ≤ 400 * q.length := by
        intro q
        induction q with
        | nil => intro _; simp [cs]
        | cons e q ih =>
          intro h
          have i := ih (fun x hx => h x (List.mem_cons_of_mem _ hx))
          have i1 := hpos e (h e List.mem_cons_self)
          have i2 := g2 e (h e List.mem_cons_self)
          simp only [cs, List.length_cons]
          omega
      have hcl := hcb l (fun _ h => h)
      simp only [Bool.not_true, frisketlaw01_EditsMove.j0]
      rw [if_neg (by simp), w64 ((s.size : Int) + 1) (by omega) (by omega), w64 a2 (by omega) (by omega), w64 ((l.length : Int) - 1) (by omega) (by omega), if_neg (by omega)]
      have hm0 : Int.tmod a2 ((s.size : Int) + 1) = a2 % ((s.size : Int) + 1) := Int.tmod_eq_emod_of_nonneg ha2.1
      rw [hm0]
      have hx1 : 0 ≤ a2 % ((s.size : Int) + 1) := Int.emod_nonneg _ (by omega)
      have hx2 : a2 % ((s.size : Int) + 1) < (s.size : Int) + 1 := Int.emod_lt_of_pos _ (by omega)
      generalize a2 % ((s.size : Int) + 1) = x7 at hx1 hx2 ⊢
      have e0 := EM_l0 s x7 x7 (l.length + 1 + (l.length + 1 + (l.length + 40))) (by omega) l.length l [] 0 rfl (by simpa using hb) hpos (Int.le_refl 0) (fun p1 p2 h => (hcb p1 (fun e he => by rw [h]; exact List.mem_append_left _ he)).1) (by omega)
      rw [List.append_nil, Int.zero_add] at e0
      have e1 := EM_l1 s x7 x7 (cs l) (l.length + 1 + (l.length + 40)) l [] (-1) (by simpa using hb)
      have e2 := EM_l2 s x7 x7 (cs l) (fi x7 l 0 (-1)) (l.length + 40) l [] [] (by simpa using hb) (by simpa using hb)
      simp only [List.nil_append, List.length_nil, Int.ofNat_zero, Int.natCast_zero] at e1 e2
      rw [e0, e1, e2]
      have hmove : ∀ k, l.length < k → edits_Move.f k x7 l = some (mv x7 0 l) := by
        intro k hk
        unfold edits_Move.f
        have := Move_l0 x7 s.size (by omega) (by omega) l [] k 0 0 hk (by simpa using hb) (Int.le_refl 0) hr (by omega) (by omega)
        simpa using this
      have hcost : ∀ k, l.length < k → edits_Cost.f k l = some (cs l) := by
        intro k hk
        unfold edits_Cost.f
        have := Cost_l0 s.size (by omega) l [] k 0 0 hk (by simpa using hb) (Int.le_refl 0) hr (Int.le_refl 0) (by omega)
        simpa using this
      have hhl : (hd x7 l).length ≤ l.length := List.length_filter_le _ _
      have hzh : Ed.sz (tL (hd x7 l)) ≤ 1000000 := by
        have := sz_le (l := hd x7 l) (fun e he => g2 e (hd_mem he))
        omega
      rcases split_over s.size x7 l 0 (Int.le_refl 0) hr with hno | ⟨q1, e, q2, hq, i1, i2, i3, i4⟩
      · rw [fi_none x7 l 0 (-1) hno, if_neg (by omega)]
        refine EM_j4 s l x7 x7 (cs l) (hd x7 l) _ (by omega) hb hhl hx1 (by omega) (by omega) (rt_hd s.size x7 l 0 0 hr (Int.le_refl 0)) hzh ?_ hcost
        intro k hk
        rw [hmove k hk, mv_none s.size x7 l 0 0 hr hno, Int.add_zero]
      · have hf : fi x7 l 0 (-1) = (q1.length : Int) := by rw [hq, fi_some x7 e q2 i1 i3 q1 0 (-1) i2]; omega
        have hll : l.length = q1.length + q2.length + 1 := by rw [hq, mid_len]
        rw [hf, if_pos (by omega), if_pos (by omega), if_pos (by omega)]
        have hrd : rd_T36 l (q1.length : Int) = e := by rw [hq]; exact rd_mid q1 e q2
        rw [hrd]
        have he := hpos e (by rw [hq]; simp)
        have hov := i1
        unfold over at hov
        simp at hov
        have hhd : hd x7 l = hd x7 q1 := by rw [hq]; unfold hd at i4 ⊢; rw [List.filter_append, i4, List.append_nil]
        have hrt1 : rt e.f0 0 (hd x7 l) = true := by
          rw [hhd]
          have hq1 : rt s.size 0 (q1 ++ e :: q2) = true := by rw [← hq]; exact hr
          have key : ∀ (q : List X) (a b : Int), rt s.size a (q ++ e :: q2) = true → b ≤ a → rt e.f0 b (hd x7 q) = true := by
            intro q
            induction q with
            | nil => intro a b _ _; rfl
            | cons x q ih =>
              intro a b h hb
              obtain ⟨j1, j2, j3, j4⟩ := rt_cons h
              have hle : x.f1 ≤ e.f0 := by
                have : ∀ (q : List X) (a : Int), rt s.size a (q ++ e :: q2) = true → a ≤ e.f0 := by
                  intro q
                  induction q with
                  | nil => intro a h; exact (rt_cons h).1
                  | cons y q ih => intro a h; obtain ⟨k1, k2, k3, k4⟩ := rt_cons h; have := ih y.f1 k4; omega
                exact this q x.f1 j4
              unfold hd
              by_cases c : x.f1 ≤ x7
              · rw [List.filter_cons_of_pos (by simpa using c)]
                simp only [rt]
                rw [if_neg (by omega), if_neg (by omega), if_neg (by omega)]
                exact ih x.f1 x.f1 j4 (Int.le_refl _)
              · rw [List.filter_cons_of_neg (by simpa using c)]
                exact ih x.f1 b j4 (by omega)
          exact key q1 0 0 hq1 (Int.le_refl 0)
        refine EM_j4 s l x7 e.f0 (cs l) (hd x7 l) _ (by omega) hb hhl he.1 (by omega) (by omega) hrt1 hzh ?_ hcost
        intro k hk
        have hq1 : rt s.size 0 (q1 ++ e :: q2) = true := by rw [← hq]; exact hr
        have := mv_some s.size x7 e q2 i1 i4 q1 0 0 hq1 i2
        rw [hmove k hk]
        rw [← hq, Int.add_zero] at this
        rw [this]
end Go.Proofs.Ytgdkdamikcnjhaa.PEdits
