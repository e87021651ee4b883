/- EditsCompose's plain law. -/
import Derived.Test.YtgdkdamikcnjhaaEditsCC2
namespace Go.Proofs.Ytgdkdamikcnjhaa.PEditsC
open Go.RowKit Go.Proofs.YtgdkdamikcnjhaaW.PrintWords Go.Proofs.YtgdkdamikcnjhaaW.PrintLast Go.Proofs.YtgdkdamikcnjhaaW.PrintMore
set_option linter.unusedVariables false
set_option linter.unusedSimpArgs false
theorem EC_l0 (s : ByteArray) : ∀ (q p : List X) (k : Nat), q.length + 20 ≤ k → (p ++ q).length ≤ 4398046511103 → (∀ e ∈ q, frisketref01_Lean.f s e.f0 e.f1 e.f2 = some true) → frisketlaw01_EditsCompose.l0 k s (p ++ q) (p.length : Int) = some true := by
  intro q
  induction q with
  | nil =>
    intro p k hk hb h
    obtain ⟨k, rfl⟩ : ∃ m, k = m + 1 := ⟨k - 1, by omega⟩
    simp only [frisketlaw01_EditsCompose.l0]
    rw [if_neg (by simp), awake_eq k (by omega)]
    rfl
  | cons e q ih =>
    intro p k hk hb h
    obtain ⟨k, rfl⟩ : ∃ m, k = m + 1 := ⟨k - 1, by omega⟩
    have hl := mid_len p e q
    simp only [List.length_cons] at hk
    simp only [frisketlaw01_EditsCompose.l0]
    rw [if_pos (by omega), if_pos (by omega)]
    rw [show rd_T36 (p ++ e :: q) (p.length : Int) = e from rd_mid p e q]
    rw [h e List.mem_cons_self, Option.bind_some, if_pos rfl]
    have w6 : wrap64 ((p.length : Int) + 1) = ((p ++ [e]).length : Int) := by rw [w64 _ (by omega) (by omega), snoc_len]
    rw [w6, mid_assoc p e q]
    exact ih (p ++ [e]) k (by omega) (by rw [← mid_assoc]; exact hb) (fun x hx => h x (List.mem_cons_of_mem _ hx))
theorem lnL_mem {s : ByteArray} {l : List X} {e : X} (h : e ∈ lnL s l) : ∃ x ∈ l, br s x = false ∧ e = ln s x := by
  unfold lnL at h
  obtain ⟨x, hx, rfl⟩ := List.mem_map.1 h
  obtain ⟨h1, h2⟩ := List.mem_filter.1 hx
  exact ⟨x, h1, by simpa using h2, rfl⟩
theorem tz_len (l : List Pc) (m : List UInt8) (h : Ed.tx (tLP l) = m) : tz l = m.length := by rw [← tz_eq, h]
theorem EditsCompose_pure (s : ByteArray) (a b : List X) (hs0 : s.size ≤ 140737488351232) (ha0 : a.length * 32 ≤ 140737488351232) (hb0 : b.length * 32 ≤ 140737488351232) : ∃ k, frisketlaw01_EditsCompose.f k s a b = some true := by
  have hal : a.length ≤ 4398046511103 := by omega
  have hbl : b.length ≤ 4398046511103 := by omega
  refine ⟨a.length + b.length + 9000, ?_⟩
  have hj0t : ∀ k, 20 ≤ k → frisketlaw01_EditsCompose.j0 k s a b true = some true := by
    intro k hk
    obtain ⟨k, rfl⟩ : ∃ m, k = m + 1 := ⟨k - 1, by omega⟩
    simp only [frisketlaw01_EditsCompose.j0, if_true]
    rw [awake_eq _ (by omega)]
    rfl
  unfold frisketlaw01_EditsCompose.f
  by_cases c1 : (s.size : Int) > 300
  · rw [if_pos c1]; exact hj0t _ (by omega)
  rw [if_neg c1, Great_eq a _ (by omega) (by omega), Option.bind_some]
  cases hga : gr a with
  | true => rw [if_pos rfl]; exact hj0t _ (by omega)
  | false =>
  rw [if_neg (by simp), Great_eq b _ (by omega) (by omega), Option.bind_some]
  cases hgb : gr b with
  | true => exact hj0t _ (by omega)
  | false =>
  obtain ⟨ga1, ga2⟩ := gr_len hga
  obtain ⟨gb1, gb2⟩ := gr_len hgb
  have hza := sz_le ga2
  have hzb := sz_le gb2
  have hs : s.size ≤ 300 := by omega
  obtain ⟨k, hk⟩ : ∃ k, a.length + b.length + 9000 = k + 1 := ⟨_, rfl⟩
  rw [hk]
  have hk9 : 8999 ≤ k := by omega
  simp only [frisketlaw01_EditsCompose.j0]
  rw [if_neg (by simp), refRight_eq _ _ _ (by omega) (by omega)]
  obtain ⟨k2, hk2⟩ : ∃ k2, k = k2 + 1 := ⟨k - 1, by omega⟩
  have hj1t : frisketlaw01_EditsCompose.j1 k s a b [] 2 true = some true := by
    rw [hk2]
    simp only [frisketlaw01_EditsCompose.j1, if_true]
    rw [if_pos (by simp), awake_eq _ (by omega)]
    rfl
  unfold edits_Compose.f
  rw [Right_eq _ _ _ (by omega) (by omega), Option.bind_some]
  cases hra : rt s.size 0 a with
  | false =>
    rw [if_neg (by simp), Option.bind_some, Option.bind_some, if_neg (by simp)]
    exact hj1t
  | true =>
  have hRa := rt_R s.size a 0 (Int.le_refl 0) hra
  have hpa := rt_pos (Int.le_refl 0) hra
  have hpl := pcX_len s a 0
  have hpp : ∀ p ∈ pcX s a 0, 0 ≤ p.f1 := pcX_pos s s.size a 0 (Int.le_refl 0) hra
  have hpieces : edits_pieces.f k s a = some (pcX s a 0) := by
    unfold edits_pieces.f
    have := pieces_l0 s (by omega) a [] [] k 0 (by omega) (by simpa using hal) (by simp; omega) (Int.le_refl 0) (by omega) hra
    simpa using this
  rw [if_pos rfl, hpieces, Option.bind_some, apply_eq s a (by omega) hra (by omega), Option.bind_some]
  obtain ⟨M, hM⟩ : ∃ M : ByteArray, M = ⟨(Ed.ap (B s) 0 (tL a)).toArray⟩ := ⟨_, rfl⟩
  have hMB : B M = Ed.ap (B s) 0 (tL a) := by rw [hM, B_mk]
  have hMl : M.size ≤ 300 + 3000 := by
    have := Ed.ap_len s.size (B s) (B_size s) (tL a) 0 (Nat.zero_le _) hRa
    rw [← hMB, B_size] at this
    omega
  rw [← hM]
  have hrA := refApply_eq s a k (by omega) (by omega) hra (by omega)
  rw [← hM] at hrA
  have hrR := refRight_eq M.size b k (by omega) (by omega)
  rw [Right_eq _ _ _ (by omega) (by omega), Option.bind_some]
  cases hrb : rt M.size 0 b with
  | false =>
    rw [hrb] at hrR
    rw [if_neg (by simp), Option.bind_some, Option.bind_some, if_pos rfl, hrA, Option.bind_some, hrR, Option.bind_some]
    exact hj1t
  | true =>
  rw [hrb] at hrR
  have hRb := rt_R M.size b 0 (Int.le_refl 0) hrb
  obtain ⟨L, hL⟩ : ∃ L, L = pcX s a 0 := ⟨_, rfl⟩
  rw [← hL] at hpl hpp ⊢
  have hLt : tLP L = Ed.pc (B s) 0 (tL a) := by rw [hL]; exact pcX_eq s a 0
  have hLx : Ed.tx (tLP L) = B M := by rw [hLt, Ed.tx_pc, hMB]
  have hLw : Ed.wf (B s) 0 (tLP L) s.size := by
    rw [hLt]
    have := Ed.wf_pc (B s) (tL a) 0 (Nat.zero_le _) (by rw [B_size]; exact hRa)
    rw [B_size] at this
    exact this
  have hLz : tz L = M.size := by rw [tz_len L _ hLx, B_size]
  have hLb : ∀ p ∈ L, 0 ≤ p.f1 ∧ p.f1 ≤ 1000000000 := by
    intro p hp
    refine ⟨hpp p hp, ?_⟩
    rw [hL] at hp
    have key : ∀ (l : List X) (x : Int), x ≤ s.size → (∀ e ∈ l, 0 ≤ e.f0 ∧ e.f0 ≤ e.f1 ∧ e.f1 ≤ s.size) → ∀ p ∈ pcX s l x, p.f1 ≤ s.size := by
      intro l
      induction l with
      | nil => intro x hx _ p hp; simp [pcX] at hp; rw [hp]; exact hx
      | cons e l ih =>
        intro x hx he p hp
        obtain ⟨i1, i2, i3⟩ := he e List.mem_cons_self
        simp only [pcX, List.mem_cons] at hp
        rcases hp with rfl | rfl | hp
        · exact hx
        · show e.f0 ≤ _; omega
        · exact ih e.f1 i3 (fun y hy => he y (List.mem_cons_of_mem _ hy)) p hp
    have := key a 0 (by omega) hpa p hp
    omega
  obtain ⟨Q, hQ⟩ : ∃ Q, Q = cmX L M.size 0 b := ⟨_, rfl⟩
  have hQt : tLP Q = Ed.cm (tLP L) M.size 0 (tL b) := by
    rw [hQ, cmX_eq L M.size (by omega) hpp b 0 (Int.le_refl 0) hrb, Int.toNat_natCast]; rfl
  have hQx : Ed.tx (tLP Q) = Ed.ap (B M) 0 (tL b) := by
    rw [hQt, Ed.tx_cm (tLP L) M.size (by rw [hLx, B_size]) (tL b) 0 hRb, hLx]
  have hQp : ∀ p ∈ Q, 0 ≤ p.f1 := by rw [hQ]; exact cmX_pos L M.size (by omega) hpp b 0 (Int.le_refl 0) hrb
  have hQl : Q.length ≤ (L.length + 1) * (b.length + 1) := by
    have e1 : Q.length = (tLP Q).length := by simp [tLP]
    have e2 := Ed.cm_len (tLP L) M.size (tL b) 0
    have e3 : (tLP L).length = L.length := by simp [tLP]
    rw [e1, hQt]
    rw [e3, tL_len] at e2
    exact e2
  have hQl2 : Q.length ≤ 2000 := by
    have : (L.length + 1) * (b.length + 1) ≤ 62 * 31 := Nat.mul_le_mul (by omega) (by omega)
    omega
  have hQw : Ed.wf (B s) 0 (tLP Q) s.size := by
    rw [hQt]
    have := Ed.wf_cm (B s) (tLP L) M.size s.size hLw (tL b) 0 (Nat.zero_le _) hRb
    rw [Ed.sp_at _ _ _ _ (Nat.le_refl 0)] at this
    exact this
  have hQz : tz Q ≤ 10000 := by
    rw [tz_len Q _ hQx]
    have := Ed.ap_len M.size (B M) (B_size M) (tL b) 0 (Nat.zero_le _) hRb
    omega
  obtain ⟨G, hG⟩ : ∃ G, G = gpX s Q 0 ⟨#[]⟩ := ⟨_, rfl⟩
  have hB0 : B (⟨#[]⟩ : ByteArray) = [] := rfl
  have hs0' : (⟨#[]⟩ : ByteArray).size = 0 := rfl
  have hGt : tL G = Ed.gp s.size 0 [] (tLP Q) := by rw [hG, gpX_eq s Q 0 ⟨#[]⟩ (Int.le_refl 0) hQp, hB0]; rfl
  have hGp : ∀ e ∈ G, 0 ≤ e.f0 ∧ 0 ≤ e.f1 ∧ e.f2.size ≤ 10000 := by rw [hG]; exact gpX_pos s 10000 Q 0 ⟨#[]⟩ (Int.le_refl 0) hQp (by omega)
  have hGl : G.length ≤ 2001 := by rw [hG]; have := gpX_len s Q 0 ⟨#[]⟩; omega
  have hGr : rt s.size 0 G = true := by
    refine R_rt s.size G 0 (fun e he => ⟨(hGp e he).1, (hGp e he).2.1⟩) (Int.le_refl 0) ?_
    rw [hGt]
    have := Ed.gp_R (B s) (tLP Q) 0 [] (by rw [B_size]; exact hQw)
    rw [B_size] at this
    exact this
  have hGa : Ed.ap (B s) 0 (tL G) = Ed.ap (B M) 0 (tL b) := by
    rw [hGt]
    have := Ed.gp_ap (B s) (tLP Q) 0 [] (by rw [B_size]; exact hQw)
    rw [B_size] at this
    rw [this, List.nil_append, hQx]
  have hed : edits_edits.f s Q = some (lnL s G) := by
    unfold edits_edits.f
    rw [if_pos (by omega), edits_g s (by omega) Q 0 ⟨#[]⟩ [] hQw hQp (Int.le_refl 0) (by omega) (by simp; omega), List.nil_append, hG]
  have hcomp : edits_Compose.l0 k s L M [] 0 b (b.length : Int) 0 = some (lnL s G, 0) := by
    obtain ⟨m, hm⟩ : ∃ m, k = m + L.length + 1 := ⟨k - L.length - 1, by omega⟩
    rw [hm]
    have := Compose_l0 s L M (by omega) (by omega) (by omega) hLb (lnL s G) b [] [] m 0 (by omega) (by simpa using (by omega)) (by
      have : (L.length + 1) * (b.length + 1) ≤ 62 * 31 := Nat.mul_le_mul (by omega) (by omega)
      simp only [List.length_nil]; omega) (Int.le_refl 0) (by omega) hrb (by rw [List.nil_append, ← hQ]; omega) (by rw [List.nil_append, ← hQ]; exact hed)
    simpa using this
  rw [if_pos rfl, hcomp, Option.bind_some, Option.bind_some, if_pos rfl, hrA, Option.bind_some, hrR, Option.bind_some]
  dsimp only
  have hlr : rt s.size 0 (lnL s G) = true := lnL_rt s G 0 0 (Int.le_refl 0) hGr (Int.le_refl 0)
  have hll := lnL_len s G
  have hfo : Ed.ap (B s) 0 (tL (lnL s G)) = Ed.ap (B s) 0 (tL G) := by
    have h1 := lnL_foldr s G 0 (Int.le_refl 0) hGr
    rw [Ed.foldr_ap s.size (B s) (B_size s) _ (rt_R s.size _ 0 (Int.le_refl 0) hlr), Ed.foldr_ap s.size (B s) (B_size s) _ (rt_R s.size _ 0 (Int.le_refl 0) hGr)] at h1
    exact h1
  have hszl : Ed.sz (tL (lnL s G)) ≤ 10000 * 2001 := by
    have key : ∀ (l : List X), (∀ e ∈ l, e.f2.size ≤ 10000) → Ed.sz (tL l) ≤ 10000 * l.length := by
      intro l
      induction l with
      | nil => intro _; simp [tL, Ed.sz]
      | cons e l ih =>
        intro h
        have i1 := ih (fun x hx => h x (List.mem_cons_of_mem _ hx))
        have i2 := h e List.mem_cons_self
        have hcons : tL (e :: l) = tE e :: tL l := rfl
        rw [hcons]
        simp only [Ed.sz, tE, B_size, List.length_cons]
        omega
    have i := key (lnL s G) (by
      intro e he
      obtain ⟨x, hx, hxb, rfl⟩ := lnL_mem he
      obtain ⟨j1, j2, j3⟩ := rt_pos (Int.le_refl 0) hGr x hx
      have := (ln_in s x j1 j2 j3).2.2.2.2
      have := (hGp x hx).2.2
      omega)
    omega
  rw [hk2]
  simp only [frisketlaw01_EditsCompose.j1, Bool.not_true]
  rw [if_neg (by simp), if_pos trivial, refRight_eq _ _ _ (by omega) (by omega), Option.bind_some, hlr, if_pos rfl, refApply_eq s (lnL s G) _ (by omega) (by omega) hlr (by omega), Option.bind_some, refApply_eq s a _ (by omega) (by omega) hra (by omega), Option.bind_some, ← hM, refApply_eq M b _ (by omega) (by omega) hrb (by omega), Option.bind_some, hfo, hGa]
  obtain ⟨k3, hk3⟩ : ∃ k3, k2 = k3 + 1 := ⟨k2 - 1, by omega⟩
  rw [hk3]
  simp only [frisketlaw01_EditsCompose.j2]
  rw [if_neg (by simp)]
  have hfin := EC_l0 s (lnL s G) [] k3 (by omega) (by simp only [List.nil_append]; omega) (by
    intro e he
    obtain ⟨x, hx, hxb, rfl⟩ := lnL_mem he
    obtain ⟨j1, j2, j3⟩ := rt_pos (Int.le_refl 0) hGr x hx
    have := (hGp x hx).2.2
    exact refLean_true s x (by omega) (by omega) j1 j2 j3 hxb)
  simpa using hfin
end Go.Proofs.Ytgdkdamikcnjhaa.PEditsC
