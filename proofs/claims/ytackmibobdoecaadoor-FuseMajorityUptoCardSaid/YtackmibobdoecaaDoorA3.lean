/- Layer 21 (align): the specification's table of least costs. -/
import Derived.Test.YtackmibobdoecaaDoorA1
import Derived.Test.YtackmibobdoecaaDoorP21b
set_option linter.unusedVariables false
set_option linter.unusedSimpArgs false
set_option linter.unusedSectionVars false
set_option linter.deprecated false
namespace Go.Ab
open Go.Proofs
set_option maxRecDepth 100000
set_option maxHeartbeats 4000000
/-- the cells of the outer slice while rows are laid, the last one first: r rows are laid -/
def oD (n w r : Nat) : Nat → V := fun j => if n ≤ j + r then .slice (n - j) 0 w 1 else .row true true [] 0 none
theorem oD_zero (n w : Nat) : tab n (fun _ => V.row true true [] 0 none) = tab n (oD n w 0) := tab_ext fun j hj => by unfold oD; rw [if_neg (by omega)]
theorem oD_step {n w r i : Nat} (h : i + r + 1 = n) : tab n (upd (oD n w r) i (.slice (r + 1) 0 w 1)) = tab n (oD n w (r + 1)) := tab_ext fun j hj => by
  unfold upd oD
  by_cases e : j = i
  · subst e; rw [if_pos rfl, if_pos (by omega)]; congr 1; omega
  · rw [if_neg e]
    by_cases h2 : n ≤ j + r
    · rw [if_pos h2, if_pos (by omega)]
    · rw [if_neg h2, if_neg (by omega)]
theorem oD_at {n w r j : Nat} (h : n ≤ j + r) : oD n w r j = .slice (n - j) 0 w 1 := by unfold oD; rw [if_pos h]
/-- the row that was laid as number s -/
def gL (a b : List Wd) (s k : Nat) : Int := T21 a b (a.length - s) k
/-- a row of which the cells from q on are done -/
def gQ (a b : List Wd) (i q k : Nat) : Int := if q ≤ k then T21 a b i k else 0
theorem gQ_step {a b : List Wd} {w i k : Nat} {v : Int} (hv : v = T21 a b i k) : tab w (upd (fun k' => .int .i64 (gQ a b i (k + 1) k')) k (.int .i64 v)) = tab w (fun k' => .int .i64 (gQ a b i k k')) := tab_ext fun k' _ => by
  unfold upd gQ
  by_cases e : k' = k
  · subst e; rw [if_pos rfl, if_pos (Nat.le_refl _), hv]
  · rw [if_neg e]
    show V.int .i64 (if k + 1 ≤ k' then T21 a b i k' else 0) = V.int .i64 (if k ≤ k' then T21 a b i k' else 0)
    by_cases h : k ≤ k'
    · rw [if_pos (show k + 1 ≤ k' by omega), if_pos h]
    · rw [if_neg (show ¬ k + 1 ≤ k' by omega), if_neg h]
theorem gQ_init {a b : List Wd} {w i : Nat} : tab w (fun _ => V.int .i64 0) = tab w (fun k' => .int .i64 (gQ a b i w k')) := tab_ext fun k' h => by
  unfold gQ; rw [if_neg (by omega)]
theorem gQ_done {a b : List Wd} {i r : Nat} (h : i + r = a.length) : (fun k' => V.int .i64 (gQ a b i 0 k')) = (fun k' => V.int .i64 (gL a b r k')) := by
  funext k'
  unfold gQ gL
  rw [if_pos (Nat.zero_le _), show a.length - r = i by omega]
theorem C78 (a b : List (List UInt8)) (hs : a.length ≤ 64 ∧ b.length ≤ 64) : Kc cfg 78 [R fl0 eS a, R fl0 eS b] (.ret (R fl0 (eR eI) (tabF (a.length + 1) (b.length + 1) (T21 a b)))) := by
  generalize hT : tabF (a.length + 1) (b.length + 1) (T21 a b) = T
  obtain ⟨n, hn⟩ : ∃ n, n = a.length + 1 := ⟨_, rfl⟩
  obtain ⟨w, hw⟩ : ∃ w, w = b.length + 1 := ⟨_, rfl⟩
  have hni : (a.length : Int) + 1 = n := by omega
  have hwi : (b.length : Int) + 1 = w := by omega
  have hs2 : a.length < 1099511627776 ∧ b.length < 1099511627776 := by omega
  refine outS_of_wp cfg (fn := Tryd.f78) Tryd.func78 rfl (by simp [Tryd.f78]) ?_
  simp (disch := first | assumption | omega | (simp; done) | (simp; omega)) [-getElem?_pos, List.getElem?_cons_zero, List.getElem?_cons_succ, Tryd.f78, hni, hwi]
  repeat' (first | (refine wpc_split _ (fun hc => ?_) (fun hc => ?_) <;> (try simp at hc)) | (refine ww_split _ (fun hc => ?_) (fun hc => ?_) <;> (try simp at hc)) | (refine wp_drawF (by kernel_rfl) ?_) | (refine wk_yldW _ ?_) | (refine layOwe _ (by kernel_rfl) ?_) | (refine owe ?_ (fun ho => ?_)) | (simp (disch := first | assumption | omega | (simp; done) | (simp; omega)) [hni, hwi, repf_tab, -getElem?_pos, List.getElem?_cons_zero, List.getElem?_cons_succ]))
  refine wp_loopE cfg rfl (fun f0 h0 m fr h => ∃ r : Nat, fr 0 = f0 0 ∧ fr 1 = f0 1 ∧ fr 5 = f0 5 ∧ fr 6 = .int .i64 ((a.length : Int) - r) ∧ (h.bs = Blk.cells (tab n (oD n w r)) :: tbl r (fB w (gL a b))) ∧ (r + m = n)) (n) _ _ ⟨0, rfl, rfl, rfl, by first | rfl | (simp; done) | (simp [R]; done) | simp [R], by simp [← oD_zero, tbl, rep_tab], by first | rfl | (simp; done) | omega⟩ ?_
  rintro Am Af Ah ⟨r, A0, A1, A5, A6, hb, hm⟩ Aih
  try simp at A0 A1 A5
  by_cases hr : r < n
  · obtain ⟨i, hi⟩ : ∃ i, i + r = a.length := ⟨a.length - r, by omega⟩
    have hii : (a.length : Int) - r = i := by omega
    have g1 : i < n := by omega
    rw [hii] at A6
    repeat' (first | (refine wpc_split _ (fun hc => ?_) (fun hc => ?_) <;> (try simp at hc)) | (refine ww_split _ (fun hc => ?_) (fun hc => ?_) <;> (try simp at hc)) | (refine wp_drawF (by kernel_rfl) ?_) | (refine wk_yldW _ ?_) | (refine layOwe _ (by kernel_rfl) ?_) | (refine owe ?_ (fun ho => ?_)) | (simp (disch := first | assumption | omega | (simp; done) | (simp; omega)) [A0, A1, A5, A6, hb, repf_tab, hni, hwi, tab_get1, tab_set, -getElem?_pos, List.getElem?_cons_zero, List.getElem?_cons_succ]))
    refine wp_loopE cfg rfl (fun f0 h0 m fr h => ∃ q : Nat, fr 0 = f0 0 ∧ fr 1 = f0 1 ∧ fr 5 = f0 5 ∧ fr 6 = f0 6 ∧ fr 7 = .int .i64 ((q : Int) - 1) ∧ (h.bs = Blk.cells (tab n (oD n w (r + 1))) :: (tbl r (fB w (gL a b)) ++ [Blk.cells (tab w (fun k' => .int .i64 (gQ a b i q k')))])) ∧ (m = q) ∧ (q ≤ w)) (w) _ _ ⟨w, rfl, rfl, rfl, rfl, by simp; omega, by simp [hb, oD_step (show i + r + 1 = n by omega), ← gQ_init, rep_tab], by first | rfl | (simp; done) | omega, by first | rfl | (simp; done) | omega⟩ ?_
    rintro Bm Bf Bh ⟨q, B0, B1, B5, B6, B7, hb2, hm2, hq⟩ Bih
    try simp [A0, A1, A5, A6] at B0 B1 B5 B6
    by_cases hq0 : 0 < q
    · obtain ⟨k, rfl⟩ : ∃ k, q = k + 1 := ⟨q - 1, by omega⟩
      have hk : k ≤ b.length := by omega
      have hi2 : i ≤ a.length := by omega
      have g2 : k < w := by omega
      have u1 := T21_nonneg a b (i + 1) (k + 1)
      have u2 := T21_max a b (i + 1) (k + 1)
      have u3 := T21_nonneg a b (i + 1) k
      have u4 := T21_max a b (i + 1) k
      have u5 := T21_nonneg a b i (k + 1)
      have u6 := T21_max a b i (k + 1)
      have o1 : oD n w (r + 1) i = .slice (r + 1) 0 w 1 := by rw [oD_at (by omega)]; congr 1; omega
      have hv := val21_last hs hi2 hk
      by_cases he : i = a.length ∧ k = b.length
      · have e1 : ((i : Int) == (a.length : Int) && (k : Int) == (b.length : Int)) = true := by simp; omega
        have e2 : (i : Int) = a.length := by omega
        have e3 : (k : Int) = b.length := by omega
        have h1 : ¬ i < a.length := by omega
        have h2 : ¬ k < b.length := by omega
        have h0 : T21 a b i k = 0 := by rw [he.1, he.2]; exact T21_end a b
        have ho : ∀ s, stO a b i k s = false := fun s => by simp [stO, h1, h2]
        repeat' (first | (refine wpc_split _ (fun hc => ?_) (fun hc => ?_) <;> (try simp at hc)) | (refine ww_split _ (fun hc => ?_) (fun hc => ?_) <;> (try simp at hc)) | (refine wp_drawF (by kernel_rfl) ?_) | (refine wk_yldW _ ?_) | (refine layOwe _ (by kernel_rfl) ?_) | (refine owe ?_ (fun ho => ?_)) | (simp (disch := first | assumption | omega | (simp; done) | (simp; omega)) [B0, B1, B5, B6, B7, hb2, e2, e3, -getElem?_pos, List.getElem?_cons_zero, List.getElem?_cons_succ]))
        refine wp_loopE cfg rfl (fun f0 h0 m fr h => ∃ s : Nat, fr 0 = f0 0 ∧ fr 1 = f0 1 ∧ fr 5 = f0 5 ∧ fr 6 = f0 6 ∧ fr 7 = f0 7 ∧ fr 9 = .int .i64 s ∧ fr 8 = .int .i64 0 ∧ h.bs = h0.bs ∧ (s + m = 5)) (4) _ _ ⟨1, rfl, rfl, rfl, rfl, rfl, by first | rfl | (simp; done) | (simp [R]; done) | simp [R], by first | rfl | (simp; done) | (simp [R]; done) | simp [R], rfl, by first | rfl | (simp; done) | omega⟩ ?_
        rintro Em Ef Eh ⟨s, E0, E1, E5, E6, E7, E9, E8, Ebs, hm3⟩ Eih
        try simp [B0, B1, B5, B6, B7, A0, A1, A5, A6] at E0 E1 E5 E6 E7 Ebs
        by_cases hs5 : s < 5
        · repeat' (first | (refine wpc_split _ (fun hc => ?_) (fun hc => ?_) <;> (try simp at hc)) | (refine ww_split _ (fun hc => ?_) (fun hc => ?_) <;> (try simp at hc)) | (refine wp_drawF (by kernel_rfl) ?_) | (refine wk_yldW _ ?_) | (refine layOwe _ (by kernel_rfl) ?_) | (refine owe ?_ (fun ho => ?_)) | (simp (disch := first | assumption | omega | (simp; done) | (simp; omega)) [E0, E1, E5, E6, E7, E9, E8, Ebs, ho, -getElem?_pos, List.getElem?_cons_zero, List.getElem?_cons_succ]))
          exact Eih (Em - 1) _ _ (by omega) ⟨s + 1, by simp [E0, E1, E5, E6, E7, E9, E8, Ebs, B0, B1, B5, B6, B7, A0, A1, A5, A6], by simp [E0, E1, E5, E6, E7, E9, E8, Ebs, B0, B1, B5, B6, B7, A0, A1, A5, A6], by simp [E0, E1, E5, E6, E7, E9, E8, Ebs, B0, B1, B5, B6, B7, A0, A1, A5, A6], by simp [E0, E1, E5, E6, E7, E9, E8, Ebs, B0, B1, B5, B6, B7, A0, A1, A5, A6], by simp [E0, E1, E5, E6, E7, E9, E8, Ebs, B0, B1, B5, B6, B7, A0, A1, A5, A6], by simp [E0, E1, E5, E6, E7, E9, E8, Ebs, B0, B1, B5, B6, B7, A0, A1, A5, A6], by simp [E0, E1, E5, E6, E7, E9, E8, Ebs, B0, B1, B5, B6, B7, A0, A1, A5, A6], by simp [E0, E1, E5, E6, E7, E9, E8, Ebs, B0, B1, B5, B6, B7, A0, A1, A5, A6], by omega⟩
        · repeat' (first | (refine wpc_split _ (fun hc => ?_) (fun hc => ?_) <;> (try simp at hc)) | (refine ww_split _ (fun hc => ?_) (fun hc => ?_) <;> (try simp at hc)) | (refine wp_drawF (by kernel_rfl) ?_) | (refine wk_yldW _ ?_) | (refine layOwe _ (by kernel_rfl) ?_) | (refine owe ?_ (fun ho => ?_)) | (simp (disch := first | assumption | omega | (simp; done) | (simp; omega)) [E0, E1, E5, E6, E7, E9, E8, Ebs, ho, hb2, tab_get1, tbl_right, tbl_right0, tbl_setr0, tab_set, o1, -getElem?_pos, List.getElem?_cons_zero, List.getElem?_cons_succ]))
          exact Bih (Bm - 1) _ _ (by omega) ⟨k, by simp [E0, E1, E5, E6, E7, E9, E8, Ebs, B0, B1, B5, B6, B7, A0, A1, A5, A6, hb2], by simp [E0, E1, E5, E6, E7, E9, E8, Ebs, B0, B1, B5, B6, B7, A0, A1, A5, A6, hb2], by simp [E0, E1, E5, E6, E7, E9, E8, Ebs, B0, B1, B5, B6, B7, A0, A1, A5, A6, hb2], by simp [E0, E1, E5, E6, E7, E9, E8, Ebs, B0, B1, B5, B6, B7, A0, A1, A5, A6, hb2], by simp [E0, E1, E5, E6, E7, E9, E8, Ebs, B0, B1, B5, B6, B7, A0, A1, A5, A6, hb2], (by simp [hb2, gQ_step h0.symm]), by omega, by omega⟩
      · have hv := hv he
        repeat' (first | (refine wpc_split _ (fun hc => ?_) (fun hc => ?_) <;> (try simp at hc)) | (refine ww_split _ (fun hc => ?_) (fun hc => ?_) <;> (try simp at hc)) | (refine wp_drawF (by kernel_rfl) ?_) | (refine wk_yldW _ ?_) | (refine layOwe _ (by kernel_rfl) ?_) | (refine owe ?_ (fun ho => ?_)) | (simp (disch := first | assumption | omega | (simp; done) | (simp; omega)) [B0, B1, B5, B6, B7, hb2, -getElem?_pos, List.getElem?_cons_zero, List.getElem?_cons_succ]))
        all_goals
          refine wp_loopE cfg rfl (fun f0 h0 m fr h => ∃ s : Nat, fr 0 = f0 0 ∧ fr 1 = f0 1 ∧ fr 5 = f0 5 ∧ fr 6 = f0 6 ∧ fr 7 = f0 7 ∧ fr 9 = .int .i64 (s + 1) ∧ fr 8 = .int .i64 (val21 a b i k s) ∧ h.bs = h0.bs ∧ (s + m = 4)) (4) _ _ ⟨0, rfl, rfl, rfl, rfl, rfl, by first | rfl | (simp; done) | (simp [R]; done) | simp [R], by first | rfl | (simp; done) | (simp [R]; done) | simp [R], rfl, by first | rfl | (simp; done) | omega⟩ ?_
          rintro Em Ef Eh ⟨s, E0, E1, E5, E6, E7, E9, E8, Ebs, hm3⟩ Eih
          try simp [B0, B1, B5, B6, B7, A0, A1, A5, A6] at E0 E1 E5 E6 E7 Ebs
          have hcs : s = 0 ∨ s = 1 ∨ s = 2 ∨ s = 3 ∨ s = 4 := by omega
          have vb := val21_bound (a := a) (b := b) (i := i) (k := k) s
          rcases hcs with rfl | rfl | rfl | rfl | rfl
          · by_cases c : i < a.length ∧ k < b.length ∧ nth a i = nth b k
            · first
                | (exfalso; omega)
                | (have hso : stO a b i k 1 = true := by simp [stO, c]
                   obtain ⟨r', rfl⟩ : ∃ r', r = r' + 1 := ⟨r - 1, by omega⟩
                   have o2 : oD n w (r' + 1 + 1) (i + 1) = .slice (r' + 1) 0 w 1 := by rw [oD_at (by omega)]; congr 1; omega
                   have hg : ∀ k, gL a b r' k = T21 a b (i + 1) k := fun k => by unfold gL; rw [show a.length - r' = i + 1 by omega]
                   have g3 : i + 1 < n := by omega
                   have g4 : k + 1 < w := by omega
                   repeat' (first | (refine wpc_split _ (fun hc => ?_) (fun hc => ?_) <;> (try simp at hc)) | (refine ww_split _ (fun hc => ?_) (fun hc => ?_) <;> (try simp at hc)) | (refine wp_drawF (by kernel_rfl) ?_) | (refine wk_yldW _ ?_) | (refine layOwe _ (by kernel_rfl) ?_) | (refine owe ?_ (fun ho => ?_)) | (simp (disch := first | assumption | omega | (simp; done) | (simp; omega)) [E0, E1, E5, E6, E7, E9, E8, Ebs, hb2, tab_get1, tbl_right, tbl_right0, tbl_setr0, tab_set, o1, stI, stK, stC, hso, o2, hg, tbl_get, tbl_get0, fB_at, -getElem?_pos, List.getElem?_cons_zero, List.getElem?_cons_succ]))
                   exact Eih (Em - 1) _ _ (by omega) ⟨1, by simp [E0, E1, E5, E6, E7, E9, E8, Ebs, B0, B1, B5, B6, B7, A0, A1, A5, A6, val21, va1, va2, va3, va4, c], by simp [E0, E1, E5, E6, E7, E9, E8, Ebs, B0, B1, B5, B6, B7, A0, A1, A5, A6, val21, va1, va2, va3, va4, c], by simp [E0, E1, E5, E6, E7, E9, E8, Ebs, B0, B1, B5, B6, B7, A0, A1, A5, A6, val21, va1, va2, va3, va4, c], by simp [E0, E1, E5, E6, E7, E9, E8, Ebs, B0, B1, B5, B6, B7, A0, A1, A5, A6, val21, va1, va2, va3, va4, c], by simp [E0, E1, E5, E6, E7, E9, E8, Ebs, B0, B1, B5, B6, B7, A0, A1, A5, A6, val21, va1, va2, va3, va4, c], by simp [E0, E1, E5, E6, E7, E9, E8, Ebs, B0, B1, B5, B6, B7, A0, A1, A5, A6, val21, va1, va2, va3, va4, c], by simp [E0, E1, E5, E6, E7, E9, E8, Ebs, B0, B1, B5, B6, B7, A0, A1, A5, A6, val21, va1, va2, va3, va4, c], by simp [E0, E1, E5, E6, E7, E9, E8, Ebs, B0, B1, B5, B6, B7, A0, A1, A5, A6, val21, va1, va2, va3, va4, c], by omega⟩)
            · have hso : stO a b i k 1 = false := by rw [← Bool.not_eq_true]; intro e; apply c; simpa [stO] using e
              repeat' (first | (refine wpc_split _ (fun hc => ?_) (fun hc => ?_) <;> (try simp at hc)) | (refine ww_split _ (fun hc => ?_) (fun hc => ?_) <;> (try simp at hc)) | (refine wp_drawF (by kernel_rfl) ?_) | (refine wk_yldW _ ?_) | (refine layOwe _ (by kernel_rfl) ?_) | (refine owe ?_ (fun ho => ?_)) | (simp (disch := first | assumption | omega | (simp; done) | (simp; omega)) [E0, E1, E5, E6, E7, E9, E8, Ebs, hb2, tab_get1, tbl_right, tbl_right0, tbl_setr0, tab_set, o1, stI, stK, stC, hso, -getElem?_pos, List.getElem?_cons_zero, List.getElem?_cons_succ]))
              exact Eih (Em - 1) _ _ (by omega) ⟨1, by simp [E0, E1, E5, E6, E7, E9, E8, Ebs, B0, B1, B5, B6, B7, A0, A1, A5, A6, val21, va1, va2, va3, va4, c], by simp [E0, E1, E5, E6, E7, E9, E8, Ebs, B0, B1, B5, B6, B7, A0, A1, A5, A6, val21, va1, va2, va3, va4, c], by simp [E0, E1, E5, E6, E7, E9, E8, Ebs, B0, B1, B5, B6, B7, A0, A1, A5, A6, val21, va1, va2, va3, va4, c], by simp [E0, E1, E5, E6, E7, E9, E8, Ebs, B0, B1, B5, B6, B7, A0, A1, A5, A6, val21, va1, va2, va3, va4, c], by simp [E0, E1, E5, E6, E7, E9, E8, Ebs, B0, B1, B5, B6, B7, A0, A1, A5, A6, val21, va1, va2, va3, va4, c], by simp [E0, E1, E5, E6, E7, E9, E8, Ebs, B0, B1, B5, B6, B7, A0, A1, A5, A6, val21, va1, va2, va3, va4, c], by simp [E0, E1, E5, E6, E7, E9, E8, Ebs, B0, B1, B5, B6, B7, A0, A1, A5, A6, val21, va1, va2, va3, va4, c], by simp [E0, E1, E5, E6, E7, E9, E8, Ebs, B0, B1, B5, B6, B7, A0, A1, A5, A6, val21, va1, va2, va3, va4, c], by omega⟩
          · by_cases c : i < a.length ∧ k < b.length ∧ ¬ nth a i = nth b k
            · first
                | (exfalso; omega)
                | (have hso : stO a b i k 2 = true := by simp [stO, c]
                   obtain ⟨r', rfl⟩ : ∃ r', r = r' + 1 := ⟨r - 1, by omega⟩
                   have o2 : oD n w (r' + 1 + 1) (i + 1) = .slice (r' + 1) 0 w 1 := by rw [oD_at (by omega)]; congr 1; omega
                   have hg : ∀ k, gL a b r' k = T21 a b (i + 1) k := fun k => by unfold gL; rw [show a.length - r' = i + 1 by omega]
                   have g3 : i + 1 < n := by omega
                   have g4 : k + 1 < w := by omega
                   repeat' (first | (refine wpc_split _ (fun hc => ?_) (fun hc => ?_) <;> (try simp at hc)) | (refine ww_split _ (fun hc => ?_) (fun hc => ?_) <;> (try simp at hc)) | (refine wp_drawF (by kernel_rfl) ?_) | (refine wk_yldW _ ?_) | (refine layOwe _ (by kernel_rfl) ?_) | (refine owe ?_ (fun ho => ?_)) | (simp (disch := first | assumption | omega | (simp; done) | (simp; omega)) [E0, E1, E5, E6, E7, E9, E8, Ebs, hb2, tab_get1, tbl_right, tbl_right0, tbl_setr0, tab_set, o1, stI, stK, stC, hso, o2, hg, tbl_get, tbl_get0, fB_at, -getElem?_pos, List.getElem?_cons_zero, List.getElem?_cons_succ]))
                   exact Eih (Em - 1) _ _ (by omega) ⟨2, by simp [E0, E1, E5, E6, E7, E9, E8, Ebs, B0, B1, B5, B6, B7, A0, A1, A5, A6, val21, va1, va2, va3, va4, c], by simp [E0, E1, E5, E6, E7, E9, E8, Ebs, B0, B1, B5, B6, B7, A0, A1, A5, A6, val21, va1, va2, va3, va4, c], by simp [E0, E1, E5, E6, E7, E9, E8, Ebs, B0, B1, B5, B6, B7, A0, A1, A5, A6, val21, va1, va2, va3, va4, c], by simp [E0, E1, E5, E6, E7, E9, E8, Ebs, B0, B1, B5, B6, B7, A0, A1, A5, A6, val21, va1, va2, va3, va4, c], by simp [E0, E1, E5, E6, E7, E9, E8, Ebs, B0, B1, B5, B6, B7, A0, A1, A5, A6, val21, va1, va2, va3, va4, c], by simp [E0, E1, E5, E6, E7, E9, E8, Ebs, B0, B1, B5, B6, B7, A0, A1, A5, A6, val21, va1, va2, va3, va4, c], by simp [E0, E1, E5, E6, E7, E9, E8, Ebs, B0, B1, B5, B6, B7, A0, A1, A5, A6, val21, va1, va2, va3, va4, c], by simp [E0, E1, E5, E6, E7, E9, E8, Ebs, B0, B1, B5, B6, B7, A0, A1, A5, A6, val21, va1, va2, va3, va4, c], by omega⟩)
            · have hso : stO a b i k 2 = false := by rw [← Bool.not_eq_true]; intro e; apply c; simpa [stO] using e
              repeat' (first | (refine wpc_split _ (fun hc => ?_) (fun hc => ?_) <;> (try simp at hc)) | (refine ww_split _ (fun hc => ?_) (fun hc => ?_) <;> (try simp at hc)) | (refine wp_drawF (by kernel_rfl) ?_) | (refine wk_yldW _ ?_) | (refine layOwe _ (by kernel_rfl) ?_) | (refine owe ?_ (fun ho => ?_)) | (simp (disch := first | assumption | omega | (simp; done) | (simp; omega)) [E0, E1, E5, E6, E7, E9, E8, Ebs, hb2, tab_get1, tbl_right, tbl_right0, tbl_setr0, tab_set, o1, stI, stK, stC, hso, -getElem?_pos, List.getElem?_cons_zero, List.getElem?_cons_succ]))
              exact Eih (Em - 1) _ _ (by omega) ⟨2, by simp [E0, E1, E5, E6, E7, E9, E8, Ebs, B0, B1, B5, B6, B7, A0, A1, A5, A6, val21, va1, va2, va3, va4, c], by simp [E0, E1, E5, E6, E7, E9, E8, Ebs, B0, B1, B5, B6, B7, A0, A1, A5, A6, val21, va1, va2, va3, va4, c], by simp [E0, E1, E5, E6, E7, E9, E8, Ebs, B0, B1, B5, B6, B7, A0, A1, A5, A6, val21, va1, va2, va3, va4, c], by simp [E0, E1, E5, E6, E7, E9, E8, Ebs, B0, B1, B5, B6, B7, A0, A1, A5, A6, val21, va1, va2, va3, va4, c], by simp [E0, E1, E5, E6, E7, E9, E8, Ebs, B0, B1, B5, B6, B7, A0, A1, A5, A6, val21, va1, va2, va3, va4, c], by simp [E0, E1, E5, E6, E7, E9, E8, Ebs, B0, B1, B5, B6, B7, A0, A1, A5, A6, val21, va1, va2, va3, va4, c], by simp [E0, E1, E5, E6, E7, E9, E8, Ebs, B0, B1, B5, B6, B7, A0, A1, A5, A6, val21, va1, va2, va3, va4, c], by simp [E0, E1, E5, E6, E7, E9, E8, Ebs, B0, B1, B5, B6, B7, A0, A1, A5, A6, val21, va1, va2, va3, va4, c], by omega⟩
          · by_cases c : i < a.length
            · first
                | (exfalso; omega)
                | (have hso : stO a b i k 3 = true := by simp [stO, c]
                   obtain ⟨r', rfl⟩ : ∃ r', r = r' + 1 := ⟨r - 1, by omega⟩
                   have o2 : oD n w (r' + 1 + 1) (i + 1) = .slice (r' + 1) 0 w 1 := by rw [oD_at (by omega)]; congr 1; omega
                   have hg : ∀ k, gL a b r' k = T21 a b (i + 1) k := fun k => by unfold gL; rw [show a.length - r' = i + 1 by omega]
                   have g3 : i + 1 < n := by omega
                   repeat' (first | (refine wpc_split _ (fun hc => ?_) (fun hc => ?_) <;> (try simp at hc)) | (refine ww_split _ (fun hc => ?_) (fun hc => ?_) <;> (try simp at hc)) | (refine wp_drawF (by kernel_rfl) ?_) | (refine wk_yldW _ ?_) | (refine layOwe _ (by kernel_rfl) ?_) | (refine owe ?_ (fun ho => ?_)) | (simp (disch := first | assumption | omega | (simp; done) | (simp; omega)) [E0, E1, E5, E6, E7, E9, E8, Ebs, hb2, tab_get1, tbl_right, tbl_right0, tbl_setr0, tab_set, o1, stI, stK, stC, hso, o2, hg, tbl_get, tbl_get0, fB_at, -getElem?_pos, List.getElem?_cons_zero, List.getElem?_cons_succ]))
                   exact Eih (Em - 1) _ _ (by omega) ⟨3, by simp [E0, E1, E5, E6, E7, E9, E8, Ebs, B0, B1, B5, B6, B7, A0, A1, A5, A6, val21, va1, va2, va3, va4, c], by simp [E0, E1, E5, E6, E7, E9, E8, Ebs, B0, B1, B5, B6, B7, A0, A1, A5, A6, val21, va1, va2, va3, va4, c], by simp [E0, E1, E5, E6, E7, E9, E8, Ebs, B0, B1, B5, B6, B7, A0, A1, A5, A6, val21, va1, va2, va3, va4, c], by simp [E0, E1, E5, E6, E7, E9, E8, Ebs, B0, B1, B5, B6, B7, A0, A1, A5, A6, val21, va1, va2, va3, va4, c], by simp [E0, E1, E5, E6, E7, E9, E8, Ebs, B0, B1, B5, B6, B7, A0, A1, A5, A6, val21, va1, va2, va3, va4, c], by simp [E0, E1, E5, E6, E7, E9, E8, Ebs, B0, B1, B5, B6, B7, A0, A1, A5, A6, val21, va1, va2, va3, va4, c], by simp [E0, E1, E5, E6, E7, E9, E8, Ebs, B0, B1, B5, B6, B7, A0, A1, A5, A6, val21, va1, va2, va3, va4, c], by simp [E0, E1, E5, E6, E7, E9, E8, Ebs, B0, B1, B5, B6, B7, A0, A1, A5, A6, val21, va1, va2, va3, va4, c], by omega⟩)
            · first
                | (exfalso; omega)
                | (have hso : stO a b i k 3 = false := by rw [← Bool.not_eq_true]; intro e; apply c; simpa [stO] using e
                   repeat' (first | (refine wpc_split _ (fun hc => ?_) (fun hc => ?_) <;> (try simp at hc)) | (refine ww_split _ (fun hc => ?_) (fun hc => ?_) <;> (try simp at hc)) | (refine wp_drawF (by kernel_rfl) ?_) | (refine wk_yldW _ ?_) | (refine layOwe _ (by kernel_rfl) ?_) | (refine owe ?_ (fun ho => ?_)) | (simp (disch := first | assumption | omega | (simp; done) | (simp; omega)) [E0, E1, E5, E6, E7, E9, E8, Ebs, hb2, tab_get1, tbl_right, tbl_right0, tbl_setr0, tab_set, o1, stI, stK, stC, hso, -getElem?_pos, List.getElem?_cons_zero, List.getElem?_cons_succ]))
                   exact Eih (Em - 1) _ _ (by omega) ⟨3, by simp [E0, E1, E5, E6, E7, E9, E8, Ebs, B0, B1, B5, B6, B7, A0, A1, A5, A6, val21, va1, va2, va3, va4, c], by simp [E0, E1, E5, E6, E7, E9, E8, Ebs, B0, B1, B5, B6, B7, A0, A1, A5, A6, val21, va1, va2, va3, va4, c], by simp [E0, E1, E5, E6, E7, E9, E8, Ebs, B0, B1, B5, B6, B7, A0, A1, A5, A6, val21, va1, va2, va3, va4, c], by simp [E0, E1, E5, E6, E7, E9, E8, Ebs, B0, B1, B5, B6, B7, A0, A1, A5, A6, val21, va1, va2, va3, va4, c], by simp [E0, E1, E5, E6, E7, E9, E8, Ebs, B0, B1, B5, B6, B7, A0, A1, A5, A6, val21, va1, va2, va3, va4, c], by simp [E0, E1, E5, E6, E7, E9, E8, Ebs, B0, B1, B5, B6, B7, A0, A1, A5, A6, val21, va1, va2, va3, va4, c], by simp [E0, E1, E5, E6, E7, E9, E8, Ebs, B0, B1, B5, B6, B7, A0, A1, A5, A6, val21, va1, va2, va3, va4, c], by simp [E0, E1, E5, E6, E7, E9, E8, Ebs, B0, B1, B5, B6, B7, A0, A1, A5, A6, val21, va1, va2, va3, va4, c], by omega⟩)
          · by_cases c : k < b.length
            · have hso : stO a b i k 4 = true := by simp [stO, c]
              have g4 : k + 1 < w := by omega
              have hg : gQ a b i (k + 1) (k + 1) = T21 a b i (k + 1) := by unfold gQ; rw [if_pos (Nat.le_refl _)]
              repeat' (first | (refine wpc_split _ (fun hc => ?_) (fun hc => ?_) <;> (try simp at hc)) | (refine ww_split _ (fun hc => ?_) (fun hc => ?_) <;> (try simp at hc)) | (refine wp_drawF (by kernel_rfl) ?_) | (refine wk_yldW _ ?_) | (refine layOwe _ (by kernel_rfl) ?_) | (refine owe ?_ (fun ho => ?_)) | (simp (disch := first | assumption | omega | (simp; done) | (simp; omega)) [E0, E1, E5, E6, E7, E9, E8, Ebs, hb2, tab_get1, tbl_right, tbl_right0, tbl_setr0, tab_set, o1, stI, stK, stC, hso, hg, -getElem?_pos, List.getElem?_cons_zero, List.getElem?_cons_succ]))
              exact Eih (Em - 1) _ _ (by omega) ⟨4, by simp [E0, E1, E5, E6, E7, E9, E8, Ebs, B0, B1, B5, B6, B7, A0, A1, A5, A6, val21, va1, va2, va3, va4, c], by simp [E0, E1, E5, E6, E7, E9, E8, Ebs, B0, B1, B5, B6, B7, A0, A1, A5, A6, val21, va1, va2, va3, va4, c], by simp [E0, E1, E5, E6, E7, E9, E8, Ebs, B0, B1, B5, B6, B7, A0, A1, A5, A6, val21, va1, va2, va3, va4, c], by simp [E0, E1, E5, E6, E7, E9, E8, Ebs, B0, B1, B5, B6, B7, A0, A1, A5, A6, val21, va1, va2, va3, va4, c], by simp [E0, E1, E5, E6, E7, E9, E8, Ebs, B0, B1, B5, B6, B7, A0, A1, A5, A6, val21, va1, va2, va3, va4, c], by simp [E0, E1, E5, E6, E7, E9, E8, Ebs, B0, B1, B5, B6, B7, A0, A1, A5, A6, val21, va1, va2, va3, va4, c], by simp [E0, E1, E5, E6, E7, E9, E8, Ebs, B0, B1, B5, B6, B7, A0, A1, A5, A6, val21, va1, va2, va3, va4, c], by simp [E0, E1, E5, E6, E7, E9, E8, Ebs, B0, B1, B5, B6, B7, A0, A1, A5, A6, val21, va1, va2, va3, va4, c], by omega⟩
            · first
                | (exfalso; omega)
                | (have hso : stO a b i k 4 = false := by rw [← Bool.not_eq_true]; intro e; apply c; simpa [stO] using e
                   repeat' (first | (refine wpc_split _ (fun hc => ?_) (fun hc => ?_) <;> (try simp at hc)) | (refine ww_split _ (fun hc => ?_) (fun hc => ?_) <;> (try simp at hc)) | (refine wp_drawF (by kernel_rfl) ?_) | (refine wk_yldW _ ?_) | (refine layOwe _ (by kernel_rfl) ?_) | (refine owe ?_ (fun ho => ?_)) | (simp (disch := first | assumption | omega | (simp; done) | (simp; omega)) [E0, E1, E5, E6, E7, E9, E8, Ebs, hb2, tab_get1, tbl_right, tbl_right0, tbl_setr0, tab_set, o1, stI, stK, stC, hso, -getElem?_pos, List.getElem?_cons_zero, List.getElem?_cons_succ]))
                   exact Eih (Em - 1) _ _ (by omega) ⟨4, by simp [E0, E1, E5, E6, E7, E9, E8, Ebs, B0, B1, B5, B6, B7, A0, A1, A5, A6, val21, va1, va2, va3, va4, c], by simp [E0, E1, E5, E6, E7, E9, E8, Ebs, B0, B1, B5, B6, B7, A0, A1, A5, A6, val21, va1, va2, va3, va4, c], by simp [E0, E1, E5, E6, E7, E9, E8, Ebs, B0, B1, B5, B6, B7, A0, A1, A5, A6, val21, va1, va2, va3, va4, c], by simp [E0, E1, E5, E6, E7, E9, E8, Ebs, B0, B1, B5, B6, B7, A0, A1, A5, A6, val21, va1, va2, va3, va4, c], by simp [E0, E1, E5, E6, E7, E9, E8, Ebs, B0, B1, B5, B6, B7, A0, A1, A5, A6, val21, va1, va2, va3, va4, c], by simp [E0, E1, E5, E6, E7, E9, E8, Ebs, B0, B1, B5, B6, B7, A0, A1, A5, A6, val21, va1, va2, va3, va4, c], by simp [E0, E1, E5, E6, E7, E9, E8, Ebs, B0, B1, B5, B6, B7, A0, A1, A5, A6, val21, va1, va2, va3, va4, c], by simp [E0, E1, E5, E6, E7, E9, E8, Ebs, B0, B1, B5, B6, B7, A0, A1, A5, A6, val21, va1, va2, va3, va4, c], by omega⟩)
          · repeat' (first | (refine wpc_split _ (fun hc => ?_) (fun hc => ?_) <;> (try simp at hc)) | (refine ww_split _ (fun hc => ?_) (fun hc => ?_) <;> (try simp at hc)) | (refine wp_drawF (by kernel_rfl) ?_) | (refine wk_yldW _ ?_) | (refine layOwe _ (by kernel_rfl) ?_) | (refine owe ?_ (fun ho => ?_)) | (simp (disch := first | assumption | omega | (simp; done) | (simp; omega)) [E0, E1, E5, E6, E7, E9, E8, Ebs, hb2, tab_get1, tbl_right, tbl_right0, tbl_setr0, tab_set, o1, stI, stK, stC, -getElem?_pos, List.getElem?_cons_zero, List.getElem?_cons_succ]))
            exact Bih (Bm - 1) _ _ (by omega) ⟨k, by simp [E0, E1, E5, E6, E7, E9, E8, Ebs, B0, B1, B5, B6, B7, A0, A1, A5, A6, hb2], by simp [E0, E1, E5, E6, E7, E9, E8, Ebs, B0, B1, B5, B6, B7, A0, A1, A5, A6, hb2], by simp [E0, E1, E5, E6, E7, E9, E8, Ebs, B0, B1, B5, B6, B7, A0, A1, A5, A6, hb2], by simp [E0, E1, E5, E6, E7, E9, E8, Ebs, B0, B1, B5, B6, B7, A0, A1, A5, A6, hb2], by simp [E0, E1, E5, E6, E7, E9, E8, Ebs, B0, B1, B5, B6, B7, A0, A1, A5, A6, hb2], (by simp [hb2, gQ_step hv]), by omega, by omega⟩
    · obtain rfl : q = 0 := by omega
      have hA : (i : Int) - 1 = (a.length : Int) - ((r : Int) + 1) := by omega
      repeat' (first | (refine wpc_split _ (fun hc => ?_) (fun hc => ?_) <;> (try simp at hc)) | (refine ww_split _ (fun hc => ?_) (fun hc => ?_) <;> (try simp at hc)) | (refine wp_drawF (by kernel_rfl) ?_) | (refine wk_yldW _ ?_) | (refine layOwe _ (by kernel_rfl) ?_) | (refine owe ?_ (fun ho => ?_)) | (simp (disch := first | assumption | omega | (simp; done) | (simp; omega)) [B0, B1, B5, B6, B7, hb2, -getElem?_pos, List.getElem?_cons_zero, List.getElem?_cons_succ]))
      exact Aih (Am - 1) _ _ (by omega) ⟨r + 1, by simp [B0, B1, B5, B6, B7, A0, A1, A5, A6, hb2, hA], by simp [B0, B1, B5, B6, B7, A0, A1, A5, A6, hb2, hA], by simp [B0, B1, B5, B6, B7, A0, A1, A5, A6, hb2, hA], by simp [B0, B1, B5, B6, B7, A0, A1, A5, A6, hb2, hA], (by simp [hb2, tbl_succ, fB_at, gQ_done hi]), by omega⟩
  · obtain rfl : r = n := by omega
    repeat' (first | (refine wpc_split _ (fun hc => ?_) (fun hc => ?_) <;> (try simp at hc)) | (refine ww_split _ (fun hc => ?_) (fun hc => ?_) <;> (try simp at hc)) | (refine wp_drawF (by kernel_rfl) ?_) | (refine wk_yldW _ ?_) | (refine layOwe _ (by kernel_rfl) ?_) | (refine owe ?_ (fun ho => ?_)) | (simp (disch := first | assumption | omega | (simp; done) | (simp; omega)) [A0, A1, A5, A6, hb, -getElem?_pos, List.getElem?_cons_zero, List.getElem?_cons_succ]))
    rw [← hT, ← hn, ← hw]
    refine outS_tab (E := eI) (by simp) (tabH_of (f := oD r w r) (b := fun i => r - i) (by simp [hb]) (fun i hi => ⟨oD_at (by omega), ?_⟩))
    rw [hb]
    obtain ⟨s, hs3⟩ : ∃ s, r - i = s + 1 := ⟨r - i - 1, by omega⟩
    rw [hs3, List.getElem?_cons_succ, tbl_get0 (by omega), fB_at]
    unfold gL
    rw [show a.length - s = i by omega]
@[simp] theorem S78 (a b : List (List UInt8)) (hs : a.length ≤ 64 ∧ b.length ≤ 64) (q1 q2 : Fl) (hh : Heap) : Ci cfg (.func (.func 78) [] []) [R  q1 eS a, R  q2 eS b] hh = some (.ret (R fl0 (eR eI) (tabF (a.length + 1) (b.length + 1) (T21 a b))), hh) :=
  Ci_K cfg rfl rfl (by simp) (by simp) (C78 a b hs)
end Go.Ab
