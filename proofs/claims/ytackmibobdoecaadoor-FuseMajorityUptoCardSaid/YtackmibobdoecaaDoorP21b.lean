/- Layer 21 (align), plain: the table of least costs, place by place. -/
import Derived.Test.YtackmibobdoecaaDoorP21
import Derived.Test.YtackmibobdoecaaDoorAbsD
set_option linter.unusedVariables false
set_option linter.unusedSimpArgs false
set_option linter.unusedSectionVars false
set_option linter.deprecated false
namespace Go.Ab
/-- the least cost from a place on -/
def T21 (a b : List Wd) (i k : Nat) : Int := lev (a.drop i) (b.drop k)
theorem T21_end (a b : List Wd) : T21 a b a.length b.length = 0 := by unfold T21; rw [List.drop_length, List.drop_length, lev_nn]
theorem T21_a {a b : List Wd} {i : Nat} (h : i < a.length) : T21 a b i b.length = 1 + T21 a b (i + 1) b.length := by unfold T21; rw [List.drop_length, nth_drop h, lev_cn]
theorem T21_b {a b : List Wd} {k : Nat} (h : k < b.length) : T21 a b a.length k = 1 + T21 a b a.length (k + 1) := by unfold T21; rw [List.drop_length, nth_drop h, lev_nc]
theorem T21_ab {a b : List Wd} {i k : Nat} (h : i < a.length) (h2 : k < b.length) : T21 a b i k = min (min (cst (nth a i) (nth b k) + T21 a b (i + 1) (k + 1)) (1 + T21 a b (i + 1) k)) (1 + T21 a b i (k + 1)) := by
  unfold T21; rw [nth_drop h, nth_drop h2, lev_cc]
theorem T21_nonneg (a b : List Wd) (i k : Nat) : 0 ≤ T21 a b i k := lev_nonneg _ _
theorem T21_max (a b : List Wd) (i k : Nat) : T21 a b i k ≤ max (a.length : Int) (b.length : Int) := by
  have := lev_max (a.drop i) (b.drop k)
  simp at this
  unfold T21; omega
/-- rows from j on are done -/
def gA (a b : List Wd) (j : Nat) : Nat → Nat → Int := fun i k => if j ≤ i then T21 a b i k else 0
/-- rows behind i, and row i from q on, are done -/
def gP (a b : List Wd) (i q : Nat) : Nat → Nat → Int := fun i' k => if i < i' ∨ (i' = i ∧ q ≤ k) then T21 a b i' k else 0
theorem gP_zero (a b : List Wd) (i : Nat) : gP a b i 0 = gA a b i := by
  funext i' k; unfold gP gA
  by_cases h : i ≤ i'
  · rw [if_pos h, if_pos (by omega)]
  · rw [if_neg h, if_neg (by omega)]
theorem gA_zero (a b : List Wd) : gA a b 0 = T21 a b := by funext i k; unfold gA; rw [if_pos (Nat.zero_le _)]
/-- a block for each row -/
def fB (m : Nat) (g : Nat → Nat → Int) : Nat → Blk := fun i => .cells (tab m (fun k => .int .i64 (g i k)))
theorem fB_at (m : Nat) (g : Nat → Nat → Int) (i : Nat) : fB m g i = .cells (tab m (fun k => .int .i64 (g i k))) := rfl
theorem tbl_fB {n m : Nat} {g g' : Nat → Nat → Int} (h : ∀ i k, i < n → k < m → g i k = g' i k) : tbl n (fB m g) = tbl n (fB m g') :=
  tbl_ext fun i hi => by unfold fB; rw [tab_ext (fun k hk => by rw [h i k hi hk])]
theorem gA_gP {a b : List Wd} {n m i : Nat} : tbl n (fB m (gA a b (i + 1))) = tbl n (fB m (gP a b i m)) :=
  tbl_fB fun i' k hi hk => by
    unfold gA gP
    by_cases h : i + 1 ≤ i'
    · rw [if_pos h, if_pos (by omega)]
    · rw [if_neg h, if_neg (by omega)]
theorem gP_down {a b : List Wd} {i k : Nat} : gP a b i (k + 1) (i + 1) k = T21 a b (i + 1) k := by unfold gP; rw [if_pos (by omega)]
theorem gP_diag {a b : List Wd} {i k : Nat} : gP a b i (k + 1) (i + 1) (k + 1) = T21 a b (i + 1) (k + 1) := by unfold gP; rw [if_pos (by omega)]
theorem gP_right {a b : List Wd} {i k : Nat} : gP a b i (k + 1) i (k + 1) = T21 a b i (k + 1) := by unfold gP; rw [if_pos (by omega)]
theorem gP_here {a b : List Wd} {i k : Nat} : gP a b i (k + 1) i k = 0 := by unfold gP; rw [if_neg (by omega)]
/-- one place more -/
theorem fB_step {a b : List Wd} {m i k : Nat} {v : Int} (hv : v = T21 a b i k) : updB (fB m (gP a b i (k + 1))) i (.cells (tab m (upd (fun k' => .int .i64 (gP a b i (k + 1) i k')) k (.int .i64 v)))) = fB m (gP a b i k) := by
  funext j
  unfold updB
  by_cases hj : j = i
  · subst hj
    rw [if_pos rfl]
    unfold fB
    congr 1
    refine tab_ext fun k' _ => ?_
    unfold upd
    by_cases hk : k' = k
    · subst hk; rw [if_pos rfl, hv]; unfold gP; rw [if_pos (by omega)]
    · rw [if_neg hk]; show V.int IntKind.i64 (gP a b j (k + 1) j k') = V.int IntKind.i64 (gP a b j k j k'); unfold gP
      by_cases h : k ≤ k'
      · rw [if_pos (show j < j ∨ j = j ∧ k + 1 ≤ k' by omega), if_pos (show j < j ∨ j = j ∧ k ≤ k' by omega)]
      · rw [if_neg (show ¬ (j < j ∨ j = j ∧ k + 1 ≤ k') by omega), if_neg (show ¬ (j < j ∨ j = j ∧ k ≤ k') by omega)]
  · rw [if_neg hj]
    unfold fB
    congr 1
    refine tab_ext fun k' _ => ?_
    unfold gP
    by_cases h : i < j
    · rw [if_pos (by omega), if_pos (by omega)]
    · rw [if_neg (by omega), if_neg (by omega)]
theorem tbl_end {a b : List Wd} {n m : Nat} : tbl n (fB m (gP a b a.length (b.length + 1))) = tbl n (fB m (gP a b a.length b.length)) :=
  tbl_fB fun i k hi hk => by
    unfold gP
    by_cases h : a.length < i ∨ (i = a.length ∧ b.length + 1 ≤ k)
    · rw [if_pos h, if_pos (by omega)]
    · rw [if_neg h]
      by_cases h2 : i = a.length ∧ k = b.length
      · obtain ⟨rfl, rfl⟩ := h2
        rw [if_pos (by omega), T21_end]
      · rw [if_neg (by omega)]
/-- the cells of the outer slice while rows are laid -/
def oC (m i : Nat) : Nat → V := fun j => if j < i then .slice (j + 3) 0 m 1 else .row true true [] 0 none
theorem oC_zero (n m : Nat) : tab n (fun _ => V.row true true [] 0 none) = tab n (oC m 0) := tab_ext fun j _ => by unfold oC; rw [if_neg (by omega)]
theorem oC_step (n m i : Nat) : tab n (upd (oC m i) i (.slice (i + 3) 0 m 1)) = tab n (oC m (i + 1)) := tab_ext fun j _ => by
  unfold upd oC
  by_cases e : j = i
  · subst e; rw [if_pos rfl, if_pos (by omega)]
  · rw [if_neg e]
    by_cases h : j < i
    · rw [if_pos h, if_pos (by omega)]
    · rw [if_neg h, if_neg (by omega)]
theorem oC_at {m n i : Nat} (h : i < n) : oC m n i = .slice (i + 3) 0 m 1 := by unfold oC; rw [if_pos h]
@[simp] theorem tbl_drop (n : Nat) (F : Nat → Blk) (S : List Blk) : (tbl n F ++ S).drop n = S := by
  rw [List.drop_append_of_le_length (by simp), List.drop_of_length_le (by simp)]; rfl
/-- the least of the first steps' costs -/
def va1 (a b : List Wd) (i k : Nat) : Int := if i < a.length ∧ k < b.length ∧ nth a i = nth b k then min 128 (T21 a b (i + 1) (k + 1)) else 128
def va2 (a b : List Wd) (i k : Nat) : Int := if i < a.length ∧ k < b.length ∧ ¬ nth a i = nth b k then min (va1 a b i k) (1 + T21 a b (i + 1) (k + 1)) else va1 a b i k
def va3 (a b : List Wd) (i k : Nat) : Int := if i < a.length then min (va2 a b i k) (1 + T21 a b (i + 1) k) else va2 a b i k
def va4 (a b : List Wd) (i k : Nat) : Int := if k < b.length then min (va3 a b i k) (1 + T21 a b i (k + 1)) else va3 a b i k
def val21 (a b : List Wd) (i k : Nat) : Nat → Int
  | 0 => 128
  | 1 => va1 a b i k
  | 2 => va2 a b i k
  | 3 => va3 a b i k
  | _ => va4 a b i k
theorem val21_last {a b : List Wd} {i k : Nat} (hs : a.length ≤ 64 ∧ b.length ≤ 64) (hi : i ≤ a.length) (hk : k ≤ b.length) (he : ¬ (i = a.length ∧ k = b.length)) : val21 a b i k 4 = T21 a b i k := by
  have u1 := T21_nonneg a b (i + 1) (k + 1)
  have u2 := T21_max a b (i + 1) (k + 1)
  have u3 := T21_nonneg a b (i + 1) k
  have u4 := T21_max a b (i + 1) k
  have u5 := T21_nonneg a b i (k + 1)
  have u6 := T21_max a b i (k + 1)
  by_cases h1 : i < a.length
  · by_cases h2 : k < b.length
    · have ht := T21_ab h1 h2
      by_cases h3 : nth a i = nth b k
      · rw [h3, cst_self] at ht
        simp [val21, va1, va2, va3, va4, h1, h2, h3]; omega
      · have hc : cst (nth a i) (nth b k) = 1 := by unfold cst; rw [if_neg h3]
        rw [hc] at ht
        simp [val21, va1, va2, va3, va4, h1, h2, h3]; omega
    · obtain rfl : k = b.length := by omega
      have ht := T21_a (b := b) h1
      simp [val21, va1, va2, va3, va4, h1]; omega
  · obtain rfl : i = a.length := by omega
    have h2 : k < b.length := by omega
    have ht := T21_b (a := a) h2
    simp [val21, va1, va2, va3, va4, h2]; omega
theorem val21_bound {a b : List Wd} {i k : Nat} (s : Nat) : 0 ≤ val21 a b i k s ∧ val21 a b i k s ≤ 128 := by
  have u1 := T21_nonneg a b (i + 1) (k + 1)
  have u3 := T21_nonneg a b (i + 1) k
  have u5 := T21_nonneg a b i (k + 1)
  have b1 : 0 ≤ va1 a b i k ∧ va1 a b i k ≤ 128 := by unfold va1; split <;> omega
  have b2 : 0 ≤ va2 a b i k ∧ va2 a b i k ≤ 128 := by unfold va2; split <;> omega
  have b3 : 0 ≤ va3 a b i k ∧ va3 a b i k ≤ 128 := by unfold va3; split <;> omega
  have b4 : 0 ≤ va4 a b i k ∧ va4 a b i k ≤ 128 := by unfold va4; split <;> omega
  unfold val21
  split <;> omega
theorem tb3 {b0 b1 b2 : Blk} {n j : Nat} {F : Nat → Blk} {S : List Blk} : (b0 :: b1 :: b2 :: (tbl n F ++ S))[n + (j + 3)]? = S[j]? := by
  rw [← Nat.add_assoc]; simp only [List.getElem?_cons_succ, tbl_right]
theorem ts3 {b0 b1 b2 x : Blk} {n j : Nat} {F : Nat → Blk} {S : List Blk} : (b0 :: b1 :: b2 :: (tbl n F ++ S)).set (n + (j + 3)) x = b0 :: b1 :: b2 :: (tbl n F ++ S.set j x) := by
  rw [← Nat.add_assoc]; simp only [List.set_cons_succ, tbl_setr]
theorem tb11 {b0 b1 b2 c0 c1 c2 c3 c4 c5 y0 y1 : Blk} {n j : Nat} {F : Nat → Blk} {Y L : List Blk} : (b0 :: b1 :: b2 :: (tbl n F ++ c0 :: c1 :: c2 :: c3 :: c4 :: c5 :: (Y ++ y0 :: y1 :: L)))[n + (Y.length + (j + 11))]? = L[j]? := by
  rw [show n + (Y.length + (j + 11)) = n + (Y.length + (j + 2) + 6) + 3 by omega]
  simp only [List.getElem?_cons_succ, tbl_right, app_at]
theorem ts11 {b0 b1 b2 c0 c1 c2 c3 c4 c5 y0 y1 x : Blk} {n j : Nat} {F : Nat → Blk} {Y L : List Blk} : (b0 :: b1 :: b2 :: (tbl n F ++ c0 :: c1 :: c2 :: c3 :: c4 :: c5 :: (Y ++ y0 :: y1 :: L))).set (n + (Y.length + (j + 11))) x = b0 :: b1 :: b2 :: (tbl n F ++ c0 :: c1 :: c2 :: c3 :: c4 :: c5 :: (Y ++ y0 :: y1 :: L.set j x)) := by
  rw [show n + (Y.length + (j + 11)) = n + (Y.length + (j + 2) + 6) + 3 by omega]
  simp only [List.set_cons_succ, tbl_setr, app_set]
theorem gA_init {a b : List Wd} {n m : Nat} (h : n = a.length + 1) : tbl n (fB m (fun _ _ => 0)) = tbl n (fB m (gA a b n)) :=
  tbl_fB fun i k hi _ => by unfold gA; rw [if_neg (by omega)]
end Go.Ab
