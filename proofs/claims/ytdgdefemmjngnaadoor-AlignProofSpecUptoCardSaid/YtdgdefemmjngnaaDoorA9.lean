/- Layer 21 (align): paths, places and proofs. -/
import Derived.Test.YtdgdefemmjngnaaDoorA8
set_option linter.unusedVariables false
set_option linter.unusedSimpArgs false
set_option linter.unusedSectionVars false
set_option linter.deprecated false
namespace Go.Ab
open Go.Proofs
set_option maxRecDepth 100000
theorem stepL_st {a b : List Wd} {i k : Nat} {s : Int} (hi : i ≤ a.length) (hk : k ≤ b.length) : stepL s (a.drop i) (b.drop k) = if stO a b i k s = true then some (a.drop (stI i s).toNat, b.drop (stK k s).toNat, stC s) else none := by
  by_cases h1 : i < a.length
  · by_cases h2 : k < b.length
    · rw [nth_drop h1, nth_drop h2]
      by_cases s1 : s = 1
      · subst s1
        by_cases e : nth a i = nth b k <;> simp [stepL, stO, stI, stK, stC, h1, h2, e]
      by_cases s2 : s = 2
      · subst s2
        by_cases e : nth a i = nth b k <;> simp [stepL, stO, stI, stK, stC, h1, h2, e]
      by_cases s3 : s = 3
      · subst s3; simp [stepL, stO, stI, stK, stC, h1]; rw [nth_drop h2]
      by_cases s4 : s = 4
      · subst s4; simp [stepL, stO, stI, stK, stC, h2]; rw [nth_drop h1]
      · simp [stepL, stO, s1, s2, s3, s4]
    · obtain rfl : k = b.length := by omega
      rw [nth_drop h1, List.drop_length]
      by_cases s1 : s = 1
      · subst s1; simp [stepL, stO]
      by_cases s2 : s = 2
      · subst s2; simp [stepL, stO]
      by_cases s3 : s = 3
      · subst s3; simp [stepL, stO, stI, stK, stC, h1]
      by_cases s4 : s = 4
      · subst s4; simp [stepL, stO]
      · simp [stepL, stO, s1, s2, s3, s4]
  · obtain rfl : i = a.length := by omega
    rw [List.drop_length]
    by_cases h2 : k < b.length
    · rw [nth_drop h2]
      by_cases s1 : s = 1
      · subst s1; simp [stepL, stO]
      by_cases s2 : s = 2
      · subst s2; simp [stepL, stO]
      by_cases s3 : s = 3
      · subst s3; simp [stepL, stO]
      by_cases s4 : s = 4
      · subst s4; simp [stepL, stO, stI, stK, stC, h2]
      · simp [stepL, stO, s1, s2, s3, s4]
    · obtain rfl : k = b.length := by omega
      rw [List.drop_length]
      by_cases s1 : s = 1
      · subst s1; simp [stepL, stO]
      by_cases s2 : s = 2
      · subst s2; simp [stepL, stO]
      by_cases s3 : s = 3
      · subst s3; simp [stepL, stO]
      by_cases s4 : s = 4
      · subst s4; simp [stepL, stO]
      · simp [stepL, stO, s1, s2, s3, s4]
theorem costF_path {a b : List Wd} : ∀ {l : List Int} {i k : Nat} {c : Int}, i ≤ a.length → k ≤ b.length →
    (∀ n, pathC l (a.drop i) (b.drop k) = some n → costF a b l i k c = (c + n, true)) ∧ (pathC l (a.drop i) (b.drop k) = none → (costF a b l i k c).2 = false)
  | [], i, k, c, hi, hk => by
    simp only [pathC, costF]
    constructor
    · intro n h
      split at h
      · rename_i e
        simp at e
        cases h
        have : i = a.length ∧ k = b.length := by omega
        simp [this]
      · cases h
    · intro h
      split at h
      · cases h
      · rename_i e
        simp at e
        simp; omega
  | s :: r, i, k, c, hi, hk => by
    simp only [pathC, costF, stepL_st hi hk]
    cases ho : stO a b i k s with
    | false => simp
    | true =>
      obtain ⟨i', k', e1, e2, e3, e4, e5, e6⟩ := st_bound ho hi hk
      simp only [if_true, e1, e2, Int.toNat_natCast]
      obtain ⟨h1, h2⟩ := costF_path (l := r) (c := c + stC s) e3 e4
      constructor
      · intro n h
        simp only [Option.map_eq_some_iff] at h
        obtain ⟨m, hm, rfl⟩ := h
        rw [h1 m hm]; simp; omega
      · intro h
        simp only [Option.map_eq_none_iff] at h
        exact h2 h
theorem costF_some {a b : List Wd} {l : List Int} (h : (costF a b l 0 0 0).2 = true) : pathC l a b = some (costF a b l 0 0 0).1 := by
  obtain ⟨h1, h2⟩ := costF_path (a := a) (b := b) (l := l) (i := 0) (k := 0) (c := 0) (Nat.zero_le _) (Nat.zero_le _)
  simp only [List.drop_zero] at h1 h2
  cases hp : pathC l a b with
  | none => rw [h2 hp] at h; cases h
  | some n => rw [h1 n hp]; simp
theorem costF_of {a b : List Wd} {l : List Int} {n : Int} (h : pathC l a b = some n) : costF a b l 0 0 0 = (n, true) := by
  obtain ⟨h1, _⟩ := costF_path (a := a) (b := b) (l := l) (i := 0) (k := 0) (c := 0) (Nat.zero_le _) (Nat.zero_le _)
  simp only [List.drop_zero] at h1
  rw [h1 n h]; simp
/-- no path is cheaper than a proof that holds says -/
theorem holds_path {a b : List Wd} {p : List (List Int)} (hp : holdsS a b p = true) : ∀ {l : List Int} {i k : Nat} {n : Int}, i ≤ a.length → k ≤ b.length → pathC l (a.drop i) (b.drop k) = some n → nth (nth p i) k - nth (nth p a.length) b.length ≤ n
  | [], i, k, n, hi, hk, h => by
    simp only [pathC] at h
    split at h
    · rename_i e
      simp at e
      cases h
      obtain rfl : i = a.length := by omega
      obtain rfl : k = b.length := by omega
      omega
    · cases h
  | s :: r, i, k, n, hi, hk, h => by
    simp only [pathC, stepL_st hi hk] at h
    cases ho : stO a b i k s with
    | false => rw [ho] at h; simp at h
    | true =>
      obtain ⟨i', k', e1, e2, e3, e4, e5, e6⟩ := st_bound ho hi hk
      rw [ho] at h
      simp only [if_true, e1, e2, Int.toNat_natCast, Option.map_eq_some_iff] at h
      obtain ⟨m, hm, rfl⟩ := h
      have ih := holds_path hp e3 e4 hm
      have hs : 1 ≤ s ∧ s ≤ 4 := by
        unfold stO at ho
        by_cases s1 : s = 1
        · omega
        by_cases s2 : s = 2
        · omega
        by_cases s3 : s = 3
        · omega
        by_cases s4 : s = 4
        · omega
        · simp [s1, s2, s3, s4] at ho
      have hq : stpOk a b p i k s = true := by
        unfold holdsS at hp
        simp only [Bool.and_eq_true] at hp
        have h1 := allTo_iff.1 (allTo_iff.1 hp.2 i (by omega)) k (by omega)
        have h2 := allTo_iff.1 h1 (s - 1).toNat (by omega)
        rwa [show (((s - 1).toNat : Nat) : Int) + 1 = s by omega] at h2
      unfold stpOk at hq
      rw [ho, e1, e2] at hq
      simp at hq
      omega
/-- the table of least costs is a proof -/
theorem holds_T21 {a b : List Wd} (hs : a.length ≤ 64 ∧ b.length ≤ 64) : holdsS a b (tabF (a.length + 1) (b.length + 1) (T21 a b)) = true := by
  have hrow := fun i k => T21_row (a := a) (b := b) (i := i) (k := k)
  have hrl := fun i => T21_rowl (a := a) (b := b) (i := i)
  refine holds_true ?_ ?_
  · unfold shapeOk
    simp only [tabF_len, decide_true, Bool.true_and]
    refine allTo_iff.2 fun i hi => ?_
    unfold rowOk
    rw [hrl i (by omega)]
    simp only [decide_true, Bool.true_and]
    refine allTo_iff.2 fun k hk => ?_
    rw [hrow i k (by omega) (by omega)]
    have := T21_nonneg a b i k
    have := T21_max a b i k
    simp; omega
  · intro i k hi hk
    unfold plcOk
    refine allTo_iff.2 fun t ht => ?_
    unfold stpOk
    cases ho : stO a b i k ((t : Int) + 1) with
    | false => rfl
    | true =>
      obtain ⟨i', k', e1, e2, e3, e4, e5, e6⟩ := st_bound ho hi hk
      rw [e1, e2]
      simp only [Int.toNat_natCast, Bool.not_true, Bool.false_or, decide_eq_true_eq]
      rw [hrow i k hi hk, hrow i' k' e3 e4]
      have h1 : stepL ((t : Int) + 1) (a.drop i) (b.drop k) = some (a.drop i', b.drop k', stC ((t : Int) + 1)) := by
        rw [stepL_st hi hk, ho, e1, e2]; simp
      exact lev_le (stepL_Al h1 (lev_Al (a.drop i') (b.drop k')))
end Go.Ab
