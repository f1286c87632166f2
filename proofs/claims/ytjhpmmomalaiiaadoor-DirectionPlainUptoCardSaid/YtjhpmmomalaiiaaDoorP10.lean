/- Layer 10 (direction), plain: greatest runs, and what turning them does. -/
import Derived.Test.YtjhpmmomalaiiaaDoorU
set_option linter.unusedVariables false
set_option linter.unusedSimpArgs false
set_option linter.unusedSectionVars false
set_option linter.deprecated false
namespace Go.Ab
/-- a greatest run of numbers at which something holds -/
structure Run (p : Nat → Bool) (n a b : Nat) : Prop where
  lt : a < b
  le : b ≤ n
  all : ∀ j, a ≤ j → j < b → p j = true
  lo : a = 0 ∨ p (a - 1) = false
  hi : b = n ∨ p b = false
def fromP (p : Nat → Bool) : Nat → Nat
  | 0 => 0
  | i + 1 => if p i = true then fromP p i else i + 1
def untP (p : Nat → Bool) : Nat → Nat → Nat
  | 0, j => j
  | k + 1, j => if p j = true then untP p k (j + 1) else j
def untilP (p : Nat → Bool) (n i : Nat) : Nat := untP p (n - i) i
def revF (p : Nat → Bool) (n i : Nat) : Nat := if p i = true then fromP p i + untilP p n i - 1 - i else i
section
variable {p : Nat → Bool} {n : Nat}
theorem fromP_spec : ∀ {i : Nat}, fromP p i ≤ i ∧ (∀ j, fromP p i ≤ j → j < i → p j = true) ∧ (fromP p i = 0 ∨ p (fromP p i - 1) = false)
  | 0 => ⟨Nat.le_refl _, fun j _ h => by omega, .inl rfl⟩
  | i + 1 => by
    unfold fromP
    by_cases h : p i = true
    · rw [if_pos h]
      obtain ⟨h1, h2, h3⟩ := fromP_spec (i := i)
      refine ⟨by omega, fun j hj hl => ?_, h3⟩
      by_cases e : j = i
      · subst e; exact h
      · exact h2 j hj (by omega)
    · rw [if_neg h]
      exact ⟨Nat.le_refl _, fun j hj hl => by omega, .inr (by simpa using h)⟩
theorem untP_spec : ∀ {k j : Nat}, j ≤ untP p k j ∧ untP p k j ≤ j + k ∧ (∀ i, j ≤ i → i < untP p k j → p i = true) ∧ (untP p k j = j + k ∨ p (untP p k j) = false)
  | 0, j => ⟨Nat.le_refl _, Nat.le_refl _, fun i h h2 => by simp only [untP] at h2; omega, .inl rfl⟩
  | k + 1, j => by
    unfold untP
    by_cases h : p j = true
    · rw [if_pos h]
      obtain ⟨h1, h2, h3, h4⟩ := untP_spec (k := k) (j := j + 1)
      refine ⟨by omega, by omega, fun i hi hl => ?_, by rcases h4 with h4 | h4; exact .inl (by omega); exact .inr h4⟩
      by_cases e : i = j
      · subst e; exact h
      · exact h3 i (by omega) hl
    · rw [if_neg h]
      exact ⟨Nat.le_refl _, by omega, fun i hi hl => by omega, .inr (by simpa using h)⟩
theorem run_at {i : Nat} (hi : i < n) (h : p i = true) : Run p n (fromP p i) (untilP p n i) ∧ fromP p i ≤ i ∧ i < untilP p n i := by
  obtain ⟨h1, h2, h3⟩ := fromP_spec (p := p) (i := i)
  obtain ⟨k, hk⟩ : ∃ k, n - i = k + 1 := ⟨n - i - 1, by omega⟩
  obtain ⟨h4, h5, h6, h7⟩ := untP_spec (p := p) (k := n - i) (j := i)
  have hlt : i < untilP p n i := by
    unfold untilP
    rcases h7 with h7 | h7
    · omega
    · rcases Nat.eq_or_lt_of_le h4 with e | e
      · rw [← e, h] at h7; cases h7
      · exact e
  unfold untilP at hlt ⊢
  refine ⟨⟨by omega, by omega, fun j hj hl => ?_, h3, ?_⟩, h1, hlt⟩
  · by_cases e : j < i
    · exact h2 j hj e
    · exact h6 j (by omega) hl
  · rcases h7 with h7 | h7
    · exact .inl (by omega)
    · exact .inr h7
theorem run_uniq {a b c d i : Nat} (r : Run p n a b) (s : Run p n c d) (h1 : a ≤ i) (h2 : i < b) (h3 : c ≤ i) (h4 : i < d) : a = c ∧ b = d := by
  have key : ∀ {a b c d : Nat}, Run p n a b → Run p n c d → a ≤ i → i < b → c ≤ i → i < d → ¬ a < c ∧ ¬ b < d := by
    intro a b c d r s h1 h2 h3 h4
    constructor
    · intro hac
      have := r.all (c - 1) (by omega) (by omega)
      rcases s.lo with e | e
      · omega
      · rw [this] at e; cases e
    · intro hbd
      have := s.all b (by omega) hbd
      rcases r.hi with e | e
      · have := s.le; omega
      · rw [this] at e; cases e
  have k1 := key r s h1 h2 h3 h4
  have k2 := key s r h3 h4 h1 h2
  omega
theorem revF_run {a b i : Nat} (r : Run p n a b) (h1 : a ≤ i) (h2 : i < b) : revF p n i = a + b - 1 - i := by
  have hp := r.all i h1 h2
  obtain ⟨s, h3, h4⟩ := run_at (p := p) (n := n) (i := i) (by have := r.le; omega) hp
  obtain ⟨e1, e2⟩ := run_uniq r s h1 h2 h3 h4
  unfold revF
  rw [if_pos hp, ← e1, ← e2]
theorem revF_no {i : Nat} (h : p i = false) : revF p n i = i := by unfold revF; rw [h]; rfl
theorem revF_in {i : Nat} (hi : i < n) (h : p i = true) : ∃ a b, Run p n a b ∧ a ≤ i ∧ i < b ∧ revF p n i = a + b - 1 - i ∧ a ≤ revF p n i ∧ revF p n i < b ∧ revF p n (revF p n i) = i := by
  obtain ⟨s, h3, h4⟩ := run_at hi h
  have e := revF_run s h3 h4
  refine ⟨_, _, s, h3, h4, e, by omega, by omega, ?_⟩
  rw [revF_run s (by omega) (by omega), e]; omega
theorem revF_lt {i : Nat} (hi : i < n) : revF p n i < n := by
  cases h : p i with
  | false => rw [revF_no h]; exact hi
  | true =>
    obtain ⟨a, b, s, _, _, _, _, h2, _⟩ := revF_in hi h
    have := s.le; omega
theorem revF_revF {i : Nat} (hi : i < n) : revF p n (revF p n i) = i := by
  cases h : p i with
  | false => rw [revF_no h, revF_no h]
  | true =>
    obtain ⟨a, b, s, _, _, _, _, _, h2⟩ := revF_in hi h
    exact h2
theorem revF_p {i : Nat} (hi : i < n) : p (revF p n i) = p i := by
  cases h : p i with
  | false => rw [revF_no h, h]
  | true =>
    obtain ⟨a, b, s, _, _, _, h1, h2, _⟩ := revF_in hi h
    exact s.all _ h1 h2
theorem run_next {a b i : Nat} (r : Run p n a b) (h1 : a ≤ i) (h2 : i < b) (hi : i + 1 < n) (h : p (i + 1) = true) : i + 1 < b := by
  rcases Nat.lt_or_ge (i + 1) b with e | e
  · exact e
  · have : i + 1 = b := by omega
    subst this
    rcases r.hi with e | e
    · omega
    · rw [h] at e; cases e
/-- neighbours in a run -/
theorem revF_next {i : Nat} (hi : i + 1 < n) (h : p i = true) (h' : p (i + 1) = true) : revF p n i = revF p n (i + 1) + 1 := by
  obtain ⟨s, h3, h4⟩ := run_at (p := p) (n := n) (i := i) (by omega) h
  have h5 := run_next s h3 h4 hi h'
  rw [revF_run s h3 h4, revF_run s (by omega) h5]; omega
end
/-! Levels and orders -/
def geL (L : List Int) (k : Int) (i : Nat) : Bool := decide (k ≤ nth L i)
/-- what stands at a place of the order -/
def ordF (L : List Int) (i : Nat) : Nat := revF (geL L 2) L.length (revF (geL L 1) L.length i)
/-- at which place a number stands in the order -/
def atF (L : List Int) (i : Nat) : Nat := revF (geL L 1) L.length (revF (geL L 2) L.length i)
section
variable {L : List Int}
theorem ordF_lt {i : Nat} (hi : i < L.length) : ordF L i < L.length := revF_lt (revF_lt hi)
theorem atF_lt {i : Nat} (hi : i < L.length) : atF L i < L.length := revF_lt (revF_lt hi)
theorem ord_at {i : Nat} (hi : i < L.length) : ordF L (atF L i) = i := by
  unfold ordF atF; rw [revF_revF (revF_lt hi), revF_revF hi]
theorem at_ord {i : Nat} (hi : i < L.length) : atF L (ordF L i) = i := by
  unfold ordF atF; rw [revF_revF (revF_lt hi), revF_revF hi]
theorem ordF_inj {i j : Nat} (hi : i < L.length) (hj : j < L.length) (h : ordF L i = ordF L j) : i = j := by
  rw [← at_ord hi, ← at_ord hj, h]
theorem at_neighbours {i : Nat} (hi : i + 1 < L.length) (h0 : 0 ≤ nth L i) (he : nth L i = nth L (i + 1)) : (atF L (i + 1) : Int) = atF L i + (if nth L (i + 1) = 1 then -1 else 1) := by
  unfold atF
  by_cases c2 : 2 ≤ nth L i
  · have e1 : geL L 2 i = true := decide_eq_true c2
    have e2 : geL L 2 (i + 1) = true := decide_eq_true (by omega)
    have h1 := revF_next hi e1 e2
    have hl := revF_lt (p := geL L 2) (n := L.length) (i := i) (by omega)
    have p1 := revF_p (p := geL L 2) (n := L.length) (i := i) (by omega)
    have p2 := revF_p (p := geL L 2) (n := L.length) (i := i + 1) hi
    rw [e1] at p1; rw [e2] at p2
    rw [h1] at p1 hl ⊢
    generalize revF (geL L 2) L.length (i + 1) = y at *
    have q1 : geL L 1 (y + 1) = true := by unfold geL at p1 ⊢; simp at p1 ⊢; omega
    have q2 : geL L 1 y = true := by unfold geL at p2 ⊢; simp at p2 ⊢; omega
    have h2 := revF_next hl q2 q1
    rw [if_neg (by omega)]
    omega
  · have e1 : geL L 2 i = false := decide_eq_false c2
    have e2 : geL L 2 (i + 1) = false := decide_eq_false (by omega)
    rw [revF_no e1, revF_no e2]
    by_cases c1 : 1 ≤ nth L i
    · have h2 := revF_next (p := geL L 1) hi (decide_eq_true c1) (decide_eq_true (by omega))
      rw [if_pos (by omega)]; omega
    · rw [revF_no (p := geL L 1) (decide_eq_false (by omega)), revF_no (p := geL L 1) (decide_eq_false (by omega)), if_neg (by omega)]; omega
theorem at_zero {i : Nat} (h : nth L i ≤ 0) : atF L i = i := by
  unfold atF
  rw [revF_no (p := geL L 2) (i := i) (decide_eq_false (by omega)), revF_no (p := geL L 1) (decide_eq_false (by omega))]
theorem at_run {i a b : Nat} (r : Run (geL L 1) L.length a b) (h1 : a ≤ i) (h2 : i < b) : a ≤ atF L i ∧ atF L i < b := by
  have hl := r.le
  have key : ∃ y, revF (geL L 2) L.length i = y ∧ a ≤ y ∧ y < b := by
    refine ⟨_, rfl, ?_⟩
    cases h : geL L 2 i with
    | false => rw [revF_no h]; exact ⟨h1, h2⟩
    | true =>
      obtain ⟨c, d, s, k1, k2, _, k3, k4, _⟩ := revF_in (p := geL L 2) (n := L.length) (i := i) (by omega) h
      have hall : ∀ j, c ≤ j → j < d → geL L 1 j = true := fun j hj hd => by
        have := s.all j hj hd
        unfold geL at this ⊢; simp at this ⊢; omega
      have up : ∀ m, i + m < d → i + m < b := by
        intro m
        induction m with
        | zero => intro _; exact h2
        | succ m ih => intro hm; exact run_next (i := i + m) r (by omega) (ih (by omega)) (by have := s.le; omega) (hall (i + m + 1) (by omega) hm)
      have dn : ∀ m, m ≤ i - c → a ≤ i - m := by
        intro m
        induction m with
        | zero => intro _; simpa using h1
        | succ m ih =>
          intro hm
          have h3 := ih (by omega)
          rcases Nat.lt_or_ge (i - (m + 1)) a with e | e
          · have e2 : a = i - m := by omega
            rcases r.lo with e3 | e3
            · omega
            · have := hall (a - 1) (by omega) (by omega)
              rw [this] at e3; cases e3
          · exact e
      have u := up (revF (geL L 2) L.length i - i)
      have v := dn (i - c) (Nat.le_refl _)
      omega
  obtain ⟨y, e, k1, k2⟩ := key
  unfold atF
  rw [e, revF_run r k1 k2]; omega
theorem at_at {i : Nat} (hi : i < L.length) (h : ∀ j, j < L.length → nth L j < 2) : atF L (atF L i) = i := by
  have h1 : ∀ j, j < L.length → atF L j = revF (geL L 1) L.length j := by
    intro j hj
    unfold atF
    rw [revF_no (p := geL L 2) (decide_eq_false (by have := h j hj; omega))]
  rw [h1 _ (atF_lt hi), h1 _ hi, revF_revF hi]
end
end Go.Ab
