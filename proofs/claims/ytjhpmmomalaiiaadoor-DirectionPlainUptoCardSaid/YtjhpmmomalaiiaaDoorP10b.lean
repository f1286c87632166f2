/- Layer 10 (direction), plain: levels. -/
import Derived.Test.YtjhpmmomalaiiaaDoorP10
import Derived.Test.YtjhpmmomalaiiaaDoorT2
set_option linter.unusedVariables false
set_option linter.unusedSimpArgs false
set_option linter.unusedSectionVars false
set_option linter.deprecated false
namespace Go.Ab
def strongF (right : Bool) (k : Int) : Int := if k = 4 then 1 else if k = 3 ∨ k = 2 then (if right then 2 else 0) else -1
def baseF (right : Bool) : Int := if right then 1 else 0
def okK (l : List Int) : Bool := l.all fun r => decide ((kindG r).2 = 0)
def rawL (right : Bool) (l : List Int) : List Int := l.map fun r => strongF right (kindG r).1
def gpL (L : List Int) (i : Nat) : Bool := decide (nth L i < 0)
/-- the level of the i-th code point, by those that they have of their own -/
def levAt (base : Int) (L : List Int) (i : Nat) : Int :=
  if 0 < fromP (gpL L) (i + 1) ∧ untilP (gpL L) L.length i < L.length ∧ nth L (fromP (gpL L) (i + 1) - 1) = nth L (untilP (gpL L) L.length i) then nth L (fromP (gpL L) (i + 1) - 1) else base
def lvL (base : Int) (L : List Int) : List Int := (List.range L.length).map (levAt base L)
def levS (l : List Int) (right : Bool) : List Int × Int := if 4096 < l.length then ([], 2) else if okK l = true then (lvL (baseF right) (rawL right l), 0) else ([], 90)
theorem kind_range {r : Int} (h : (kindG r).2 = 0) : (kindG r).1 = 0 ∨ (kindG r).1 = 1 ∨ (kindG r).1 = 2 ∨ (kindG r).1 = 3 ∨ (kindG r).1 = 4 := by
  unfold kindG kindR at *
  split at h
  · rename_i hp
    rw [if_pos hp]
    simp only
    split
    · omega
    · split
      · omega
      · split
        · omega
        · split <;> omega
  · simp at h
theorem kind_err {r : Int} (h : ¬ (kindG r).2 = 0) : (kindG r).2 = 90 := by
  unfold kindG at *
  split at h
  · simp at h
  · rename_i hp; rw [if_neg hp]
theorem fromP_step {p : Nat → Bool} {q : Nat} (h : p q = true) : fromP p (q + 1) = fromP p q := by rw [fromP, if_pos h]
theorem fromP_stop {p : Nat → Bool} {q : Nat} (h : p q = false) : fromP p (q + 1) = q + 1 := by rw [fromP, if_neg (by simp [h])]
theorem untP_step {p : Nat → Bool} {n j : Nat} (hj : j < n) (h : p j = true) : untP p (n - j) j = untP p (n - (j + 1)) (j + 1) := by
  obtain ⟨k, hk⟩ : ∃ k, n - j = k + 1 := ⟨n - j - 1, by omega⟩
  rw [hk, untP, if_pos h, show n - (j + 1) = k by omega]
theorem untP_stop {p : Nat → Bool} {n j : Nat} (h : n ≤ j ∨ p j = false) : untP p (n - j) j = j := by
  rcases h with h | h
  · rw [show n - j = 0 by omega]; rfl
  · cases n - j with
    | zero => rfl
    | succ k => rw [untP, if_neg (by simp [h])]
section
variable {L : List Int} {base : Int}
theorem lev_own {i : Nat} (hi : i < L.length) (h : gpL L i = false) : levAt base L i = nth L i := by
  unfold levAt untilP
  rw [fromP_stop h, untP_stop (.inr h)]
  simp [hi]
theorem lev_gap {i a b : Nat} (r : Run (gpL L) L.length a b) (h1 : a ≤ i) (h2 : i < b) : levAt base L i = if 0 < a ∧ b < L.length ∧ nth L (a - 1) = nth L b then nth L b else base := by
  have hp := r.all i h1 h2
  obtain ⟨s, h3, h4⟩ := run_at (p := gpL L) (n := L.length) (i := i) (by have := r.le; omega) hp
  obtain ⟨e1, e2⟩ := run_uniq r s h1 h2 h3 h4
  unfold levAt
  rw [fromP_step hp, ← e1, ← e2]
  by_cases c : 0 < a ∧ b < L.length ∧ nth L (a - 1) = nth L b
  · rw [if_pos c, if_pos c]; exact c.2.2
  · rw [if_neg c, if_neg c]
end
theorem strong_range (right : Bool) (k : Int) : strongF right k = -1 ∨ strongF right k = 0 ∨ strongF right k = 1 ∨ strongF right k = 2 := by
  unfold strongF
  split
  · omega
  · split
    · split <;> omega
    · omega
theorem rawL_len (right : Bool) (l : List Int) : (rawL right l).length = l.length := by simp [rawL]
theorem rawL_nth {right : Bool} {l : List Int} {i : Nat} (h : i < l.length) : nth (rawL right l) i = strongF right (kindG (nth l i)).1 := by
  rw [nth_eq (by simpa [rawL] using h)]
  simp [rawL, nth_eq h]
theorem lvL_len (base : Int) (L : List Int) : (lvL base L).length = L.length := by simp [lvL]
theorem lvL_nth {base : Int} {L : List Int} {i : Nat} (h : i < L.length) : nth (lvL base L) i = levAt base L i := by
  rw [nth_eq (by simpa [lvL] using h)]; simp [lvL]
theorem levS_range {l : List Int} {right : Bool} : ∀ x ∈ (levS l right).1, 0 ≤ x ∧ x ≤ 2 := by
  unfold levS
  split
  · simp
  · split
    · intro x hx
      simp only [lvL, List.mem_map, List.mem_range] at hx
      obtain ⟨i, hi, rfl⟩ := hx
      rw [rawL_len] at hi
      have hb : 0 ≤ baseF right ∧ baseF right ≤ 1 := by unfold baseF; split <;> omega
      cases hg : gpL (rawL right l) i with
      | false =>
        rw [lev_own (by rw [rawL_len]; exact hi) hg]
        unfold gpL at hg
        simp only [decide_eq_false_iff_not] at hg
        rw [rawL_nth hi] at hg ⊢
        have := strong_range right (kindG (nth l i)).1
        omega
      | true =>
        obtain ⟨r, h1, h2⟩ := run_at (p := gpL (rawL right l)) (n := (rawL right l).length) (i := i) (by rw [rawL_len]; exact hi) hg
        rw [lev_gap r h1 h2]
        split
        · rename_i c
          have hl := c.2.1
          have hi2 := r.hi
          generalize untilP (gpL (rawL right l)) (rawL right l).length i = b at *
          rcases hi2 with h | h
          · omega
          · unfold gpL at h
            simp only [decide_eq_false_iff_not] at h
            rw [rawL_len] at hl
            rw [rawL_nth hl] at h ⊢
            have := strong_range right (kindG (nth l b)).1
            omega
        · omega
    · simp
theorem levS_len (l : List Int) (right : Bool) : (levS l right).1.length ≤ 4096 := by
  unfold levS
  split
  · simp
  · split
    · simp [lvL_len, rawL_len]; omega
    · simp
end Go.Ab
