/- Layer 32 (sentences): what a sentence is, in plain words. -/
import Derived.Test.YtfgkjpfdpcjciaaDoorP32c
set_option linter.unusedVariables false
set_option linter.unusedSimpArgs false
set_option linter.unusedSectionVars false
set_option linter.deprecated false
namespace Go.Ab
set_option maxRecDepth 100000
/-- the words since the last end: none of them ends a sentence -/
theorem run_of {w : List Wrd} {gap most : Int} (hm : 1 ≤ most) (j : Nat) : (numW w gap most j : Int) < most ∧
    ∀ i, j - numW w gap most j < i → i ≤ j → ¬ i = w.length ∧ markT (nth w (i - 1)).text = false ∧ apartW (nth w (i - 1)) (nth w i) gap = false := by
  induction j with
  | zero => exact ⟨by simp only [numW]; omega, fun i h1 h2 => by omega⟩
  | succ j ih =>
    obtain ⟨h1, h2⟩ := ih
    have hl := numW_le w gap most j
    rw [numW_step]
    by_cases e : endW w gap most j (numW w gap most j + 1 : Nat) = true
    · rw [if_pos e]
      exact ⟨by omega, fun i a b => by omega⟩
    · rw [if_neg e]
      have e2 : endW w gap most j (numW w gap most j + 1 : Nat) = false := by simpa using e
      have hn : ¬ j + 1 = w.length := fun x => e (endW_last x)
      rw [endW_in hn, Bool.or_eq_false_iff] at e2
      obtain ⟨e3, e4⟩ := e2
      unfold ownW at e3
      rw [Bool.or_eq_false_iff] at e3
      obtain ⟨e5, e6⟩ := e3
      have e7 := of_decide_eq_false e6
      refine ⟨by omega, fun i a b => ?_⟩
      by_cases hi : i ≤ j
      · exact h2 i (by omega) hi
      · have : i = j + 1 := by omega
        subst this
        exact ⟨hn, e5, e4⟩
theorem nth_app_lt2 {α : Type} [Inhabited α] {a b : List α} {j : Nat} (h : j < a.length) : nth (a ++ b) j = nth a j := by
  unfold nth; simp [List.getD_eq_getElem?_getD, List.getElem?_append_left h]
def firstE (l : List Int) (k : Nat) : Int := if k = 0 then 0 else nth l (k - 1)
theorem whole_of {w : List Wrd} {gap most : Int} (hm : 1 ≤ most) {k : Nat} (h : k < (endsW w gap most w.length).length) :
    ∃ e f : Nat, nth (endsW w gap most w.length) k = (e : Int) ∧ firstE (endsW w gap most w.length) k = (f : Int) ∧ f < e ∧ e ≤ w.length ∧ (e : Int) - f ≤ most ∧
      (∀ i, f < i → i < e → markT (nth w (i - 1)).text = false ∧ apartW (nth w (i - 1)) (nth w i) gap = false) ∧
      (e < w.length → ((e : Int) - f < most) → markT (nth w (e - 1)).text = false → apartW (nth w (e - 1)) (nth w e) gap = true) := by
  obtain ⟨j, h1, h2, h3, h4⟩ := end_at h
  have e : endW w gap most j (numW w gap most j + 1 : Nat) = true := by
    rw [numW_step] at h4
    by_cases e : endW w gap most j (numW w gap most j + 1 : Nat) = true
    · exact e
    · rw [if_neg e] at h4; omega
  have hst : endsW w gap most (j + 1) = endsW w gap most j ++ [((j + 1 : Nat) : Int)] := by rw [endsW_step, if_pos e]
  have hlen : (endsW w gap most j).length = k := by
    have := congrArg List.length hst
    rw [h3, List.length_append] at this; simp at this; omega
  obtain ⟨r, hr⟩ := endsW_mono w gap most (show j ≤ w.length by omega)
  have hl := numW_le w gap most j
  obtain ⟨r1, r2⟩ := run_of (w := w) (gap := gap) hm j
  have hf : firstE (endsW w gap most w.length) k = ((j - numW w gap most j : Nat) : Int) := by
    have ha := numW_at w gap most j
    have hb : lastE (endsW w gap most j) = firstE (endsW w gap most w.length) k := by
      unfold lastE firstE
      by_cases hk : k = 0
      · rw [if_pos hk, if_pos (List.length_eq_zero_iff.1 (by omega))]
      · rw [if_neg hk, if_neg (fun x => by rw [x] at hlen; simp at hlen; omega), hlen, hr, nth_app_lt2 (by omega)]
    rw [← hb]; omega
  refine ⟨j + 1, j - numW w gap most j, h2, hf, by omega, by omega, by omega, fun i a b => ?_, fun a b c => ?_⟩
  · obtain ⟨_, q1, q2⟩ := r2 i a (by omega)
    exact ⟨q1, q2⟩
  · rw [endW_in (by omega)] at e
    have c' : markT (nth w j).text = false := c
    have : ownW (nth w j) (numW w gap most j + 1 : Nat) most = false := by
      unfold ownW
      rw [c', Bool.false_or]
      exact decide_eq_false (by omega)
    rw [this, Bool.false_or] at e
    exact e
end Go.Ab
