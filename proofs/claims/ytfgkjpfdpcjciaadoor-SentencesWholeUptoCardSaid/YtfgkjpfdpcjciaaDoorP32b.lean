/- Layer 32 (sentences), plain: what follows does not turn the sentences that are closed. -/
import Derived.Test.YtfgkjpfdpcjciaaDoorW5
set_option linter.unusedVariables false
set_option linter.unusedSimpArgs false
set_option linter.unusedSectionVars false
set_option linter.deprecated false
namespace Go.Ab
open Go.Proofs
theorem endW_pre {w m : List Wrd} {gap most : Int} {i : Nat} {n : Int} (h : i + 1 < w.length) : endW (w ++ m) gap most i n = endW w gap most i n := by
  have e1 : nth (w ++ m) i = nth w i := by unfold nth; simp [List.getD_eq_getElem?_getD, List.getElem?_append_left (show i < w.length by omega)]
  have e2 : nth (w ++ m) (i + 1) = nth w (i + 1) := by unfold nth; simp [List.getD_eq_getElem?_getD, List.getElem?_append_left h]
  have l1 : ¬ i + 1 = (w ++ m).length := by rw [List.length_append]; omega
  have l2 : ¬ i + 1 = w.length := by omega
  unfold endW
  rw [e1, e2, decide_eq_false l1, decide_eq_false l2]
theorem pre_num {w m : List Wrd} {gap most : Int} {i : Nat} (h : i < w.length) : numW (w ++ m) gap most i = numW w gap most i ∧ endsW (w ++ m) gap most i = endsW w gap most i := by
  induction i with
  | zero => exact ⟨rfl, rfl⟩
  | succ i ih =>
    obtain ⟨h1, h2⟩ := ih (by omega)
    rw [numW_step, endsW_step, numW_step, endsW_step, h1, h2, endW_pre h]
    exact ⟨rfl, rfl⟩
theorem endsW_mono (w : List Wrd) (gap most : Int) {i j : Nat} (h : i ≤ j) : ∃ r, endsW w gap most j = endsW w gap most i ++ r := by
  induction j with
  | zero =>
    have : i = 0 := by omega
    subst this; exact ⟨[], by simp⟩
  | succ j ih =>
    by_cases e : i = j + 1
    · subst e; exact ⟨[], by simp⟩
    · obtain ⟨r, hr⟩ := ih (by omega)
      rw [endsW_step]
      split
      · exact ⟨r ++ [((j + 1 : Nat) : Int)], by rw [hr, List.append_assoc]⟩
      · exact ⟨r, hr⟩
/-- the closed sentences' ends, whatever follows -/
theorem closed_pre {w m : List Wrd} {gap most t : Int} (hm : m ≠ [] → t ≤ (nth m 0).frm) : ∃ n r, cntF w gap most t w.length = n ∧ n ≤ (endsW w gap most w.length).length ∧ endsW (w ++ m) gap most (w ++ m).length = (endsW w gap most w.length).take n ++ r := by
  by_cases h0 : w.length = 0
  · have hw0 : w = [] := List.length_eq_zero_iff.1 h0
    subst hw0
    exact ⟨0, _, rfl, Nat.zero_le _, rfl⟩
  · obtain ⟨k, hk⟩ : ∃ k, w.length = k + 1 := ⟨w.length - 1, by omega⟩
    have hkw : k < w.length := by omega
    have hce := cntF_end (gap := gap) (most := most) (t := t) hk
    have hee := endsW_end (gap := gap) (most := most) hk
    obtain ⟨p1, p2⟩ := pre_num (m := m) (gap := gap) (most := most) hkw
    have hal : (w ++ m).length = w.length + m.length := List.length_append
    by_cases hc : ownW (nth w k) (numW w gap most k + 1 : Nat) most = true ∨ (nth w k).til + gap ≤ t
    · rw [if_pos hc] at hce
      refine ⟨(endsW w gap most k).length + 1, ?_⟩
      by_cases hm0 : m = []
      · subst hm0
        refine ⟨[], hce, by rw [hee]; simp, ?_⟩
        rw [List.append_nil, hee, List.take_of_length_le (by simp)]; simp
      · have hmp := List.length_pos_iff.2 hm0
        have e1 : nth (w ++ m) k = nth w k := by unfold nth; simp [List.getD_eq_getElem?_getD, List.getElem?_append_left hkw]
        have e2 : nth (w ++ m) (k + 1) = nth m 0 := by
          unfold nth
          rw [List.getD_eq_getElem?_getD, List.getElem?_append_right (by omega), hk, Nat.sub_self, ← List.getD_eq_getElem?_getD]
        have hE : endW (w ++ m) gap most k (numW (w ++ m) gap most k + 1 : Nat) = true := by
          rw [p1, endW_in (by omega), e1, e2]
          rcases hc with hc | hc
          · rw [hc]; rfl
          · have : apartW (nth w k) (nth m 0) gap = true := by
              unfold apartW
              have := hm hm0
              rw [decide_eq_true (show (nth w k).til + gap ≤ (nth m 0).frm by omega)]; rfl
            rw [this, Bool.or_true]
        have hs1 : endsW (w ++ m) gap most (k + 1) = endsW w gap most k ++ [((k + 1 : Nat) : Int)] := by rw [endsW_step, if_pos hE, p2]
        obtain ⟨r, hr⟩ := endsW_mono (w ++ m) gap most (i := k + 1) (j := (w ++ m).length) (by omega)
        refine ⟨r, hce, by rw [hee]; simp, ?_⟩
        rw [hr, hs1, hee, List.take_of_length_le (by simp)]
    · rw [if_neg hc] at hce
      obtain ⟨r, hr⟩ := endsW_mono (w ++ m) gap most (i := k) (j := (w ++ m).length) (by omega)
      refine ⟨_, r, hce, by rw [hee]; simp, ?_⟩
      rw [hr, p2, hee, List.take_left']
      rfl
end Go.Ab
