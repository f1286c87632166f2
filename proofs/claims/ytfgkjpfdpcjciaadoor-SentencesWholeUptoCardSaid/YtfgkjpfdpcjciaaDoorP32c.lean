/- Layer 32 (sentences), plain: the sentences behind an end. -/
import Derived.Test.YtfgkjpfdpcjciaaDoorP32b
set_option linter.unusedVariables false
set_option linter.unusedSimpArgs false
set_option linter.unusedSectionVars false
set_option linter.deprecated false
namespace Go.Ab
open Go.Proofs
theorem nth_dropE {α : Type} [Inhabited α] (l : List α) (e j : Nat) : nth (l.drop e) j = nth l (e + j) := by
  unfold nth; simp [List.getD_eq_getElem?_getD, List.getElem?_drop]
theorem endW_drop {w : List Wrd} {gap most : Int} {e j : Nat} {n : Int} (he : e ≤ w.length) : endW (w.drop e) gap most j n = endW w gap most (e + j) n := by
  unfold endW
  rw [nth_dropE, nth_dropE, List.length_drop]
  have : (decide (j + 1 = w.length - e)) = decide (e + j + 1 = w.length) := by
    by_cases h : j + 1 = w.length - e
    · rw [decide_eq_true h, decide_eq_true (by omega)]
    · rw [decide_eq_false h, decide_eq_false (by omega)]
  rw [this, Nat.add_assoc]
theorem drop_run {w : List Wrd} {gap most : Int} {e : Nat} (he : e ≤ w.length) (h0 : numW w gap most e = 0) (j : Nat) :
    numW (w.drop e) gap most j = numW w gap most (e + j) ∧ endsW w gap most (e + j) = endsW w gap most e ++ (endsW (w.drop e) gap most j).map (· + (e : Int)) := by
  induction j with
  | zero => exact ⟨h0.symm, by simp [endsW]⟩
  | succ j ih =>
    obtain ⟨i1, i2⟩ := ih
    have e1 : e + (j + 1) = e + j + 1 := by omega
    rw [e1, numW_step, numW_step, endsW_step, endsW_step, i1, endW_drop he, i2]
    split
    · refine ⟨rfl, ?_⟩
      rw [List.map_append, ← List.append_assoc]
      congr 1
      simp; omega
    · exact ⟨rfl, rfl⟩
theorem drop_cnt {w : List Wrd} {gap most t : Int} {e : Nat} (he : e ≤ w.length) (h0 : numW w gap most e = 0) (j : Nat) :
    cntF w gap most t (e + j) = cntF w gap most t e + cntF (w.drop e) gap most t j := by
  induction j with
  | zero => simp [cntF]
  | succ j ih =>
    obtain ⟨i1, _⟩ := drop_run (gap := gap) (most := most) he h0 j
    have e1 : e + (j + 1) = e + j + 1 := by omega
    rw [e1, cntF, cntF, i1, endW_drop he, nth_dropE, List.length_drop, ih]
    by_cases c : endW w gap most (e + j) (numW w gap most (e + j) + 1 : Nat) = true ∧ (e + j + 1 < w.length ∨ ownW (nth w (e + j)) (numW w gap most (e + j) + 1 : Nat) most = true ∨ (nth w (e + j)).til + gap ≤ t)
    · rw [if_pos c, if_pos ⟨c.1, c.2.imp (fun x => by omega) id⟩]; omega
    · rw [if_neg c, if_neg (fun x => c ⟨x.1, x.2.imp (fun y => by omega) id⟩)]
theorem end_at {w : List Wrd} {gap most : Int} {i k : Nat} (h : k < (endsW w gap most i).length) : ∃ j, j < i ∧ nth (endsW w gap most i) k = ((j + 1 : Nat) : Int) ∧ (endsW w gap most (j + 1)).length = k + 1 ∧ numW w gap most (j + 1) = 0 := by
  induction i with
  | zero => simp [endsW] at h
  | succ i ih =>
    rw [endsW_step] at h ⊢
    by_cases e : endW w gap most i (numW w gap most i + 1 : Nat) = true
    · rw [if_pos e] at h ⊢
      by_cases hk : k < (endsW w gap most i).length
      · obtain ⟨j, h1, h2, h3, h4⟩ := ih hk
        refine ⟨j, by omega, ?_, h3, h4⟩
        rw [← h2]
        unfold nth; simp [List.getD_eq_getElem?_getD, List.getElem?_append_left hk]
      · rw [List.length_append] at h
        have hk2 : k = (endsW w gap most i).length := by simp at h; omega
        refine ⟨i, by omega, ?_, ?_, ?_⟩
        · subst hk2
          unfold nth; simp
        · rw [endsW_step, if_pos e, List.length_append, hk2]; rfl
        · rw [numW_step, if_pos e]
    · rw [if_neg e] at h ⊢
      obtain ⟨j, h1, h2, h3, h4⟩ := ih h
      exact ⟨j, by omega, h2, h3, h4⟩
theorem okL_drop {w : List Wrd} (h : okL w = true) (e : Nat) : okL (w.drop e) = true := by
  refine okL_t (fun k hk => ?_)
  rw [List.length_drop] at hk
  have := okL_at h (k := e + k) (by omega)
  unfold okI at this ⊢
  rw [Bool.and_eq_true] at this ⊢
  obtain ⟨h1, h2⟩ := this
  rw [nth_dropE, nth_dropE]
  refine ⟨h1, ?_⟩
  rw [Bool.or_eq_true] at h2 ⊢
  by_cases hk0 : k = 0
  · left; exact decide_eq_true hk0
  · right
    have e1 : e + (k - 1) = e + k - 1 := by omega
    rcases h2 with h2 | h2
    · have := of_decide_eq_true h2; omega
    · rw [e1]; exact h2
theorem erS_drop {w : List Wrd} {gap most : Int} (h : erS w gap most = 0) (e : Nat) : erS (w.drop e) gap most = 0 := by
  obtain ⟨hl, hok, h1, h2, h3, h4⟩ := erS_zero h
  rw [erS_ok (by rw [List.length_drop]; omega) (okL_drop hok e), if_pos ⟨h1, h2, h3, h4⟩]
/-- what stands behind an end -/
theorem rest_of {w : List Wrd} {gap most t : Int} {k : Nat} (h : k < (endsW w gap most w.length).length) : ∃ e : Nat, 0 < e ∧ e ≤ w.length ∧ nth (endsW w gap most w.length) k = (e : Int) ∧
    endsW w gap most w.length = endsW w gap most e ++ (endsW (w.drop e) gap most (w.drop e).length).map (· + (e : Int)) ∧ (endsW w gap most e).length = k + 1 ∧
    (endsW (w.drop e) gap most (w.drop e).length ≠ [] → cntF w gap most t w.length = k + 1 + cntF (w.drop e) gap most t (w.drop e).length) := by
  obtain ⟨j, h1, h2, h3, h4⟩ := end_at h
  have he : j + 1 ≤ w.length := by omega
  have hd := drop_run (gap := gap) (most := most) he h4 (w.drop (j + 1)).length
  have hl : j + 1 + (w.drop (j + 1)).length = w.length := by rw [List.length_drop]; omega
  rw [hl] at hd
  refine ⟨j + 1, by omega, he, h2, hd.2, h3, fun hne => ?_⟩
  have hc := drop_cnt (gap := gap) (most := most) (t := t) he h4 (w.drop (j + 1)).length
  rw [hl] at hc
  have hlt : j + 1 < w.length := by
    refine Decidable.byContradiction fun x => hne ?_
    have : w.drop (j + 1) = [] := List.drop_eq_nil_of_le (by omega)
    rw [this]; rfl
  rw [hc, cntF_in hlt, h3]
end Go.Ab
