/- Layer 22 (fuse): what the laws need of the plain law. -/
import Derived.Test.YtackmibobdoecaaDoorH8
import Derived.Test.YtackmibobdoecaaDoorS22
set_option linter.unusedVariables false
set_option linter.unusedSimpArgs false
set_option linter.unusedSectionVars false
set_option linter.deprecated false
namespace Go.Ab
open Go.Proofs
set_option maxRecDepth 100000
set_option maxHeartbeats 4000000
theorem goL_sm : ∀ (l : List (List Cell)) (i : Nat) (x : List (List Cell)), OkX i x → x.length ≤ 128 → i + l.length ≤ 1024 → (∀ r ∈ l, r.length ≤ 64 ∧ ∀ c ∈ r, wordS c.text = true ∧ smC c) → smL (goL i x l).1
  | [], i, x, hok, hx, hi, _ => by rw [goL]; exact hok.sm (by simp at hi; omega) (by omega)
  | r :: l, i, x, hok, hx, hi, hr => by
    by_cases h : 64 < x.length
    · rw [goL_long h]; exact ⟨by simp, by simp⟩
    · rw [goL_step h]
      have h1 := hr r List.mem_cons_self
      have hp := putL_len i x r
      exact goL_sm l (i + 1) _ (hok.step h1.2) (by omega) (by simp at hi; omega) (fun q hq => hr q (List.mem_cons_of_mem _ hq))
theorem fuS_sm {l : List (List Cell)} (hs : smL l) : smL (fuS l).1 := by
  unfold fuS
  by_cases h : 16 < l.length ∨ l.any (fun r => decide (64 < r.length)) = true
  · rw [if_pos h]; exact ⟨by simp, by simp⟩
  · rw [if_neg h]
    by_cases h2 : l.all (fun r => r.all rightC) = true
    · rw [if_pos h2]
      refine goL_sm l 0 [] OkX.nil (by simp) (by have := fun e => h (.inl e); omega) (fun r hr => ⟨?_, fun c hc => ⟨?_, (hs.2 r hr).2 c hc⟩⟩)
      · refine Decidable.byContradiction fun e => h (.inr (List.any_eq_true.2 ⟨r, hr, by simpa using e⟩))
      · rw [List.all_eq_true] at h2
        have := h2 r hr
        rw [List.all_eq_true] at this
        exact rightC_word (this c hc)
    · rw [if_neg h2]; exact ⟨by simp, by simp⟩
theorem rightL_of {l : List (List Cell)} (h : rightL l = true) : l.length ≤ 5 ∧ (∀ r ∈ l, r.length ≤ 12) ∧ (∀ r ∈ l, ∀ c ∈ r, rightC c = true) := by
  unfold rightL at h
  simp only [Bool.and_eq_true, decide_eq_true_eq, List.all_eq_true, rightR] at h
  exact ⟨h.1.1, fun r hr => (h.2 r hr).1, fun r hr => (h.2 r hr).2⟩
theorem rightC_ne {c : Cell} (h : rightC c = true) : c.text ≠ [] := wordS_ne (rightC_word h)
theorem rightC_alts {c : Cell} (h : rightC c = true) : [] ∉ c.alts := by
  intro e
  unfold rightC at h
  simp only [Bool.and_eq_true, List.all_eq_true] at h
  exact wordS_ne (h.2 _ e) rfl
theorem fuS_go {l : List (List Cell)} (h5 : l.length ≤ 16) (h12 : ∀ r ∈ l, r.length ≤ 12) (hr : ∀ r ∈ l, ∀ c ∈ r, rightC c = true) : fuS l = goL 0 [] l := by
  unfold fuS
  rw [if_neg, if_pos]
  · rw [List.all_eq_true]; intro r hrm; rw [List.all_eq_true]; exact hr r hrm
  · rintro (e | e)
    · omega
    · obtain ⟨r, hrm, e⟩ := List.any_eq_true.1 e
      have := h12 r hrm
      simp at e; omega
theorem fd_of {l s : List (List Cell)} (h : fuS l = (s, 0)) (h60 : s.length ≤ 60) (hw : ∀ y ∈ s, y.length = l.length) : fdS l = (s, true) := by
  have := fdS_t (l := l) (by
    rw [h]
    refine ⟨rfl, h60, ?_⟩
    rw [List.all_eq_true]; intro y hy; exact decide_eq_true (hw y hy))
  rw [this, h]
theorem fd_right {l : List (List Cell)} (h : rightL l = true) : ∃ s, fuS l = (s, 0) ∧ fdS l = (s, true) ∧ Slots l s := by
  obtain ⟨h5, h12, hr⟩ := rightL_of h
  obtain ⟨s, hs, hS⟩ := goL_right l h5 h12 (fun r hrm c hc => rightC_ne (hr r hrm c hc))
  have hf := fuS_go (by omega) h12 hr
  rw [hs] at hf
  have := hS.few
  exact ⟨s, hf, fd_of hf (by omega) hS.len, hS⟩
theorem colL_take {s : List (List Cell)} {j : Nat} (h : j < s.length) (i : Nat) : colL (s.take (j + 1)) i = if nth (nth s j) i = c0 then colL (s.take j) i else colL (s.take j) i ++ [nth (nth s j) i] := by
  rw [nth_take h]; unfold colL
  rw [List.map_append, List.filter_append]
  by_cases e : nth (nth s j) i = c0 <;> simp [e]
theorem colL_le (s : List (List Cell)) (i : Nat) : (colL s i).length ≤ s.length := by
  unfold colL; have := List.length_filter_le (fun c => decide (c ≠ c0)) (s.map fun y => nth y i); simpa using this
theorem emptyC_eq (c : Cell) : emptyC c = decide (c = c0) := by
  obtain ⟨t, a⟩ := c
  unfold emptyC
  by_cases h1 : t = [] <;> by_cases h2 : a = [] <;> simp [h1, h2]
theorem chR_len (l : List (List Cell)) : (chR l).1.1.length ≤ l.length ∧ (chR l).1.2.length ≤ l.length := by
  unfold chR
  split
  · simp
  · split
    · simp
    · have := chL_len l 0
      constructor
      · exact this.2
      · show (chL 0 l).2.length ≤ _
        omega
theorem few_alts {l : List (List Cell)} (h : fewB l = true) : ∀ x ∈ l, ∀ c ∈ x, c.alts.length ≤ 1000000 := by
  intro x hx c hc
  unfold fewB at h
  simp only [Bool.and_eq_true, List.all_eq_true, fewR] at h
  have := (h.2 x hx).2 c hc
  unfold fewC at this
  simp only [Bool.and_eq_true, decide_eq_true_eq] at this
  omega
end Go.Ab
