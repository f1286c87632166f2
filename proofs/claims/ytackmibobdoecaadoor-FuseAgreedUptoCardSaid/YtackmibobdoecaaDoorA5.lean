/- Layer 21 (align): the specification's smaller functions. -/
import Derived.Test.YtackmibobdoecaaDoorA1
import Derived.Test.YtackmibobdoecaaDoorP21b
set_option linter.unusedVariables false
set_option linter.unusedSimpArgs false
set_option linter.unusedSectionVars false
set_option linter.deprecated false
namespace Go.Ab
open Go.Proofs
set_option maxRecDepth 100000
set_option maxHeartbeats 4000000
def fewL (l : List (List UInt8)) : Bool := allTo (min l.length 30) (fun i => decide ((nth l i).length ≤ 200)) && decide (l.length ≤ 20 ∨ 64 < l.length ∧ l.length ≤ 80)
def fewP (st : List Int) (p : List (List Int)) : Bool := allTo (min p.length 100) (fun i => decide ((nth p i).length ≤ 100)) && decide (st.length ≤ 150 ∧ p.length ≤ 100)
/-- what steps cost, and whether they lead to the end -/
def costF (a b : List (List UInt8)) : List Int → Nat → Nat → Int → Int × Bool
  | [], i, k, c => (c, decide (i = a.length ∧ k = b.length))
  | s :: r, i, k, c => if stO a b i k s = true then costF a b r (stI i s).toNat (stK k s).toNat (c + stC s) else (0, false)
theorem st_bound {a b : List (List UInt8)} {i k : Nat} {s : Int} (h : stO a b i k s = true) (hi : i ≤ a.length) (hk : k ≤ b.length) : ∃ i' k' : Nat, stI i s = i' ∧ stK k s = k' ∧ i' ≤ a.length ∧ k' ≤ b.length ∧ 0 ≤ stC s ∧ stC s ≤ 1 := by
  unfold stO at h
  by_cases s1 : s = 1
  · subst s1; simp at h; exact ⟨i + 1, k + 1, by simp [stI], by simp [stK], by omega, by omega, by simp [stC], by simp [stC]⟩
  by_cases s2 : s = 2
  · subst s2; simp at h; exact ⟨i + 1, k + 1, by simp [stI], by simp [stK], by omega, by omega, by simp [stC], by simp [stC]⟩
  by_cases s3 : s = 3
  · subst s3; simp at h; exact ⟨i + 1, k, by simp [stI], by simp [stK], by omega, by omega, by simp [stC], by simp [stC]⟩
  by_cases s4 : s = 4
  · subst s4; simp at h; exact ⟨i, k + 1, by simp [stI], by simp [stK], by omega, by omega, by simp [stC], by simp [stC]⟩
  · simp [s1, s2, s3, s4] at h
end Go.Ab
