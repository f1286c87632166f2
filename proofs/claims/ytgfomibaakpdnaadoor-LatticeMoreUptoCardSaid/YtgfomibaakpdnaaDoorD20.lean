/- Layer 20 (lattice): what the laws use of the answers. -/
import Derived.Test.YtgfomibaakpdnaaDoorG9
import Derived.Test.YtgfomibaakpdnaaDoorS20
set_option linter.unusedVariables false
set_option linter.unusedSimpArgs false
set_option linter.unusedSectionVars false
set_option linter.deprecated false
namespace Go.Ab
open Go.Proofs
set_option maxRecDepth 100000
set_option maxHeartbeats 4000000
theorem best_len (n : Int) (l : List Edge) : (bestS n l).1.length ≤ 64 := by
  unfold bestS
  by_cases h : checkE n l = 0
  · rw [if_pos h]
    by_cases hd : DE n l 0 ≤ sumE l
    · rw [if_pos hd]
      have h1 := path_len (checkE_in h) (v := 0) (by exact_mod_cast (best_ok h hd).1)
      have h2 := (checkE_ok h).1
      show (pathE l (FE n l) n.toNat n.toNat 0).length ≤ 64
      omega
    · rw [if_neg hd]; simp
  · rw [if_neg h]; simp
theorem prove_len (n : Int) (l : List Edge) : (proveS n l).1.length ≤ 65 := by
  unfold proveS
  by_cases h : checkE n l = 0
  · rw [if_pos h]
    have h2 := (checkE_ok h).1
    by_cases hd : DE n l 0 ≤ sumE l
    · rw [if_pos hd]; simp; omega
    · rw [if_neg hd]; simp
  · rw [if_neg h]; simp
theorem best_yes {n : Int} {l : List Edge} (h : checkE n l = 0) (hd : DE n l 0 ≤ sumE l) : bestS n l = (pathE l (FE n l) n.toNat n.toNat 0, DE n l 0, true, 0) := by unfold bestS; rw [if_pos h, if_pos hd]
theorem best_no {n : Int} {l : List Edge} (h : checkE n l = 0) (hd : ¬ DE n l 0 ≤ sumE l) : bestS n l = ([], 0, false, 0) := by unfold bestS; rw [if_pos h, if_neg hd]
theorem costs_in {n : Int} {l : List Edge} (h : checkE n l = 0) : ∀ x ∈ l, 0 ≤ x.cost ∧ x.cost ≤ 1048576 := by
  intro x hx
  obtain ⟨i, hi, rfl⟩ := List.mem_iff_getElem.1 hx
  have := edgeOk_at ((checkE_ok h).2.2 i hi)
  rw [nth_eq hi] at this; omega
end Go.Ab
