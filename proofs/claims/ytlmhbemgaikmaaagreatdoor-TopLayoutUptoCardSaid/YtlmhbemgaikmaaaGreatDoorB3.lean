
import Derived.Test.YtlmhbemgaikmaaaGreatDoorGr14
set_option linter.unusedVariables false
set_option linter.unusedSimpArgs false
set_option linter.unusedSectionVars false
set_option linter.deprecated false
namespace Go.Ab
open Go.Proofs
set_option maxRecDepth 100000
set_option maxHeartbeats 4000000
def turnL (O L : List Int) (k : Int) : List Int := rowF L.length (fun i => nth O (revF (geL L k) L.length i))
def tuT (O L : List Int) (k : Int) (i : Nat) : Nat → Int := fun j => if j < i then nth O (revF (geL L k) L.length j) else nth O j
def ordS (L : List Int) : List Int × Int := if 4096 < L.length then ([], 2) else if (L.all fun x => decide (0 ≤ x ∧ x ≤ 2)) = true then (rowF L.length (fun i => (ordF L i : Int)), 0) else ([], 100)
def iotaL (i : Nat) : List Int := (List.range i).map fun (j : Nat) => (j : Int)
theorem iotaL_succ (i : Nat) : iotaL (i + 1) = iotaL i ++ [(i : Int)] := by unfold iotaL; rw [List.range_succ, List.map_append]; rfl
theorem iotaL_len (i : Nat) : (iotaL i).length = i := by simp [iotaL]
theorem iotaL_nth {n i : Nat} (h : i < n) : nth (iotaL n) i = i := by rw [nth_eq (by simpa [iotaL] using h)]; simp [iotaL]
theorem lev_bad {L : List Int} {i : Nat} (hi : i < L.length) (h : ¬ (0 ≤ nth L i ∧ nth L i ≤ 2)) (hl : ¬ 4096 < L.length) : ordS L = ([], 100) := by
 unfold ordS
 rw [if_neg hl, if_neg]
 intro ha
 exact h (of_decide_eq_true (List.all_eq_true.1 ha _ (nth_mem hi)))
theorem lev_good {L : List Int} (h : ∀ i, i < L.length → 0 ≤ nth L i ∧ nth L i ≤ 2) (hl : ¬ 4096 < L.length) : ordS L = (rowF L.length (fun i => (ordF L i : Int)), 0) := by
 unfold ordS
 rw [if_neg hl, if_pos]
 rw [List.all_eq_true]
 intro x hx
 obtain ⟨i, hi, rfl⟩ := List.mem_iff_getElem.1 hx
 rw [← nth_eq hi]; exact decide_eq_true (h i hi)
end Go.Ab
