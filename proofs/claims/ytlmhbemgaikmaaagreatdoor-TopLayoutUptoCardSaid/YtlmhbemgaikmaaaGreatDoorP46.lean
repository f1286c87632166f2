
import Derived.Test.YtlmhbemgaikmaaaGreatDoorU
import Derived.Test.YtlmhbemgaikmaaaGreatDoorGr5
set_option linter.unusedVariables false
set_option linter.unusedSimpArgs false
set_option linter.unusedSectionVars false
set_option linter.deprecated false
namespace Go.Ab
open Go.Proofs
set_option maxRecDepth 100000
structure RectZ where
 x : Int
 y : Int
 w : Int
 h : Int
 deriving Inhabited, DecidableEq
structure ScrZ where
 w : Int
 h : Int
 bl : List RectZ
 deriving Inhabited
def eQ (r : RectZ) : List V := [.int .i64 r.x, .int .i64 r.y, .int .i64 r.w, .int .i64 r.h]
instance : EncC eQ 4 := ⟨fun _ => rfl, by decide, fun _ => rfl, fun _ => rfl, fun _ => rfl⟩
def pixB (n : Int) : Bool := decide (1 ≤ n ∧ n ≤ 16384)
@[simp] theorem pixB_t (x : Int) : pixB x = true ↔ 1 ≤ x ∧ x ≤ 16384 := by simp [pixB]
@[simp] theorem pixB_f (x : Int) : pixB x = false ↔ ¬ (1 ≤ x ∧ x ≤ 16384) := by simp only [pixB, decide_eq_false_iff_not]
def liesB (w h : Int) (r : RectZ) : Bool := decide (0 ≤ r.x ∧ 0 ≤ r.y ∧ 1 ≤ r.w ∧ r.w ≤ 16384 ∧ 1 ≤ r.h ∧ r.h ≤ 16384 ∧ r.x ≤ w - r.w ∧ r.y ≤ h - r.h)
theorem liesB_t {w h : Int} {r : RectZ} : liesB w h r = true ↔ (0 ≤ r.x ∧ 0 ≤ r.y ∧ 1 ≤ r.w ∧ r.w ≤ 16384 ∧ 1 ≤ r.h ∧ r.h ≤ 16384 ∧ r.x ≤ w - r.w ∧ r.y ≤ h - r.h) := by simp [liesB]
theorem liesB_f {w h : Int} {r : RectZ} : liesB w h r = false ↔ ¬ (0 ≤ r.x ∧ 0 ≤ r.y ∧ 1 ≤ r.w ∧ r.w ≤ 16384 ∧ 1 ≤ r.h ∧ r.h ≤ 16384 ∧ r.x ≤ w - r.w ∧ r.y ≤ h - r.h) := by
 simp only [liesB, decide_eq_false_iff_not]
def scrE (s : ScrZ) : Int := if 32 < s.bl.length then 2 else if pixB s.w && pixB s.h && s.bl.all (liesB s.w s.h) then 0 else 460
theorem scrE_many {s : ScrZ} (h : 32 < s.bl.length) : scrE s = 2 := by simp [scrE, h]
theorem scrE_size {s : ScrZ} (h : ¬ 32 < s.bl.length) (k : ¬ (pixB s.w = true ∧ pixB s.h = true)) : scrE s = 460 := by
 unfold scrE
 rw [if_neg h]
 cases h1 : pixB s.w <;> cases h2 : pixB s.h <;> simp_all
theorem scrE_bad {s : ScrZ} (h : ¬ 32 < s.bl.length) {i : Nat} (hi : i < s.bl.length) (k : liesB s.w s.h (nth s.bl i) = false) : scrE s = 460 := by
 unfold scrE
 rw [if_neg h]
 have : s.bl.all (liesB s.w s.h) = false := by
  rw [List.all_eq_false]
  exact ⟨_, nth_mem hi, by simp [k]⟩
 rw [this]; simp
theorem scrE_ok {s : ScrZ} (h : ¬ 32 < s.bl.length) (h1 : pixB s.w = true) (h2 : pixB s.h = true) (k : ∀ j, j < s.bl.length → liesB s.w s.h (nth s.bl j) = true) : scrE s = 0 := by
 unfold scrE
 rw [if_neg h]
 have : s.bl.all (liesB s.w s.h) = true := by
  rw [List.all_eq_true]
  intro x hx
  obtain ⟨j, hj, rfl⟩ := List.getElem_of_mem hx
  have := k j hj
  rwa [nth_eq hj] at this
 rw [h1, h2, this]; simp
end Go.Ab
