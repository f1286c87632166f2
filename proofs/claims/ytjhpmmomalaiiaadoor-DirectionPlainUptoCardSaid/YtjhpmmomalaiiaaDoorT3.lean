import Derived.Test.YtjhpmmomalaiiaaDoorT2
set_option linter.unusedVariables false
set_option linter.unusedSimpArgs false
set_option linter.unusedSectionVars false
set_option linter.deprecated false
namespace Go.Ab
open Go.Proofs
set_option maxRecDepth 10000
set_option maxHeartbeats 1000000
def wordS (s : List UInt8) : Bool := decide (0 < s.length ∧ s.length ≤ 64) && match runes s with
  | some l => l.all fun r => !spaceR r
  | none => false
theorem runesG_small {s : List UInt8} (h : s.length ≤ 4096) : ((runesG s).2 = 0 → runes s = some (runesG s).1) ∧ ((runesG s).2 ≠ 0 → runes s = none) := by
  unfold runesG
  rw [if_neg (by omega)]
  cases runes s <;> simp
theorem all_take_next {α : Type} [Inhabited α] {l : List α} {i : Nat} {p : α → Bool} (hi : i < l.length) (h : (l.take i).all p = true) (h2 : p (nth l i) = true) : (l.take (i + 1)).all p = true := by
  rw [nth_take hi, List.all_append, h]; simp [h2]
theorem all_nth_false {α : Type} [Inhabited α] {l : List α} {i : Nat} {p : α → Bool} (hi : i < l.length) (h2 : p (nth l i) = false) : l.all p = false := by
  cases h : l.all p with
  | false => rfl
  | true => rw [List.all_eq_true] at h; rw [h _ (nth_mem hi)] at h2; cases h2
end Go.Ab
