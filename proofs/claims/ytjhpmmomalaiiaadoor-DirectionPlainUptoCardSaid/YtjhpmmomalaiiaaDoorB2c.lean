/- Layer 10 (direction): the program's Levels. -/
import Derived.Test.YtjhpmmomalaiiaaDoorB2a
import Derived.Test.YtjhpmmomalaiiaaDoorB2b
set_option linter.unusedVariables false
set_option linter.unusedSimpArgs false
set_option linter.unusedSectionVars false
set_option linter.deprecated false
namespace Go.Ab
open Go.Proofs
set_option maxRecDepth 100000
theorem C11 (l : List Int) (right : Bool) (hs : l.length < 1099511627776) : Kc cfg 11 [R fl0 eI l, .bool right] (.ret (.tuple [R fl0 eI (levS l right).1, .int .i64 (levS l right).2])) := by
  cases right with
  | true => exact Lev_true l hs
  | false => exact Lev_false l hs
@[simp] theorem S11 (l : List Int) (right : Bool) (hs : l.length < 1099511627776) (q1 : Fl) (hh : Heap) : Ci cfg (.func (.func 11) [] []) [R  q1 eI l, .bool right] hh = some (.ret (.tuple [R fl0 eI (levS l right).1, .int .i64 (levS l right).2]), hh) :=
  Ci_K cfg rfl rfl (by simp) (by simp) (C11 l right hs)
end Go.Ab
