/- How plain arguments are read. -/
import Derived.Test.YtjhpmmomalaiiaaDoorSB
set_option linter.unusedVariables false
set_option linter.unusedSimpArgs false
set_option linter.unusedSectionVars false
set_option linter.deprecated false
namespace Go.Ab
open Go.Proofs Go.Proofs.YtjhpmmomalaiiaaDoor
set_option maxRecDepth 100000
theorem rd_string : Reads Tryd.prog 9 (fun _ : List UInt8 => True) (fun s => [.str s]) (fun s => s.length) := reads_string Tryd.underlying9 (by kernel_rfl)
theorem rd_int : Reads Tryd.prog 3 (fun n : Int => (Lit.int .i64 n).wf = true) (fun n => [.int .i64 n]) (fun _ => 0) := reads_int Tryd.underlying3 (by kernel_rfl)
theorem rd_ints : Reads Tryd.prog 22 (fun l : List Int => ∀ y ∈ l, (Lit.int .i64 y).wf = true) (fun l => [R fl0 eI l]) (fun l => (l.map fun _ => 0 + 1).sum) := reads_slice Tryd.underlying22 (by kernel_rfl) (by rw [show Tryd.prog.cellsOf 3 = 1 by kernel_rfl]; decide) rd_int
theorem rd_u8 : Reads Tryd.prog 5 (fun n : Int => (Lit.int .u8 n).wf = true) (fun n => [.int .u8 n]) (fun _ => 0) := reads_int Tryd.underlying5 (by kernel_rfl)
theorem rd_u8s : Reads Tryd.prog 71 (fun l : List Int => ∀ y ∈ l, (Lit.int .u8 y).wf = true) (fun l => [R fl0 eU l]) (fun l => (l.map fun _ => 0 + 1).sum) := reads_slice Tryd.underlying71 (by kernel_rfl) (by rw [show Tryd.prog.cellsOf 5 = 1 by kernel_rfl]; decide) rd_u8
theorem sum_one {α : Type} (l : List α) : (l.map fun _ => 1).sum = l.length := by
  induction l with
  | nil => rfl
  | cons x l ih => simp only [List.map_cons, List.sum_cons, ih, List.length_cons]; omega
theorem sum_mem {α : Type} {f : α → Nat} {l : List α} {x : α} (h : x ∈ l) : f x ≤ (l.map f).sum := by
  induction l with
  | nil => cases h
  | cons y l ih =>
    simp only [List.map_cons, List.sum_cons]
    rcases List.mem_cons.1 h with rfl | h
    · omega
    · have := ih h; omega
theorem sum_len {α : Type} {f : α → Nat} (l : List α) : l.length ≤ (l.map fun x => f x + 1).sum := by
  induction l with
  | nil => simp
  | cons y l ih => simp only [List.map_cons, List.sum_cons, List.length_cons]; omega
theorem u8_of {n : Int} (h : (Lit.int .u8 n).wf = true) : 0 ≤ n ∧ n ≤ 255 := by
  simp only [Lit.wf, Bool.and_eq_true, decide_eq_true_eq] at h
  have h1 : IntKind.u8.min = 0 := by decide
  have h2 : IntKind.u8.max = 255 := by decide
  omega
theorem i64_of {n : Int} (h : (Lit.int .i64 n).wf = true) : -9223372036854775808 ≤ n ∧ n ≤ 9223372036854775807 := by
  simp only [Lit.wf, Bool.and_eq_true, decide_eq_true_eq] at h
  have h1 : IntKind.i64.min = -9223372036854775808 := by decide
  have h2 : IntKind.i64.max = 9223372036854775807 := by decide
  omega
end Go.Ab
namespace Go.Proofs.YtjhpmmomalaiiaaDoor
open Go Go.Ab
theorem own : ownKnob Tryd.prog.godebug = none := by kernel_rfl
end Go.Proofs.YtjhpmmomalaiiaaDoor
