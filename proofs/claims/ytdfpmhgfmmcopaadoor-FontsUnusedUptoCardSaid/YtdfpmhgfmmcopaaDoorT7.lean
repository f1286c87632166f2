/- Layer 9 (text): Word; joining code points. -/
import Derived.Test.YtdfpmhgfmmcopaaDoorT3
import Derived.Test.YtdfpmhgfmmcopaaDoorT6
set_option linter.unusedVariables false
set_option linter.unusedSimpArgs false
set_option linter.unusedSectionVars false
set_option linter.deprecated false
namespace Go.Ab
open Go.Proofs
set_option maxRecDepth 100000
set_option maxHeartbeats 1000000
theorem wordS_no {s : List UInt8} (h : (runesG s).2 ≠ 0 ∨ s.length = 0 ∨ 64 < s.length) : wordS s = false := by
  unfold wordS
  by_cases h1 : 0 < s.length ∧ s.length ≤ 64
  · have h2 : (runesG s).2 ≠ 0 := by omega
    rw [(runesG_small (s := s) (by omega)).2 h2]; simp
  · simp [h1]
theorem wordS_yes {s : List UInt8} (h : (runesG s).2 = 0) (h1 : 0 < s.length ∧ s.length ≤ 64) : wordS s = (runesG s).1.all fun r => !spaceR r := by
  unfold wordS
  rw [(runesG_small (s := s) (by omega)).1 h]; simp [h1]
/-! ### The bytes of code points -/
theorem encR_len (r : Int) : 1 ≤ (encR r).length ∧ (encR r).length ≤ 4 := by
  unfold encR; split <;> (try split) <;> (try split) <;> simp
@[simp] theorem encR_ne (r : Int) : ¬ encR r = [] := by
  intro h; have := encR_len r; rw [h] at this; simp at this
def encAll (l : List Int) : List UInt8 := l.flatMap encR
@[simp] theorem encAll_nil : encAll [] = [] := rfl
@[simp] theorem encAll_cons (r : Int) (l : List Int) : encAll (r :: l) = encR r ++ encAll l := rfl
@[simp] theorem encAll_append (a b : List Int) : encAll (a ++ b) = encAll a ++ encAll b := by simp [encAll]
theorem encAll_take {l : List Int} {i : Nat} (h : i < l.length) : encAll (l.take (i + 1)) = encAll (l.take i) ++ encR (nth l i) := by
  rw [nth_take h]; simp
theorem encAll_len (l : List Int) : l.length ≤ (encAll l).length ∧ (encAll l).length ≤ 4 * l.length := by
  induction l with
  | nil => simp
  | cons r l ih => have := encR_len r; simp; omega
theorem encAll_take_le (l : List Int) (i : Nat) : (encAll (l.take i)).length ≤ (encAll l).length := by
  have h := congrArg List.length (congrArg encAll (List.take_append_drop i l))
  rw [encAll_append, List.length_append] at h; omega
def joinG (l : List Int) : List UInt8 × Int := if l.all point then (if 4096 < (encAll l).length then ([], 2) else (encAll l, 0)) else ([], 90)
theorem wrapu32 {n : Int} (h : 0 ≤ n ∧ n ≤ 4294967295) : IntKind.u32.wrap n = n := IntWalk.u32_in n h
attribute [simp] wrapu32
theorem C53 (x : Int) : Kc cfg 53 [.int .i32 x] (.ret (.bool (decide (0 ≤ x ∧ x < 55296 ∨ 57343 < x ∧ x ≤ 1114111)))) := by
  refine outS_of_wp cfg (fn := Tryd.f53) Tryd.func53 rfl (by simp [Tryd.f53]) ?_
  simp (disch := first | assumption | omega | (simp; done) | (simp; omega)) [-getElem?_pos, List.getElem?_cons_zero, List.getElem?_cons_succ, Tryd.f53]
  repeat' (first | (refine wpc_split _ (fun hc => ?_) (fun hc => ?_) <;> (try simp at hc)) | (refine ww_split _ (fun hc => ?_) (fun hc => ?_) <;> (try simp at hc)) | (refine wp_drawF (by kernel_rfl) ?_) | (refine wk_yldW _ ?_) | (refine owe ?_ (fun ho => ?_)) | (simp (disch := first | assumption | omega | (simp; done) | (simp; omega)) [-getElem?_pos, List.getElem?_cons_zero, List.getElem?_cons_succ]))
  all_goals grind
@[simp] theorem S53 (x : Int) (hh : Heap) : Ci cfg (.func (.func 53) [] []) [.int .i32 x] hh = some (.ret (.bool (decide (0 ≤ x ∧ x < 55296 ∨ 57343 < x ∧ x ≤ 1114111))), hh) :=
  Ci_K cfg rfl rfl (by simp) (by simp) (C53 x)
theorem C50 (x : Int) : Kc cfg 50 [.int .i64 x] (.ret (.bool (point x))) := by
  refine outS_of_wp cfg (fn := Tryd.f50) Tryd.func50 rfl (by simp [Tryd.f50]) ?_
  simp (disch := first | assumption | omega | (simp; done) | (simp; omega)) [-getElem?_pos, List.getElem?_cons_zero, List.getElem?_cons_succ, Tryd.f50]
  repeat' (first | (refine wpc_split _ (fun hc => ?_) (fun hc => ?_) <;> (try simp at hc)) | (refine ww_split _ (fun hc => ?_) (fun hc => ?_) <;> (try simp at hc)) | (refine wp_drawF (by kernel_rfl) ?_) | (refine wk_yldW _ ?_) | (refine owe ?_ (fun ho => ?_)) | (simp (disch := first | assumption | omega | (simp; done) | (simp; omega)) [-getElem?_pos, List.getElem?_cons_zero, List.getElem?_cons_succ]))
  all_goals grind [point]
@[simp] theorem S50 (x : Int) (hh : Heap) : Ci cfg (.func (.func 50) [] []) [.int .i64 x] hh = some (.ret (.bool (point x)), hh) :=
  Ci_K cfg rfl rfl (by simp) (by simp) (C50 x)
end Go.Ab
