/- Layer 9 (text): Word; joining code points. -/
import Derived.Test.YtfgkjpfdpcjciaaDoorT3
import Derived.Test.YtfgkjpfdpcjciaaDoorT6
set_option linter.unusedVariables false
set_option linter.unusedSimpArgs false
set_option linter.unusedSectionVars false
set_option linter.deprecated false
namespace Go.Ab
open Go.Proofs
set_option maxRecDepth 100000
set_option maxHeartbeats 1000000
theorem wordS_no {s : List UInt8} (h : (runesG s).2 ≠ 0 ∨ s.length = 0 ∨ 64 < s.length) : wordS s = false := by
  unfold wordS
  by_cases h1 : 0 < s.length ∧ s.length ≤ 64
  · have h2 : (runesG s).2 ≠ 0 := by omega
    rw [(runesG_small (s := s) (by omega)).2 h2]; simp
  · simp [h1]
theorem wordS_yes {s : List UInt8} (h : (runesG s).2 = 0) (h1 : 0 < s.length ∧ s.length ≤ 64) : wordS s = (runesG s).1.all fun r => !spaceR r := by
  unfold wordS
  rw [(runesG_small (s := s) (by omega)).1 h]; simp [h1]
theorem C55 (s : List UInt8) (hs : s.length < 1099511627776) : Kc cfg 55 [.str s] (.ret (.bool (wordS s))) := by
  refine outS_of_wp cfg (fn := Tryd.f55) Tryd.func55 rfl (by simp [Tryd.f55]) ?_
  simp (disch := first | assumption | omega | (simp; done) | (simp; omega)) [-getElem?_pos, List.getElem?_cons_zero, List.getElem?_cons_succ, Tryd.f55]
  repeat' (first | (refine wpc_split _ (fun hc => ?_) (fun hc => ?_) <;> (try simp at hc)) | (refine ww_split _ (fun hc => ?_) (fun hc => ?_) <;> (try simp at hc)) | (refine wp_drawF (by kernel_rfl) ?_) | (refine wk_yldW _ ?_) | (refine layOwe _ (by kernel_rfl) ?_) | (refine owe ?_ (fun ho => ?_)) | (simp (disch := first | assumption | omega | (simp; done) | (simp; omega)) [Tryd.f66, Tryd.f76, Tryd.f65, Tryd.f74, -getElem?_pos, List.getElem?_cons_zero, List.getElem?_cons_succ]))
  · have hw := wordS_yes (s := s) (by omega) (by omega)
    have hn := runes_len _ _ _ (Nat.le_refl _) ((runesG_small (s := s) (by omega)).1 (by assumption))
    generalize hg : (runesG s).1 = l at *
    refine wp_loopE cfg rfl (fun f0 h0 m fr h => ∃ i : Nat, fr 0 = f0 0 ∧ fr 1 = f0 1 ∧ fr 7 = f0 7 ∧ fr 8 = .int .i64 i ∧ (i + m = l.length) ∧ ((l.take i).all (fun r => !spaceR r) = true)) (l.length) _ _ ⟨0, rfl, rfl, rfl, by first | rfl | (simp; done) | (simp [R]; done) | simp [R], by first | rfl | (simp; done) | omega, by first | rfl | (simp; done) | omega⟩ ?_
    rintro Am Af Ah ⟨i, A0, A1, A7, A8, hm, ht⟩ Aih
    try simp at A0 A1 A7
    repeat' (first | (refine wpc_split _ (fun hc => ?_) (fun hc => ?_) <;> (try simp at hc)) | (refine ww_split _ (fun hc => ?_) (fun hc => ?_) <;> (try simp at hc)) | (refine wp_drawF (by kernel_rfl) ?_) | (refine wk_yldW _ ?_) | (refine layOwe _ (by kernel_rfl) ?_) | (refine owe ?_ (fun ho => ?_)) | (simp (disch := first | assumption | omega | (simp; done) | (simp; omega)) [A0, A1, A7, A8, eI, Tryd.f75, -getElem?_pos, List.getElem?_cons_zero, List.getElem?_cons_succ]))
    all_goals first
      | exact Aih (Am - 1) _ _ (by omega) ⟨i + 1, by simp [A0, A1, A7, A8], by simp [A0, A1, A7, A8], by simp [A0, A1, A7, A8], by simp [A0, A1, A7, A8], by omega, all_take_next (p := fun r => !spaceR r) (by omega : i < l.length) ht (by simp [spaceR]; omega)⟩
      | (rw [hw]; exact all_nth_false (p := fun r => !spaceR r) (by omega : i < l.length) (by simp [spaceR]; omega))
      | (rw [hw]; rw [List.take_of_length_le (by omega)] at ht; exact ht)
  all_goals first
    | exact wordS_no (by omega)
    | (subst hc; exact wordS_no (by simp))
@[simp] theorem S55 (s : List UInt8) (hs : s.length < 1099511627776) (hh : Heap) : Ci cfg (.func (.func 55) [] []) [.str s] hh = some (.ret (.bool (wordS s)), hh) :=
  Ci_K cfg rfl rfl (by simp) (by simp) (C55 s hs)
/-! ### The bytes of code points -/
theorem encR_len (r : Int) : 1 ≤ (encR r).length ∧ (encR r).length ≤ 4 := by
  unfold encR; split <;> (try split) <;> (try split) <;> simp
@[simp] theorem encR_ne (r : Int) : ¬ encR r = [] := by
  intro h; have := encR_len r; rw [h] at this; simp at this
def encAll (l : List Int) : List UInt8 := l.flatMap encR
@[simp] theorem encAll_nil : encAll [] = [] := rfl
@[simp] theorem encAll_cons (r : Int) (l : List Int) : encAll (r :: l) = encR r ++ encAll l := rfl
@[simp] theorem encAll_append (a b : List Int) : encAll (a ++ b) = encAll a ++ encAll b := by simp [encAll]
theorem encAll_take {l : List Int} {i : Nat} (h : i < l.length) : encAll (l.take (i + 1)) = encAll (l.take i) ++ encR (nth l i) := by
  rw [nth_take h]; simp
theorem encAll_len (l : List Int) : l.length ≤ (encAll l).length ∧ (encAll l).length ≤ 4 * l.length := by
  induction l with
  | nil => simp
  | cons r l ih => have := encR_len r; simp; omega
theorem encAll_take_le (l : List Int) (i : Nat) : (encAll (l.take i)).length ≤ (encAll l).length := by
  have h := congrArg List.length (congrArg encAll (List.take_append_drop i l))
  rw [encAll_append, List.length_append] at h; omega
def joinG (l : List Int) : List UInt8 × Int := if l.all point then (if 4096 < (encAll l).length then ([], 2) else (encAll l, 0)) else ([], 90)
theorem wrapu32 {n : Int} (h : 0 ≤ n ∧ n ≤ 4294967295) : IntKind.u32.wrap n = n := IntWalk.u32_in n h
attribute [simp] wrapu32
theorem C58 (x : Int) : Kc cfg 58 [.int .i32 x] (.ret (.bool (decide (0 ≤ x ∧ x < 55296 ∨ 57343 < x ∧ x ≤ 1114111)))) := by
  refine outS_of_wp cfg (fn := Tryd.f58) Tryd.func58 rfl (by simp [Tryd.f58]) ?_
  simp (disch := first | assumption | omega | (simp; done) | (simp; omega)) [-getElem?_pos, List.getElem?_cons_zero, List.getElem?_cons_succ, Tryd.f58]
  repeat' (first | (refine wpc_split _ (fun hc => ?_) (fun hc => ?_) <;> (try simp at hc)) | (refine ww_split _ (fun hc => ?_) (fun hc => ?_) <;> (try simp at hc)) | (refine wp_drawF (by kernel_rfl) ?_) | (refine wk_yldW _ ?_) | (refine layOwe _ (by kernel_rfl) ?_) | (refine owe ?_ (fun ho => ?_)) | (simp (disch := first | assumption | omega | (simp; done) | (simp; omega)) [-getElem?_pos, List.getElem?_cons_zero, List.getElem?_cons_succ]))
  all_goals grind
@[simp] theorem S58 (x : Int) (hh : Heap) : Ci cfg (.func (.func 58) [] []) [.int .i32 x] hh = some (.ret (.bool (decide (0 ≤ x ∧ x < 55296 ∨ 57343 < x ∧ x ≤ 1114111))), hh) :=
  Ci_K cfg rfl rfl (by simp) (by simp) (C58 x)
end Go.Ab
