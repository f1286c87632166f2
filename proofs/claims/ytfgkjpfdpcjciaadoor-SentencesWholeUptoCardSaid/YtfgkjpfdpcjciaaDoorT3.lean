import Derived.Test.YtfgkjpfdpcjciaaDoorT2
set_option linter.unusedVariables false
set_option linter.unusedSimpArgs false
set_option linter.unusedSectionVars false
set_option linter.deprecated false
namespace Go.Ab
open Go.Proofs
set_option maxRecDepth 10000
set_option maxHeartbeats 1000000
def wordS (s : List UInt8) : Bool := decide (0 < s.length ∧ s.length ≤ 64) && match runes s with
  | some l => l.all fun r => !spaceR r
  | none => false
theorem runesG_small {s : List UInt8} (h : s.length ≤ 4096) : ((runesG s).2 = 0 → runes s = some (runesG s).1) ∧ ((runesG s).2 ≠ 0 → runes s = none) := by
  unfold runesG
  rw [if_neg (by omega)]
  cases runes s <;> simp
theorem all_take_next {α : Type} [Inhabited α] {l : List α} {i : Nat} {p : α → Bool} (hi : i < l.length) (h : (l.take i).all p = true) (h2 : p (nth l i) = true) : (l.take (i + 1)).all p = true := by
  rw [nth_take hi, List.all_append, h]; simp [h2]
theorem all_nth_false {α : Type} [Inhabited α] {l : List α} {i : Nat} {p : α → Bool} (hi : i < l.length) (h2 : p (nth l i) = false) : l.all p = false := by
  cases h : l.all p with
  | false => rfl
  | true => rw [List.all_eq_true] at h; rw [h _ (nth_mem hi)] at h2; cases h2
theorem C51 (s : List UInt8) (hs : s.length < 1099511627776) : Kc cfg 51 [.str s] (.ret (.bool (wordS s))) := by
  refine outS_of_wp cfg (fn := Tryd.f51) Tryd.func51 rfl (by simp [Tryd.f51]) ?_
  simp (disch := first | assumption | omega | (simp; done) | (simp; omega)) [-getElem?_pos, List.getElem?_cons_zero, List.getElem?_cons_succ, Tryd.f51]
  repeat' (first | (refine wpc_split _ (fun hc => ?_) (fun hc => ?_) <;> (try simp at hc)) | (refine ww_split _ (fun hc => ?_) (fun hc => ?_) <;> (try simp at hc)) | (refine wp_drawF (by kernel_rfl) ?_) | (refine wk_yldW _ ?_) | (refine layOwe _ (by kernel_rfl) ?_) | (refine owe ?_ (fun ho => ?_)) | (simp (disch := first | assumption | omega | (simp; done) | (simp; omega)) [-getElem?_pos, List.getElem?_cons_zero, List.getElem?_cons_succ]))
  · simp [wordS]; omega
  · simp [wordS, (runesG_small (s := s) (by omega)).2 hc]
  · have hr := (runesG_small (s := s) (by omega)).1 hc
    have hn := runes_len _ _ _ (Nat.le_refl _) hr
    generalize (runesG s).1 = l at hr hn
    have hw : wordS s = l.all fun r => !spaceR r := by simp [wordS, hr]; omega
    rw [hw]
    refine wp_loop cfg rfl (fun m f h => ∃ i : Nat, f 3 = R fl0 eI l ∧ f 5 = .int .i64 i ∧ i + m = l.length ∧ (l.take i).all (fun r => !spaceR r) = true) ?_ l.length _ _ ⟨0, by simp, by simp, by simp, by simp⟩
    rintro m f h ⟨i, h3, h5, hm, ht⟩ ih
    repeat' (first | (refine wpc_split _ (fun hc => ?_) (fun hc => ?_) <;> (try simp at hc)) | (refine ww_split _ (fun hc => ?_) (fun hc => ?_) <;> (try simp at hc)) | (refine wp_drawF (by kernel_rfl) ?_) | (refine wk_yldW _ ?_) | (refine layOwe _ (by kernel_rfl) ?_) | (refine owe ?_ (fun ho => ?_)) | (simp (disch := first | assumption | omega | (simp; done) | (simp; omega)) [h3, h5, eI, -getElem?_pos, List.getElem?_cons_zero, List.getElem?_cons_succ]))
    · exact ⟨_, nth_mem (by omega : i < l.length), hc⟩
    · refine ih (m - 1) _ _ (by omega) ⟨i + 1, by simp [h3], by simp, by omega, all_take_next (p := fun r => !spaceR r) (by omega : i < l.length) ht (by simp [hc])⟩
    · have : i = l.length := by omega
      subst this
      rw [List.take_length] at ht
      simpa using ht
  · simp [wordS]; omega
@[simp] theorem S51 (s : List UInt8) (hs : s.length < 1099511627776) (hh : Heap) : Ci cfg (.func (.func 51) [] []) [.str s] hh = some (.ret (.bool (wordS s)), hh) :=
  Ci_K cfg rfl rfl (by simp) (by simp) (C51 s hs)
end Go.Ab
