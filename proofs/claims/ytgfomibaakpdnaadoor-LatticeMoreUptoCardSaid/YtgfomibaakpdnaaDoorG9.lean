/- Layer 20 (lattice): the laws' own functions. -/
import Derived.Test.YtgfomibaakpdnaaDoorG4
import Derived.Test.YtgfomibaakpdnaaDoorG6
import Derived.Test.YtgfomibaakpdnaaDoorG8
set_option linter.unusedVariables false
set_option linter.unusedSimpArgs false
set_option linter.unusedSectionVars false
set_option linter.deprecated false
namespace Go.Ab
open Go.Proofs
set_option maxRecDepth 100000
set_option maxHeartbeats 4000000
theorem C15 (a b : List Int) (hs : a.length < 1099511627776) : Kc cfg 15 [R fl0 eI a, R fl0 eI b] (.ret (.bool (decide (a = b)))) := by
  generalize hF : decide (a = b) = F
  by_cases hlen : a.length = b.length
  · skip
    refine outS_of_wp cfg (fn := Tryd.f15) Tryd.func15 rfl (by simp [Tryd.f15]) ?_
    simp (disch := first | assumption | omega | (simp; done) | (simp; omega)) [-getElem?_pos, List.getElem?_cons_zero, List.getElem?_cons_succ, Tryd.f15]
    repeat' (first | (refine wpc_split _ (fun hc => ?_) (fun hc => ?_) <;> (try simp at hc)) | (refine ww_split _ (fun hc => ?_) (fun hc => ?_) <;> (try simp at hc)) | (refine wp_drawF (by kernel_rfl) ?_) | (refine wk_yldW _ ?_) | (refine layOwe _ (by kernel_rfl) ?_) | (refine owe ?_ (fun ho => ?_)) | (simp (disch := first | assumption | omega | (simp; done) | (simp; omega)) [-getElem?_pos, List.getElem?_cons_zero, List.getElem?_cons_succ]))
    refine wp_loopE cfg rfl (fun f0 h0 m fr h => ∃ i : Nat, fr 0 = f0 0 ∧ fr 1 = f0 1 ∧ fr 5 = .int .i64 i ∧ (i + m = a.length) ∧ (∀ j, j < i → nth a j = nth b j)) (a.length) _ _ ⟨0, rfl, rfl, by first | rfl | (simp; done) | (simp [R]; done) | simp [R], by first | rfl | (simp; done) | omega, fun j hj => by omega⟩ ?_
    rintro Am Af Ah ⟨i, A0, A1, A5, hm, ht⟩ Aih
    try simp at A0 A1
    by_cases hi : i < a.length
    · by_cases hq : nth a i = nth b i
      · repeat' (first | (refine wpc_split _ (fun hc => ?_) (fun hc => ?_) <;> (try simp at hc)) | (refine ww_split _ (fun hc => ?_) (fun hc => ?_) <;> (try simp at hc)) | (refine wp_drawF (by kernel_rfl) ?_) | (refine wk_yldW _ ?_) | (refine layOwe _ (by kernel_rfl) ?_) | (refine owe ?_ (fun ho => ?_)) | (simp (disch := first | assumption | omega | (simp; done) | (simp; omega)) [A0, A1, A5, eI, -getElem?_pos, List.getElem?_cons_zero, List.getElem?_cons_succ]))
        all_goals first
          | (exfalso; omega)
          | exact Aih (Am - 1) _ _ (by omega) ⟨i + 1, by simp [A0, A1, A5], by simp [A0, A1, A5], by simp [A0, A1, A5], by omega, fun j hj => by (by_cases e : j = i; (subst e; exact hq); exact ht j (by omega))⟩
      · have h2 : F = false := by rw [← hF, decide_eq_false_iff_not]; intro e; rw [e] at hq; exact hq rfl
        repeat' (first | (refine wpc_split _ (fun hc => ?_) (fun hc => ?_) <;> (try simp at hc)) | (refine ww_split _ (fun hc => ?_) (fun hc => ?_) <;> (try simp at hc)) | (refine wp_drawF (by kernel_rfl) ?_) | (refine wk_yldW _ ?_) | (refine layOwe _ (by kernel_rfl) ?_) | (refine owe ?_ (fun ho => ?_)) | (simp (disch := first | assumption | omega | (simp; done) | (simp; omega)) [A0, A1, A5, eI, -getElem?_pos, List.getElem?_cons_zero, List.getElem?_cons_succ]))
        all_goals rw [h2]
    · have h2 : F = true := by rw [← hF, decide_eq_true_eq]; exact ext_nth hlen (fun j hj => ht j (by omega))
      repeat' (first | (refine wpc_split _ (fun hc => ?_) (fun hc => ?_) <;> (try simp at hc)) | (refine ww_split _ (fun hc => ?_) (fun hc => ?_) <;> (try simp at hc)) | (refine wp_drawF (by kernel_rfl) ?_) | (refine wk_yldW _ ?_) | (refine layOwe _ (by kernel_rfl) ?_) | (refine owe ?_ (fun ho => ?_)) | (simp (disch := first | assumption | omega | (simp; done) | (simp; omega)) [A0, A1, A5, -getElem?_pos, List.getElem?_cons_zero, List.getElem?_cons_succ]))
      rw [h2]
  · have h2 : F = false := by rw [← hF, decide_eq_false_iff_not]; intro e; rw [e] at hlen; exact hlen rfl
    refine outS_of_wp cfg (fn := Tryd.f15) Tryd.func15 rfl (by simp [Tryd.f15]) ?_
    simp (disch := first | assumption | omega | (simp; done) | (simp; omega)) [-getElem?_pos, List.getElem?_cons_zero, List.getElem?_cons_succ, Tryd.f15]
    repeat' (first | (refine wpc_split _ (fun hc => ?_) (fun hc => ?_) <;> (try simp at hc)) | (refine ww_split _ (fun hc => ?_) (fun hc => ?_) <;> (try simp at hc)) | (refine wp_drawF (by kernel_rfl) ?_) | (refine wk_yldW _ ?_) | (refine layOwe _ (by kernel_rfl) ?_) | (refine owe ?_ (fun ho => ?_)) | (simp (disch := first | assumption | omega | (simp; done) | (simp; omega)) [-getElem?_pos, List.getElem?_cons_zero, List.getElem?_cons_succ]))
    all_goals first
      | (exfalso; omega)
      | rw [h2]
@[simp] theorem S15 (a b : List Int) (hs : a.length < 1099511627776) (q1 q2 : Fl) (hh : Heap) : Ci cfg (.func (.func 15) [] []) [R  q1 eI a, R  q2 eI b] hh = some (.ret (.bool (decide (a = b))), hh) :=
  Ci_K cfg rfl rfl (by simp) (by simp) (C15 a b hs)
theorem C27 (x y : List Int) (hs : x.length < 1099511627776 ∧ y.length < 1099511627776) : Kc cfg 27 [R fl0 eI x, R fl0 eI y] (.ret (.bool (beforeL x y))) := by
  generalize hF : beforeL x y = F
  refine outS_of_wp cfg (fn := Tryd.f27) Tryd.func27 rfl (by simp [Tryd.f27]) ?_
  simp (disch := first | assumption | omega | (simp; done) | (simp; omega)) [-getElem?_pos, List.getElem?_cons_zero, List.getElem?_cons_succ, Tryd.f27]
  repeat' (first | (refine wpc_split _ (fun hc => ?_) (fun hc => ?_) <;> (try simp at hc)) | (refine ww_split _ (fun hc => ?_) (fun hc => ?_) <;> (try simp at hc)) | (refine wp_drawF (by kernel_rfl) ?_) | (refine wk_yldW _ ?_) | (refine layOwe _ (by kernel_rfl) ?_) | (refine owe ?_ (fun ho => ?_)) | (simp (disch := first | assumption | omega | (simp; done) | (simp; omega)) [-getElem?_pos, List.getElem?_cons_zero, List.getElem?_cons_succ]))
  refine wp_loopE cfg rfl (fun f0 h0 m fr h => ∃ i : Nat, fr 0 = f0 0 ∧ fr 1 = f0 1 ∧ fr 5 = .int .i64 i ∧ (i + m = min x.length y.length) ∧ (beforeL (x.drop i) (y.drop i) = F)) (min x.length y.length) _ _ ⟨0, rfl, rfl, by first | rfl | (simp; done) | (simp [R]; done) | simp [R], by first | rfl | (simp; done) | omega, hF⟩ ?_
  rintro Am Af Ah ⟨i, A0, A1, A5, hm, ht⟩ Aih
  try simp at A0 A1
  by_cases hi : i < min x.length y.length
  · rw [nth_drop (show i < x.length by omega), nth_drop (show i < y.length by omega)] at ht
    by_cases hq : nth x i = nth y i
    · have ht2 : beforeL (x.drop (i + 1)) (y.drop (i + 1)) = F := by rw [← ht]; simp [beforeL, hq]
      repeat' (first | (refine wpc_split _ (fun hc => ?_) (fun hc => ?_) <;> (try simp at hc)) | (refine ww_split _ (fun hc => ?_) (fun hc => ?_) <;> (try simp at hc)) | (refine wp_drawF (by kernel_rfl) ?_) | (refine wk_yldW _ ?_) | (refine layOwe _ (by kernel_rfl) ?_) | (refine owe ?_ (fun ho => ?_)) | (simp (disch := first | assumption | omega | (simp; done) | (simp; omega)) [A0, A1, A5, eI, -getElem?_pos, List.getElem?_cons_zero, List.getElem?_cons_succ]))
      all_goals first
        | (exfalso; omega)
        | exact Aih (Am - 1) _ _ (by omega) ⟨i + 1, by simp [A0, A1, A5], by simp [A0, A1, A5], by simp [A0, A1, A5], by omega, ht2⟩
    · have ht2 : F = decide (nth x i < nth y i) := by rw [← ht]; simp [beforeL, hq]
      repeat' (first | (refine wpc_split _ (fun hc => ?_) (fun hc => ?_) <;> (try simp at hc)) | (refine ww_split _ (fun hc => ?_) (fun hc => ?_) <;> (try simp at hc)) | (refine wp_drawF (by kernel_rfl) ?_) | (refine wk_yldW _ ?_) | (refine layOwe _ (by kernel_rfl) ?_) | (refine owe ?_ (fun ho => ?_)) | (simp (disch := first | assumption | omega | (simp; done) | (simp; omega)) [A0, A1, A5, eI, -getElem?_pos, List.getElem?_cons_zero, List.getElem?_cons_succ]))
      all_goals first
        | (exfalso; omega)
        | rw [ht2]
  · have ht2 : F = decide (x.length < y.length) := by
      rw [← ht]
      by_cases h1 : x.length ≤ i
      · rw [List.drop_of_length_le h1]
        by_cases h2 : y.length ≤ i
        · rw [List.drop_of_length_le h2]; symm; simp [beforeL]; omega
        · rw [nth_drop (show i < y.length by omega)]; symm; simp [beforeL]; omega
      · rw [nth_drop (show i < x.length by omega), List.drop_of_length_le (show y.length ≤ i by omega)]; symm; simp [beforeL]; omega
    repeat' (first | (refine wpc_split _ (fun hc => ?_) (fun hc => ?_) <;> (try simp at hc)) | (refine ww_split _ (fun hc => ?_) (fun hc => ?_) <;> (try simp at hc)) | (refine wp_drawF (by kernel_rfl) ?_) | (refine wk_yldW _ ?_) | (refine layOwe _ (by kernel_rfl) ?_) | (refine owe ?_ (fun ho => ?_)) | (simp (disch := first | assumption | omega | (simp; done) | (simp; omega)) [A0, A1, A5, -getElem?_pos, List.getElem?_cons_zero, List.getElem?_cons_succ]))
    all_goals first
      | (exfalso; omega)
      | (rw [ht2]; done)
      | (rw [ht2]; simp; done)
      | (rw [ht2]; simp; omega)
@[simp] theorem S27 (x y : List Int) (hs : x.length < 1099511627776 ∧ y.length < 1099511627776) (q1 q2 : Fl) (hh : Heap) : Ci cfg (.func (.func 27) [] []) [R  q1 eI x, R  q2 eI y] hh = some (.ret (.bool (beforeL x y)), hh) :=
  Ci_K cfg rfl rfl (by simp) (by simp) (C27 x y hs)
def fewE (l : List Edge) : Bool := !decide (30 < l.length ∧ l.length ≤ 256 ∨ 300 < l.length) && allTo l.length (fun i => decide ((nth l i).text.length ≤ 100))
theorem C10 (l : List Edge) (hs : l.length < 1099511627776) (ht : ∀ x ∈ l, x.text.length < 1099511627776) : Kc cfg 10 [R fl0 eE l] (.ret (.bool (fewE l))) := by
  have hsu := fun i => allTo_succ i (fun i => decide ((nth l i).text.length ≤ 100))
  generalize hF : fewE l = F
  by_cases hb : 30 < l.length ∧ l.length ≤ 256 ∨ 300 < l.length
  · have h2 : F = false := by rw [← hF]; unfold fewE; rw [decide_eq_true hb]; rfl
    refine outS_of_wp cfg (fn := Tryd.f10) Tryd.func10 rfl (by simp [Tryd.f10]) ?_
    simp (disch := first | assumption | omega | (simp; done) | (simp; omega)) [-getElem?_pos, List.getElem?_cons_zero, List.getElem?_cons_succ, Tryd.f10]
    repeat' (first | (refine wpc_split _ (fun hc => ?_) (fun hc => ?_) <;> (try simp at hc)) | (refine ww_split _ (fun hc => ?_) (fun hc => ?_) <;> (try simp at hc)) | (refine wp_drawF (by kernel_rfl) ?_) | (refine wk_yldW _ ?_) | (refine layOwe _ (by kernel_rfl) ?_) | (refine owe ?_ (fun ho => ?_)) | (simp (disch := first | assumption | omega | (simp; done) | (simp; omega)) [-getElem?_pos, List.getElem?_cons_zero, List.getElem?_cons_succ]))
    all_goals first
      | (exfalso; omega)
      | rw [h2]
  · skip
    refine outS_of_wp cfg (fn := Tryd.f10) Tryd.func10 rfl (by simp [Tryd.f10]) ?_
    simp (disch := first | assumption | omega | (simp; done) | (simp; omega)) [-getElem?_pos, List.getElem?_cons_zero, List.getElem?_cons_succ, Tryd.f10]
    repeat' (first | (refine wpc_split _ (fun hc => ?_) (fun hc => ?_) <;> (try simp at hc)) | (refine ww_split _ (fun hc => ?_) (fun hc => ?_) <;> (try simp at hc)) | (refine wp_drawF (by kernel_rfl) ?_) | (refine wk_yldW _ ?_) | (refine layOwe _ (by kernel_rfl) ?_) | (refine owe ?_ (fun ho => ?_)) | (simp (disch := first | assumption | omega | (simp; done) | (simp; omega)) [-getElem?_pos, List.getElem?_cons_zero, List.getElem?_cons_succ]))
    all_goals first
      | (exfalso; omega)
      | skip
    all_goals
      refine wp_loopE cfg rfl (fun f0 h0 m fr h => ∃ i : Nat, fr 0 = f0 0 ∧ fr 3 = .int .i64 i ∧ (i + m = l.length) ∧ (allTo i (fun i => decide ((nth l i).text.length ≤ 100)) = true)) (l.length) _ _ ⟨0, rfl, by first | rfl | (simp; done) | (simp [R]; done) | simp [R], by first | rfl | (simp; done) | omega, rfl⟩ ?_
      rintro Am Af Ah ⟨i, A0, A3, hm, htt⟩ Aih
      try simp at A0
      by_cases hi : i < l.length
      · have hx := ht _ (nth_mem hi)
        by_cases hq : (nth l i).text.length ≤ 100
        · repeat' (first | (refine wpc_split _ (fun hc => ?_) (fun hc => ?_) <;> (try simp at hc)) | (refine ww_split _ (fun hc => ?_) (fun hc => ?_) <;> (try simp at hc)) | (refine wp_drawF (by kernel_rfl) ?_) | (refine wk_yldW _ ?_) | (refine layOwe _ (by kernel_rfl) ?_) | (refine owe ?_ (fun ho => ?_)) | (simp (disch := first | assumption | omega | (simp; done) | (simp; omega)) [A0, A3, eE, -getElem?_pos, List.getElem?_cons_zero, List.getElem?_cons_succ]))
          all_goals first
            | (exfalso; omega)
            | exact Aih (Am - 1) _ _ (by omega) ⟨i + 1, by simp [A0, A3], by simp [A0, A3], by omega, (by rw [hsu, htt]; simpa using hq)⟩
        · have h2 : F = false := by rw [← hF]; unfold fewE; rw [allTo_false i hi (by simpa using hq), Bool.and_false]
          repeat' (first | (refine wpc_split _ (fun hc => ?_) (fun hc => ?_) <;> (try simp at hc)) | (refine ww_split _ (fun hc => ?_) (fun hc => ?_) <;> (try simp at hc)) | (refine wp_drawF (by kernel_rfl) ?_) | (refine wk_yldW _ ?_) | (refine layOwe _ (by kernel_rfl) ?_) | (refine owe ?_ (fun ho => ?_)) | (simp (disch := first | assumption | omega | (simp; done) | (simp; omega)) [A0, A3, eE, -getElem?_pos, List.getElem?_cons_zero, List.getElem?_cons_succ]))
          all_goals first
            | (exfalso; omega)
            | rw [h2]
      · have he : i = l.length := by omega
        have h2 : F = true := by rw [← hF]; unfold fewE; rw [decide_eq_false hb, ← he, htt]; rfl
        repeat' (first | (refine wpc_split _ (fun hc => ?_) (fun hc => ?_) <;> (try simp at hc)) | (refine ww_split _ (fun hc => ?_) (fun hc => ?_) <;> (try simp at hc)) | (refine wp_drawF (by kernel_rfl) ?_) | (refine wk_yldW _ ?_) | (refine layOwe _ (by kernel_rfl) ?_) | (refine owe ?_ (fun ho => ?_)) | (simp (disch := first | assumption | omega | (simp; done) | (simp; omega)) [A0, A3, -getElem?_pos, List.getElem?_cons_zero, List.getElem?_cons_succ]))
        rw [h2]
@[simp] theorem S10 (l : List Edge) (hs : l.length < 1099511627776) (ht : ∀ x ∈ l, x.text.length < 1099511627776) (q1 : Fl) (hh : Heap) : Ci cfg (.func (.func 10) [] []) [R  q1 eE l] hh = some (.ret (.bool (fewE l)), hh) :=
  Ci_K cfg rfl rfl (by simp) (by simp) (C10 l hs ht)
def fewW (l : List (List UInt8)) : Bool := allTo l.length (fun i => decide ((nth l i).length ≤ 100)) && decide (l.length ≤ 100)
theorem C16 (l : List (List UInt8)) (hs : l.length < 1099511627776) (ht : ∀ x ∈ l, x.length < 1099511627776) : Kc cfg 16 [R fl0 eS l] (.ret (.bool (fewW l))) := by
  have hsu := fun i => allTo_succ i (fun i => decide ((nth l i).length ≤ 100))
  generalize hF : fewW l = F
  refine outS_of_wp cfg (fn := Tryd.f16) Tryd.func16 rfl (by simp [Tryd.f16]) ?_
  simp (disch := first | assumption | omega | (simp; done) | (simp; omega)) [-getElem?_pos, List.getElem?_cons_zero, List.getElem?_cons_succ, Tryd.f16]
  repeat' (first | (refine wpc_split _ (fun hc => ?_) (fun hc => ?_) <;> (try simp at hc)) | (refine ww_split _ (fun hc => ?_) (fun hc => ?_) <;> (try simp at hc)) | (refine wp_drawF (by kernel_rfl) ?_) | (refine wk_yldW _ ?_) | (refine layOwe _ (by kernel_rfl) ?_) | (refine owe ?_ (fun ho => ?_)) | (simp (disch := first | assumption | omega | (simp; done) | (simp; omega)) [-getElem?_pos, List.getElem?_cons_zero, List.getElem?_cons_succ]))
  refine wp_loopE cfg rfl (fun f0 h0 m fr h => ∃ i : Nat, fr 0 = f0 0 ∧ fr 3 = .int .i64 i ∧ (i + m = l.length) ∧ (allTo i (fun i => decide ((nth l i).length ≤ 100)) = true)) (l.length) _ _ ⟨0, rfl, by first | rfl | (simp; done) | (simp [R]; done) | simp [R], by first | rfl | (simp; done) | omega, rfl⟩ ?_
  rintro Am Af Ah ⟨i, A0, A3, hm, htt⟩ Aih
  try simp at A0
  by_cases hi : i < l.length
  · have hx := ht _ (nth_mem hi)
    by_cases hq : (nth l i).length ≤ 100
    · repeat' (first | (refine wpc_split _ (fun hc => ?_) (fun hc => ?_) <;> (try simp at hc)) | (refine ww_split _ (fun hc => ?_) (fun hc => ?_) <;> (try simp at hc)) | (refine wp_drawF (by kernel_rfl) ?_) | (refine wk_yldW _ ?_) | (refine layOwe _ (by kernel_rfl) ?_) | (refine owe ?_ (fun ho => ?_)) | (simp (disch := first | assumption | omega | (simp; done) | (simp; omega)) [A0, A3, eS, -getElem?_pos, List.getElem?_cons_zero, List.getElem?_cons_succ]))
      all_goals first
        | (exfalso; omega)
        | exact Aih (Am - 1) _ _ (by omega) ⟨i + 1, by simp [A0, A3], by simp [A0, A3], by omega, (by rw [hsu, htt]; simpa using hq)⟩
    · have h2 : F = false := by rw [← hF]; unfold fewW; rw [allTo_false i hi (by simpa using hq), Bool.false_and]
      repeat' (first | (refine wpc_split _ (fun hc => ?_) (fun hc => ?_) <;> (try simp at hc)) | (refine ww_split _ (fun hc => ?_) (fun hc => ?_) <;> (try simp at hc)) | (refine wp_drawF (by kernel_rfl) ?_) | (refine wk_yldW _ ?_) | (refine layOwe _ (by kernel_rfl) ?_) | (refine owe ?_ (fun ho => ?_)) | (simp (disch := first | assumption | omega | (simp; done) | (simp; omega)) [A0, A3, eS, -getElem?_pos, List.getElem?_cons_zero, List.getElem?_cons_succ]))
      all_goals first
        | (exfalso; omega)
        | rw [h2]
  · have he : i = l.length := by omega
    have h2 : F = decide (l.length ≤ 100) := by rw [← hF]; unfold fewW; rw [← he, htt, Bool.true_and]
    repeat' (first | (refine wpc_split _ (fun hc => ?_) (fun hc => ?_) <;> (try simp at hc)) | (refine ww_split _ (fun hc => ?_) (fun hc => ?_) <;> (try simp at hc)) | (refine wp_drawF (by kernel_rfl) ?_) | (refine wk_yldW _ ?_) | (refine layOwe _ (by kernel_rfl) ?_) | (refine owe ?_ (fun ho => ?_)) | (simp (disch := first | assumption | omega | (simp; done) | (simp; omega)) [A0, A3, -getElem?_pos, List.getElem?_cons_zero, List.getElem?_cons_succ]))
    rw [h2]
    all_goals first | rfl | (rw [decide_eq_decide]; omega) | (simp; omega) | simp
@[simp] theorem S16 (l : List (List UInt8)) (hs : l.length < 1099511627776) (ht : ∀ x ∈ l, x.length < 1099511627776) (q1 : Fl) (hh : Heap) : Ci cfg (.func (.func 16) [] []) [R  q1 eS l] hh = some (.ret (.bool (fewW l)), hh) :=
  Ci_K cfg rfl rfl (by simp) (by simp) (C16 l hs ht)
def rightE (n : Int) (l : List Edge) : Bool := decide (l.length ≤ 30) && decide (checkE n l = 0)
theorem rightE_ok {n : Int} {l : List Edge} (h : rightE n l = true) : l.length ≤ 30 ∧ checkE n l = 0 := by simpa [rightE] using h
theorem C23 (n : Int) (l : List Edge) (hs : l.length < 1099511627776) (ht : ∀ x ∈ l, x.text.length < 1099511627776) : Kc cfg 23 [.int .i64 n, R fl0 eE l] (.ret (.bool (rightE n l))) := by
  unfold rightE
  by_cases h1 : l.length ≤ 30
  · skip
    refine outS_of_wp cfg (fn := Tryd.f23) Tryd.func23 rfl (by simp [Tryd.f23]) ?_
    simp (disch := first | assumption | omega | (simp; done) | (simp; omega)) [-getElem?_pos, List.getElem?_cons_zero, List.getElem?_cons_succ, Tryd.f23]
    repeat' (first | (refine wpc_split _ (fun hc => ?_) (fun hc => ?_) <;> (try simp at hc)) | (refine ww_split _ (fun hc => ?_) (fun hc => ?_) <;> (try simp at hc)) | (refine wp_drawF (by kernel_rfl) ?_) | (refine wk_yldW _ ?_) | (refine layOwe _ (by kernel_rfl) ?_) | (refine owe ?_ (fun ho => ?_)) | (simp (disch := first | assumption | omega | (simp; done) | (simp; omega)) [beq_dec, -getElem?_pos, List.getElem?_cons_zero, List.getElem?_cons_succ]))
    all_goals first
      | (exfalso; omega)
      | (simp [h1]; done)
      | (rw [decide_eq_true h1]; simp)
  · skip
    refine outS_of_wp cfg (fn := Tryd.f23) Tryd.func23 rfl (by simp [Tryd.f23]) ?_
    simp (disch := first | assumption | omega | (simp; done) | (simp; omega)) [-getElem?_pos, List.getElem?_cons_zero, List.getElem?_cons_succ, Tryd.f23]
    repeat' (first | (refine wpc_split _ (fun hc => ?_) (fun hc => ?_) <;> (try simp at hc)) | (refine ww_split _ (fun hc => ?_) (fun hc => ?_) <;> (try simp at hc)) | (refine wp_drawF (by kernel_rfl) ?_) | (refine wk_yldW _ ?_) | (refine layOwe _ (by kernel_rfl) ?_) | (refine owe ?_ (fun ho => ?_)) | (simp (disch := first | assumption | omega | (simp; done) | (simp; omega)) [beq_dec, -getElem?_pos, List.getElem?_cons_zero, List.getElem?_cons_succ]))
    all_goals first
      | (exfalso; omega)
      | (simp [h1]; done)
      | (rw [decide_eq_false h1]; simp)
@[simp] theorem S23 (n : Int) (l : List Edge) (hs : l.length < 1099511627776) (ht : ∀ x ∈ l, x.text.length < 1099511627776) (q1 : Fl) (hh : Heap) : Ci cfg (.func (.func 23) [] []) [.int .i64 n, R  q1 eE l] hh = some (.ret (.bool (rightE n l)), hh) :=
  Ci_K cfg rfl rfl (by simp) (by simp) (C23 n l hs ht)
/-! Paths by picks -/
def fromE (l : List Edge) (v : Int) (i : Nat) : List Int := ((List.range i).filter fun j => (nth l j).src == v).map fun (j : Nat) => (j : Int)
theorem fromE_zero (l : List Edge) (v : Int) : fromE l v 0 = [] := rfl
theorem fromE_yes {l : List Edge} {v : Int} {i : Nat} (h : (nth l i).src = v) : fromE l v (i + 1) = fromE l v i ++ [(i : Int)] := by
  unfold fromE; rw [List.range_succ, List.filter_append]; simp [h]
theorem fromE_no {l : List Edge} {v : Int} {i : Nat} (h : ¬ (nth l i).src = v) : fromE l v (i + 1) = fromE l v i := by
  unfold fromE; rw [List.range_succ, List.filter_append]; simp [h]
theorem fromE_len (l : List Edge) (v : Int) (i : Nat) : (fromE l v i).length ≤ i := by
  unfold fromE; rw [List.length_map]; exact Nat.le_trans (List.length_filter_le _ _) (by simp)
theorem fromE_mem {l : List Edge} {v x : Int} {i : Nat} (h : x ∈ fromE l v i) : ∃ j : Nat, x = j ∧ j < i ∧ (nth l j).src = v := by
  unfold fromE at h
  simp only [List.mem_map, List.mem_filter, List.mem_range, beq_iff_eq] at h
  obtain ⟨j, ⟨h1, h2⟩, rfl⟩ := h
  exact ⟨j, rfl, h1, h2⟩
def walkR (l : List Edge) : List Int → Int → List Int × Int
  | [], v => ([], v)
  | p :: r, v => if fromE l v l.length = [] then ([], v) else
    (nth (fromE l v l.length) (p.toNat % (fromE l v l.length).length) :: (walkR l r (nth l (nth (fromE l v l.length) (p.toNat % (fromE l v l.length).length)).toNat).dst).1,
      (walkR l r (nth l (nth (fromE l v l.length) (p.toNat % (fromE l v l.length).length)).toNat).dst).2)
theorem walkR_path {n : Nat} {l : List Edge} : ∀ {p : List Int} {v : Int}, (walkR l p v).2 = n → pathP n l (walkR l p v).1 v = true
  | [], v, h => by
    unfold walkR at h ⊢
    simpa [pathP] using h
  | p :: r, v, h => by
    unfold walkR at h ⊢
    by_cases hf : fromE l v l.length = []
    · rw [if_pos hf] at h ⊢
      simpa [pathP] using h
    · rw [if_neg hf] at h ⊢
      simp only at h ⊢
      have hl := List.length_pos_iff.2 hf
      obtain ⟨j, e, hj, hs⟩ := fromE_mem (nth_mem (Nat.mod_lt p.toNat hl))
      rw [e] at h ⊢
      simp only [Int.toNat_natCast] at h ⊢
      simp only [pathP, Bool.and_eq_true, decide_eq_true_eq, Int.toNat_natCast]
      exact ⟨⟨by omega, by omega, hs⟩, walkR_path h⟩
theorem walkR_len {l : List Edge} : ∀ {p : List Int} {v : Int}, (walkR l p v).1.length ≤ p.length
  | [], v => by unfold walkR; simp
  | p :: r, v => by
    unfold walkR
    split
    · simp
    · have := walkR_len (l := l) (p := r) (v := (nth l (nth (fromE l v l.length) (p.toNat % (fromE l v l.length).length)).toNat).dst)
      simp only [List.length_cons]; omega
theorem tmod_nat {p : Int} {k : Nat} (h : 0 ≤ p) : p.tmod (k : Int) = ((p.toNat % k : Nat) : Int) := by
  obtain ⟨q, rfl⟩ := Int.eq_ofNat_of_zero_le h
  rw [Int.tmod_eq_emod_of_nonneg h]; simp
theorem C26 (n : Int) (l : List Edge) (picks : List Int) (hs : l.length < 4294967296 ∧ picks.length < 4294967296) (hp : ∀ x ∈ picks, 0 ≤ x ∧ x ≤ 255) : Kc cfg 26 [.int .i64 n, R fl0 eE l, R fl0 eU picks] (.ret (.tuple [R fl0 eI (walkR l picks 0).1, .bool (decide ((walkR l picks 0).2 = n))])) := by
  generalize hF : walkR l picks 0 = F
  refine outS_of_wp cfg (fn := Tryd.f26) Tryd.func26 rfl (by simp [Tryd.f26]) ?_
  simp (disch := first | assumption | omega | (simp; done) | (simp; omega)) [-getElem?_pos, List.getElem?_cons_zero, List.getElem?_cons_succ, Tryd.f26]
  repeat' (first | (refine wpc_split _ (fun hc => ?_) (fun hc => ?_) <;> (try simp at hc)) | (refine ww_split _ (fun hc => ?_) (fun hc => ?_) <;> (try simp at hc)) | (refine wp_drawF (by kernel_rfl) ?_) | (refine wk_yldW _ ?_) | (refine layOwe _ (by kernel_rfl) ?_) | (refine owe ?_ (fun ho => ?_)) | (simp (disch := first | assumption | omega | (simp; done) | (simp; omega)) [-getElem?_pos, List.getElem?_cons_zero, List.getElem?_cons_succ]))
  refine wp_loopE cfg rfl (fun f0 h0 m fr h => ∃ k : Nat, ∃ v : Int, ∃ out : List Int, ∃ fl : Fl, ∃ AX : List Blk, fr 0 = f0 0 ∧ fr 1 = f0 1 ∧ fr 15 = f0 15 ∧ fr 16 = f0 16 ∧ fr 6 = R fl eI out ∧ fr 8 = .int .i64 v ∧ fr 17 = .int .i64 k ∧ h.bs = h0.bs ++ AX ∧ (App h.ts 1 fl) ∧ (k + m = picks.length) ∧ (out.length ≤ k) ∧ (out ++ (walkR l (picks.drop k) v).1 = F.1 ∧ (walkR l (picks.drop k) v).2 = F.2)) (picks.length) _ _ ⟨0, 0, [], (true, true, none), [], rfl, rfl, rfl, rfl, by first | rfl | (simp; done) | (simp [R]; done) | simp [R], by first | rfl | (simp; done) | (simp [R]; done) | simp [R], by first | rfl | (simp; done) | (simp [R]; done) | simp [R], by simp, App.nil _ _ _, by first | rfl | (simp; done) | omega, by simp, by rw [List.drop_zero, hF]; simp⟩ ?_
  rintro Am Af Ah ⟨k, v, out, fl, AX, A0, A1, A15, A16, A6, A8, A17, Abs, hap, hm, hol, hw⟩ Aih
  try simp at A0 A1 A15 A16 Abs
  by_cases hk : k < picks.length
  · have hpk := hp _ (nth_mem hk)
    rw [nth_drop hk] at hw
    unfold walkR at hw
    repeat' (first | (refine wpc_split _ (fun hc => ?_) (fun hc => ?_) <;> (try simp at hc)) | (refine ww_split _ (fun hc => ?_) (fun hc => ?_) <;> (try simp at hc)) | (refine wp_drawF (by kernel_rfl) ?_) | (refine wk_yldW _ ?_) | (refine layOwe _ (by kernel_rfl) ?_) | (refine owe ?_ (fun ho => ?_)) | (simp (disch := first | assumption | omega | (simp; done) | (simp; omega)) [A0, A1, A15, A16, A6, A8, A17, Abs, eU, -getElem?_pos, List.getElem?_cons_zero, List.getElem?_cons_succ]))
    refine wp_loopE cfg rfl (fun f0 h0 m fr h => ∃ i : Nat, ∃ fl2 : Fl, ∃ BX : List Blk, fr 0 = f0 0 ∧ fr 1 = f0 1 ∧ fr 6 = f0 6 ∧ fr 8 = f0 8 ∧ fr 10 = f0 10 ∧ fr 15 = f0 15 ∧ fr 16 = f0 16 ∧ fr 17 = f0 17 ∧ fr 21 = f0 21 ∧ fr 22 = f0 22 ∧ fr 11 = R fl2 eI (fromE l v i) ∧ fr 23 = .int .i64 i ∧ h.bs = h0.bs ++ BX ∧ (App h.ts 1 fl) ∧ (App h.ts 1 fl2) ∧ (fl.2.2 = none ∨ fl.2.2 ≠ fl2.2.2) ∧ (i + m = l.length)) (l.length) _ _ ⟨0, (true, true, none), [], rfl, rfl, rfl, rfl, rfl, rfl, rfl, rfl, rfl, rfl, by first | rfl | (simp; done) | (simp [R]; done) | simp [R], by first | rfl | (simp; done) | (simp [R]; done) | simp [R], by simp, hap, App.nil _ _ _, by (cases h : fl.2.2; (exact .inl rfl); (exact .inr (by simp))), by first | rfl | (simp; done) | omega⟩ ?_
    rintro Bm Bf Bh ⟨i, fl2, BX, B0, B1, B6, B8, B10, B15, B16, B17, B21, B22, B11, B23, Bbs, hap1, hap2, hne, hm2⟩ Bih
    try simp [A0, A1, A15, A16, A6, A8, A17, Abs] at B0 B1 B6 B8 B10 B15 B16 B17 B21 B22 Bbs
    have hfl := fromE_len l v i
    by_cases hi : i < l.length
    · by_cases c : (nth l i).src = v
      · have hst := fromE_yes c
        repeat' (first | (refine wpc_split _ (fun hc => ?_) (fun hc => ?_) <;> (try simp at hc)) | (refine ww_split _ (fun hc => ?_) (fun hc => ?_) <;> (try simp at hc)) | (refine wp_drawF (by kernel_rfl) ?_) | (refine wk_yldW _ ?_) | (refine layOwe _ (by kernel_rfl) ?_) | (refine owe ?_ (fun ho => ?_)) | (simp (disch := first | assumption | omega | (simp; done) | (simp; omega)) [B0, B1, B6, B8, B10, B15, B16, B17, B21, B22, B11, B23, Bbs, eE, c, fold_I1, -getElem?_pos, List.getElem?_cons_zero, List.getElem?_cons_succ]))
        exact Bih (Bm - 1) _ _ (by omega) ⟨i + 1, _, BX ++ [.cells (eE (nth l i))], by simp [B0, B1, B6, B8, B10, B15, B16, B17, B21, B22, B11, B23, Bbs, A0, A1, A15, A16, A6, A8, A17, Abs, hst, eE, c], by simp [B0, B1, B6, B8, B10, B15, B16, B17, B21, B22, B11, B23, Bbs, A0, A1, A15, A16, A6, A8, A17, Abs, hst, eE, c], by simp [B0, B1, B6, B8, B10, B15, B16, B17, B21, B22, B11, B23, Bbs, A0, A1, A15, A16, A6, A8, A17, Abs, hst, eE, c], by simp [B0, B1, B6, B8, B10, B15, B16, B17, B21, B22, B11, B23, Bbs, A0, A1, A15, A16, A6, A8, A17, Abs, hst, eE, c], by simp [B0, B1, B6, B8, B10, B15, B16, B17, B21, B22, B11, B23, Bbs, A0, A1, A15, A16, A6, A8, A17, Abs, hst, eE, c], by simp [B0, B1, B6, B8, B10, B15, B16, B17, B21, B22, B11, B23, Bbs, A0, A1, A15, A16, A6, A8, A17, Abs, hst, eE, c], by simp [B0, B1, B6, B8, B10, B15, B16, B17, B21, B22, B11, B23, Bbs, A0, A1, A15, A16, A6, A8, A17, Abs, hst, eE, c], by simp [B0, B1, B6, B8, B10, B15, B16, B17, B21, B22, B11, B23, Bbs, A0, A1, A15, A16, A6, A8, A17, Abs, hst, eE, c], by simp [B0, B1, B6, B8, B10, B15, B16, B17, B21, B22, B11, B23, Bbs, A0, A1, A15, A16, A6, A8, A17, Abs, hst, eE, c], by simp [B0, B1, B6, B8, B10, B15, B16, B17, B21, B22, B11, B23, Bbs, A0, A1, A15, A16, A6, A8, A17, Abs, hst, eE, c], by simp [B0, B1, B6, B8, B10, B15, B16, B17, B21, B22, B11, B23, Bbs, A0, A1, A15, A16, A6, A8, A17, Abs, hst, eE, c], by simp [B0, B1, B6, B8, B10, B15, B16, B17, B21, B22, B11, B23, Bbs, A0, A1, A15, A16, A6, A8, A17, Abs, hst, eE, c], by simp [B0, B1, B6, B8, B10, B15, B16, B17, B21, B22, B11, B23, Bbs, A0, A1, A15, A16, A6, A8, A17, Abs, hst, eE, c], hap1.keep hne, App.new _ _ _, hap1.lt, by omega⟩
      · have hst := fromE_no c
        repeat' (first | (refine wpc_split _ (fun hc => ?_) (fun hc => ?_) <;> (try simp at hc)) | (refine ww_split _ (fun hc => ?_) (fun hc => ?_) <;> (try simp at hc)) | (refine wp_drawF (by kernel_rfl) ?_) | (refine wk_yldW _ ?_) | (refine layOwe _ (by kernel_rfl) ?_) | (refine owe ?_ (fun ho => ?_)) | (simp (disch := first | assumption | omega | (simp; done) | (simp; omega)) [B0, B1, B6, B8, B10, B15, B16, B17, B21, B22, B11, B23, Bbs, eE, c, -getElem?_pos, List.getElem?_cons_zero, List.getElem?_cons_succ]))
        exact Bih (Bm - 1) _ _ (by omega) ⟨i + 1, fl2, BX ++ [.cells (eE (nth l i))], by simp [B0, B1, B6, B8, B10, B15, B16, B17, B21, B22, B11, B23, Bbs, A0, A1, A15, A16, A6, A8, A17, Abs, hst, eE], by simp [B0, B1, B6, B8, B10, B15, B16, B17, B21, B22, B11, B23, Bbs, A0, A1, A15, A16, A6, A8, A17, Abs, hst, eE], by simp [B0, B1, B6, B8, B10, B15, B16, B17, B21, B22, B11, B23, Bbs, A0, A1, A15, A16, A6, A8, A17, Abs, hst, eE], by simp [B0, B1, B6, B8, B10, B15, B16, B17, B21, B22, B11, B23, Bbs, A0, A1, A15, A16, A6, A8, A17, Abs, hst, eE], by simp [B0, B1, B6, B8, B10, B15, B16, B17, B21, B22, B11, B23, Bbs, A0, A1, A15, A16, A6, A8, A17, Abs, hst, eE], by simp [B0, B1, B6, B8, B10, B15, B16, B17, B21, B22, B11, B23, Bbs, A0, A1, A15, A16, A6, A8, A17, Abs, hst, eE], by simp [B0, B1, B6, B8, B10, B15, B16, B17, B21, B22, B11, B23, Bbs, A0, A1, A15, A16, A6, A8, A17, Abs, hst, eE], by simp [B0, B1, B6, B8, B10, B15, B16, B17, B21, B22, B11, B23, Bbs, A0, A1, A15, A16, A6, A8, A17, Abs, hst, eE], by simp [B0, B1, B6, B8, B10, B15, B16, B17, B21, B22, B11, B23, Bbs, A0, A1, A15, A16, A6, A8, A17, Abs, hst, eE], by simp [B0, B1, B6, B8, B10, B15, B16, B17, B21, B22, B11, B23, Bbs, A0, A1, A15, A16, A6, A8, A17, Abs, hst, eE], by simp [B0, B1, B6, B8, B10, B15, B16, B17, B21, B22, B11, B23, Bbs, A0, A1, A15, A16, A6, A8, A17, Abs, hst, eE], by simp [B0, B1, B6, B8, B10, B15, B16, B17, B21, B22, B11, B23, Bbs, A0, A1, A15, A16, A6, A8, A17, Abs, hst, eE], by simp [B0, B1, B6, B8, B10, B15, B16, B17, B21, B22, B11, B23, Bbs, A0, A1, A15, A16, A6, A8, A17, Abs, hst, eE], hap1, hap2, hne, by omega⟩
    · obtain rfl : i = l.length := by omega
      generalize hfr : fromE l v l.length = fr at *
      by_cases hf : fr = []
      · rw [if_pos hf] at hw
        simp only [List.append_nil] at hw
        subst hf
        repeat' (first | (refine wpc_split _ (fun hc => ?_) (fun hc => ?_) <;> (try simp at hc)) | (refine ww_split _ (fun hc => ?_) (fun hc => ?_) <;> (try simp at hc)) | (refine wp_drawF (by kernel_rfl) ?_) | (refine wk_yldW _ ?_) | (refine layOwe _ (by kernel_rfl) ?_) | (refine owe ?_ (fun ho => ?_)) | (simp (disch := first | assumption | omega | (simp; done) | (simp; omega)) [B0, B1, B6, B8, B10, B15, B16, B17, B21, B22, B11, B23, Bbs, -getElem?_pos, List.getElem?_cons_zero, List.getElem?_cons_succ]))
        rw [← hw.1, ← hw.2]
        try (first | rfl | (simp [beq_dec]))
      · rw [if_neg hf] at hw
        have hl2 := List.length_pos_iff.2 hf
        have hmod := tmod_nat (k := fr.length) hpk.1
        have hq := Nat.mod_lt (nth picks k).toNat hl2
        generalize hqq : (nth picks k).toNat % fr.length = q at *
        have hmem := nth_mem hq
        rw [← hfr] at hmem
        obtain ⟨j, e, hj, hsj⟩ := fromE_mem hmem
        rw [hfr] at e
        rw [e] at hw
        simp only [Int.toNat_natCast] at hw
        have hz : ¬ (fr.length : Int) = 0 := by omega
        have hmod2 : nth picks k % (fr.length : Int) = (q : Int) := by rw [← hmod, Int.tmod_eq_emod_of_nonneg hpk.1]
        repeat' (first | (refine wpc_split _ (fun hc => ?_) (fun hc => ?_) <;> (try simp at hc)) | (refine ww_split _ (fun hc => ?_) (fun hc => ?_) <;> (try simp at hc)) | (refine wp_drawF (by kernel_rfl) ?_) | (refine wk_yldW _ ?_) | (refine layOwe _ (by kernel_rfl) ?_) | (refine owe ?_ (fun ho => ?_)) | (simp (disch := first | assumption | omega | (simp; done) | (simp; omega)) [B0, B1, B6, B8, B10, B15, B16, B17, B21, B22, B11, B23, Bbs, eI, eE, hmod, hmod2, e, hz, fold_I1, -getElem?_pos, List.getElem?_cons_zero, List.getElem?_cons_succ]))
        all_goals first
          | (exfalso; omega)
          | exact Aih (Am - 1) _ _ (by omega) ⟨k + 1, (nth l j).dst, out ++ [(j : Int)], _, AX ++ BX, by simp [B0, B1, B6, B8, B10, B15, B16, B17, B21, B22, B11, B23, Bbs, A0, A1, A15, A16, A6, A8, A17, Abs], by simp [B0, B1, B6, B8, B10, B15, B16, B17, B21, B22, B11, B23, Bbs, A0, A1, A15, A16, A6, A8, A17, Abs], by simp [B0, B1, B6, B8, B10, B15, B16, B17, B21, B22, B11, B23, Bbs, A0, A1, A15, A16, A6, A8, A17, Abs], by simp [B0, B1, B6, B8, B10, B15, B16, B17, B21, B22, B11, B23, Bbs, A0, A1, A15, A16, A6, A8, A17, Abs], by simp [B0, B1, B6, B8, B10, B15, B16, B17, B21, B22, B11, B23, Bbs, A0, A1, A15, A16, A6, A8, A17, Abs], by simp [B0, B1, B6, B8, B10, B15, B16, B17, B21, B22, B11, B23, Bbs, A0, A1, A15, A16, A6, A8, A17, Abs], by simp [B0, B1, B6, B8, B10, B15, B16, B17, B21, B22, B11, B23, Bbs, A0, A1, A15, A16, A6, A8, A17, Abs], by simp [B0, B1, B6, B8, B10, B15, B16, B17, B21, B22, B11, B23, Bbs, A0, A1, A15, A16, A6, A8, A17, Abs], App.new _ _ _, by omega, (by simp; omega), by simpa using hw⟩
  · rw [List.drop_of_length_le (by omega)] at hw
    simp only [walkR, List.append_nil] at hw
    repeat' (first | (refine wpc_split _ (fun hc => ?_) (fun hc => ?_) <;> (try simp at hc)) | (refine ww_split _ (fun hc => ?_) (fun hc => ?_) <;> (try simp at hc)) | (refine wp_drawF (by kernel_rfl) ?_) | (refine wk_yldW _ ?_) | (refine layOwe _ (by kernel_rfl) ?_) | (refine owe ?_ (fun ho => ?_)) | (simp (disch := first | assumption | omega | (simp; done) | (simp; omega)) [A0, A1, A15, A16, A6, A8, A17, Abs, -getElem?_pos, List.getElem?_cons_zero, List.getElem?_cons_succ]))
    rw [← hw.1, ← hw.2]
    all_goals first | rfl | (simp [beq_dec]; done) | simp
@[simp] theorem S26 (n : Int) (l : List Edge) (picks : List Int) (hs : l.length < 4294967296 ∧ picks.length < 4294967296) (hp : ∀ x ∈ picks, 0 ≤ x ∧ x ≤ 255) (q1 q2 : Fl) (hh : Heap) : Ci cfg (.func (.func 26) [] []) [.int .i64 n, R  q1 eE l, R  q2 eU picks] hh = some (.ret (.tuple [R fl0 eI (walkR l picks 0).1, .bool (decide ((walkR l picks 0).2 = n))]), hh) :=
  Ci_K cfg rfl rfl (by simp) (by simp) (C26 n l picks hs hp)
end Go.Ab
