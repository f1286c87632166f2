/- SentencesSpec: the law. -/
import Derived.Test.YtfgkjpfdpcjciaaDoorS32
set_option linter.unusedVariables false
set_option linter.unusedSimpArgs false
set_option linter.unusedSectionVars false
set_option linter.deprecated false
namespace Go.Ab
open Go.Proofs
set_option maxRecDepth 100000
set_option maxHeartbeats 4000000
def fewI (w : List Wrd) (i : Nat) : Bool := decide ((nth w i).text.length ≤ 100) && decide ((nth w i).alts.length ≤ 10)
def fewX2 (w : List Wrd) : Bool := (decide (w.length ≤ 60) || (decide (4096 < w.length) && decide (w.length ≤ 4200))) && (List.range (min w.length 100)).all (fewI w)
theorem C9 (w : List Wrd) (hs : smXs w) : Kc cfg 9 [R fl0 eW w] (.ret (.bool (fewX2 w))) := by
  have hs1 := hs.1
  have hd : fewX2 w = ((decide (w.length ≤ 60) || (decide (4096 < w.length) && decide (w.length ≤ 4200))) && (List.range (min w.length 100)).all (fewI w)) := rfl
  by_cases g0 : (w.length ≤ 60 ∨ (4096 < w.length ∧ w.length ≤ 4200))
  · have g0' : (decide (w.length ≤ 60) || (decide (4096 < w.length) && decide (w.length ≤ 4200))) = true := by simpa using g0
    rw [hd, g0', Bool.true_and]
    have hft : (∀ j, j < w.length → j < 100 → fewI w j = true) → (List.range (min w.length 100)).all (fewI w) = true := fun h => by
      rw [List.all_eq_true]; intro j hj
      have := List.mem_range.1 hj
      exact h j (by omega) (by omega)
    have hff : ∀ j, j < w.length → j < 100 → fewI w j = false → (List.range (min w.length 100)).all (fewI w) = false := fun j h1 h2 h3 => by
      cases e : (List.range (min w.length 100)).all (fewI w) with
      | false => rfl
      | true =>
        rw [List.all_eq_true] at e
        have := e j (List.mem_range.2 (by omega))
        rw [h3] at this; cases this
    generalize hF : (List.range (min w.length 100)).all (fewI w) = F at *
    refine outS_of_wp cfg (fn := Tryd.f9) Tryd.func9 rfl (by simp [Tryd.f9]) ?_
    simp (disch := first | assumption | omega | (simp; done) | (simp; omega)) [-getElem?_pos, List.getElem?_cons_zero, List.getElem?_cons_succ, Tryd.f9, ]
    repeat' (first | (refine wpc_split _ (fun hc => ?_) (fun hc => ?_) <;> (try simp at hc)) | (refine ww_split _ (fun hc => ?_) (fun hc => ?_) <;> (try simp at hc)) | (refine wp_drawF (by kernel_rfl) ?_) | (refine wk_yldW _ ?_) | (refine layOwe _ (by kernel_rfl) ?_) | (refine owe ?_ (fun ho => ?_)) | (simp (disch := first | assumption | omega | (simp; done) | (simp; omega)) [-getElem?_pos, List.getElem?_cons_zero, List.getElem?_cons_succ]))
    all_goals try (exfalso; omega)
    all_goals
      refine wp_loopE cfg rfl (fun f0 h0 m fr h => ∃ i : Nat, fr 0 = f0 0 ∧ fr 3 = .int .i64 i ∧ h.bs = h0.bs ∧ (i + m = w.length) ∧ (i ≤ 100) ∧ (∀ j, j < i → fewI w j = true)) (w.length) _ _ ⟨0, rfl, by first | rfl | (simp; done) | (simp [R]; done) | simp [R], rfl, by first | rfl | (simp; done) | omega, by first | rfl | (simp; done) | omega, fun j hj => by omega⟩ ?_
      rintro Am Af Ah ⟨i, A0, A3, Abs, hm, h100, ht⟩ Aih
      try simp at A0 Abs
      by_cases hi : i < w.length
      · by_cases hi2 : i < 100
        · have hx := smXs_nth hs hi
          obtain ⟨hx1, hx2, _⟩ := hx
          have hi2' : (i : Int) < 100 := by omega
          by_cases g1 : (nth w i).text.length ≤ 100
          · by_cases g2 : (nth w i).alts.length ≤ 10
            · have hw : fewI w i = true := by unfold fewI; rw [decide_eq_true g1, decide_eq_true g2]; rfl
              repeat' (first | (refine wpc_split _ (fun hc => ?_) (fun hc => ?_) <;> (try simp at hc)) | (refine ww_split _ (fun hc => ?_) (fun hc => ?_) <;> (try simp at hc)) | (refine wp_drawF (by kernel_rfl) ?_) | (refine wk_yldW _ ?_) | (refine layOwe _ (by kernel_rfl) ?_) | (refine owe ?_ (fun ho => ?_)) | (simp (disch := first | assumption | omega | (simp; done) | (simp; omega)) [A0, A3, Abs, hi2, hi2', -getElem?_pos, List.getElem?_cons_zero, List.getElem?_cons_succ]))
              all_goals try (exfalso; omega)
              exact Aih (Am - 1) _ _ (by omega) ⟨i + 1, by simp [A0, A3, Abs], by simp [A0, A3, Abs], by simp [A0, A3, Abs], by omega, by omega, fun j hj => by (by_cases e : j = i; (subst e; exact hw); exact ht j (by omega))⟩
            · have hw : fewI w i = false := by unfold fewI; rw [decide_eq_false g2]; simp
              have := hff i hi hi2 hw
              subst this
              repeat' (first | (refine wpc_split _ (fun hc => ?_) (fun hc => ?_) <;> (try simp at hc)) | (refine ww_split _ (fun hc => ?_) (fun hc => ?_) <;> (try simp at hc)) | (refine wp_drawF (by kernel_rfl) ?_) | (refine wk_yldW _ ?_) | (refine layOwe _ (by kernel_rfl) ?_) | (refine owe ?_ (fun ho => ?_)) | (simp (disch := first | assumption | omega | (simp; done) | (simp; omega)) [A0, A3, Abs, hi2, hi2', -getElem?_pos, List.getElem?_cons_zero, List.getElem?_cons_succ]))
              all_goals first | rfl | (exfalso; omega)
          · have hw : fewI w i = false := by unfold fewI; rw [decide_eq_false g1]; simp
            have := hff i hi hi2 hw
            subst this
            repeat' (first | (refine wpc_split _ (fun hc => ?_) (fun hc => ?_) <;> (try simp at hc)) | (refine ww_split _ (fun hc => ?_) (fun hc => ?_) <;> (try simp at hc)) | (refine wp_drawF (by kernel_rfl) ?_) | (refine wk_yldW _ ?_) | (refine layOwe _ (by kernel_rfl) ?_) | (refine owe ?_ (fun ho => ?_)) | (simp (disch := first | assumption | omega | (simp; done) | (simp; omega)) [A0, A3, Abs, hi2, hi2', -getElem?_pos, List.getElem?_cons_zero, List.getElem?_cons_succ]))
            all_goals first | rfl | (exfalso; omega)
        · have hi2' : ¬ (i : Int) < 100 := by omega
          have := hft (fun j h1 h2 => ht j (by omega))
          subst this
          repeat' (first | (refine wpc_split _ (fun hc => ?_) (fun hc => ?_) <;> (try simp at hc)) | (refine ww_split _ (fun hc => ?_) (fun hc => ?_) <;> (try simp at hc)) | (refine wp_drawF (by kernel_rfl) ?_) | (refine wk_yldW _ ?_) | (refine layOwe _ (by kernel_rfl) ?_) | (refine owe ?_ (fun ho => ?_)) | (simp (disch := first | assumption | omega | (simp; done) | (simp; omega)) [A0, A3, Abs, hi2, hi2', -getElem?_pos, List.getElem?_cons_zero, List.getElem?_cons_succ]))
          all_goals first | rfl | (exfalso; omega)
      · have := hft (fun j h1 h2 => ht j (by omega))
        subst this
        repeat' (first | (refine wpc_split _ (fun hc => ?_) (fun hc => ?_) <;> (try simp at hc)) | (refine ww_split _ (fun hc => ?_) (fun hc => ?_) <;> (try simp at hc)) | (refine wp_drawF (by kernel_rfl) ?_) | (refine wk_yldW _ ?_) | (refine layOwe _ (by kernel_rfl) ?_) | (refine owe ?_ (fun ho => ?_)) | (simp (disch := first | assumption | omega | (simp; done) | (simp; omega)) [A0, A3, Abs, -getElem?_pos, List.getElem?_cons_zero, List.getElem?_cons_succ]))
        all_goals first | rfl | (exfalso; omega)
  · have g0' : (decide (w.length ≤ 60) || (decide (4096 < w.length) && decide (w.length ≤ 4200))) = false := by simpa using g0
    rw [hd, g0', Bool.false_and]
    refine outS_of_wp cfg (fn := Tryd.f9) Tryd.func9 rfl (by simp [Tryd.f9]) ?_
    simp (disch := first | assumption | omega | (simp; done) | (simp; omega)) [-getElem?_pos, List.getElem?_cons_zero, List.getElem?_cons_succ, Tryd.f9, ]
    repeat' (first | (refine wpc_split _ (fun hc => ?_) (fun hc => ?_) <;> (try simp at hc)) | (refine ww_split _ (fun hc => ?_) (fun hc => ?_) <;> (try simp at hc)) | (refine wp_drawF (by kernel_rfl) ?_) | (refine wk_yldW _ ?_) | (refine layOwe _ (by kernel_rfl) ?_) | (refine owe ?_ (fun ho => ?_)) | (simp (disch := first | assumption | omega | (simp; done) | (simp; omega)) [-getElem?_pos, List.getElem?_cons_zero, List.getElem?_cons_succ]))
    all_goals first | rfl | (exfalso; omega)
@[simp] theorem S9 (w : List Wrd) (hs : smXs w) (q1 : Fl) (hh : Heap) : Ci cfg (.func (.func 9) [] []) [R  q1 eW w] hh = some (.ret (.bool (fewX2 w)), hh) :=
  Ci_K cfg rfl rfl (by simp) (by simp) (C9 w hs)
theorem C3 (w : List Wrd) (gap most t : Int) (hs : smXs w) : Kc cfg 3 [R fl0 eW w, .int .i64 gap, .int .i64 most, .int .i64 t] (.ret (.bool true)) := by
  have hl := enS_sm (gap := gap) (most := most) hs.1
  cases hf : fewX2 w with
  | false =>
    refine outS_of_wp cfg (fn := Tryd.f3) Tryd.func3 rfl (by simp [Tryd.f3]) ?_
    simp (disch := first | assumption | omega | (simp; done) | (simp; omega)) [-getElem?_pos, List.getElem?_cons_zero, List.getElem?_cons_succ, Tryd.f3, hs, hf, emptyH]
    repeat' (first | (refine wpc_split _ (fun hc => ?_) (fun hc => ?_) <;> (try simp at hc)) | (refine ww_split _ (fun hc => ?_) (fun hc => ?_) <;> (try simp at hc)) | (refine wp_drawF (by kernel_rfl) ?_) | (refine wk_yldW _ ?_) | (refine layOwe _ (by kernel_rfl) ?_) | (refine owe ?_ (fun ho => ?_)) | (simp (disch := first | assumption | omega | (simp; done) | (simp; omega)) [hs, hf, emptyH, -getElem?_pos, List.getElem?_cons_zero, List.getElem?_cons_succ]))
  | true =>
    refine outS_of_wp cfg (fn := Tryd.f3) Tryd.func3 rfl (by simp [Tryd.f3]) ?_
    simp (disch := first | assumption | omega | (simp; done) | (simp; omega)) [-getElem?_pos, List.getElem?_cons_zero, List.getElem?_cons_succ, Tryd.f3, hs, hf, hl, emptyH]
    repeat' (first | (refine wpc_split _ (fun hc => ?_) (fun hc => ?_) <;> (try simp at hc)) | (refine ww_split _ (fun hc => ?_) (fun hc => ?_) <;> (try simp at hc)) | (refine wp_drawF (by kernel_rfl) ?_) | (refine wk_yldW _ ?_) | (refine layOwe _ (by kernel_rfl) ?_) | (refine owe ?_ (fun ho => ?_)) | (simp (disch := first | assumption | omega | (simp; done) | (simp; omega)) [hs, hf, hl, emptyH, -getElem?_pos, List.getElem?_cons_zero, List.getElem?_cons_succ]))
@[simp] theorem S3 (w : List Wrd) (gap most t : Int) (hs : smXs w) (q1 : Fl) (hh : Heap) : Ci cfg (.func (.func 3) [] []) [R  q1 eW w, .int .i64 gap, .int .i64 most, .int .i64 t] hh = some (.ret (.bool true), hh) :=
  Ci_K cfg rfl rfl (by simp) (by simp) (C3 w gap most t hs)
end Go.Ab
