/- Layer 32 (sentences): words that are right. -/
import Derived.Test.YtfgkjpfdpcjciaaDoorT7
import Derived.Test.YtfgkjpfdpcjciaaDoorT3
import Derived.Test.YtfgkjpfdpcjciaaDoorP32
set_option linter.unusedVariables false
set_option linter.unusedSimpArgs false
set_option linter.unusedSectionVars false
set_option linter.deprecated false
namespace Go.Ab
open Go.Proofs
set_option maxRecDepth 100000
set_option maxHeartbeats 4000000
theorem C52 (l : List (List UInt8)) (s : List UInt8) (hs : l.length < 1099511627776) : Kc cfg 52 [R fl0 eS l, .str s] (.ret (.bool (decide (s ∈ l)))) := by
  generalize hF : decide (s ∈ l) = F
  refine outS_of_wp cfg (fn := Tryd.f52) Tryd.func52 rfl (by simp [Tryd.f52]) ?_
  simp (disch := first | assumption | omega | (simp; done) | (simp; omega)) [-getElem?_pos, List.getElem?_cons_zero, List.getElem?_cons_succ, Tryd.f52]
  repeat' (first | (refine wpc_split _ (fun hc => ?_) (fun hc => ?_) <;> (try simp at hc)) | (refine ww_split _ (fun hc => ?_) (fun hc => ?_) <;> (try simp at hc)) | (refine wp_drawF (by kernel_rfl) ?_) | (refine wk_yldW _ ?_) | (refine layOwe _ (by kernel_rfl) ?_) | (refine owe ?_ (fun ho => ?_)) | (simp (disch := first | assumption | omega | (simp; done) | (simp; omega)) [-getElem?_pos, List.getElem?_cons_zero, List.getElem?_cons_succ]))
  refine wp_loopE cfg rfl (fun f0 h0 m fr h => ∃ i : Nat, fr 0 = f0 0 ∧ fr 1 = f0 1 ∧ fr 5 = .int .i64 i ∧ (i + m = l.length) ∧ (∀ j, j < i → ¬ nth l j = s)) (l.length) _ _ ⟨0, rfl, rfl, by first | rfl | (simp; done) | (simp [R]; done) | simp [R], by first | rfl | (simp; done) | omega, fun j hj => by omega⟩ ?_
  rintro Am Af Ah ⟨i, A0, A1, A5, hm, ht⟩ Aih
  try simp at A0 A1
  by_cases hi : i < l.length
  · by_cases hw : nth l i = s
    · have h1 : decide (s ∈ l) = true := decide_eq_true (by rw [← hw]; exact nth_mem hi)
      rw [h1] at hF
      subst hF
      repeat' (first | (refine wpc_split _ (fun hc => ?_) (fun hc => ?_) <;> (try simp at hc)) | (refine ww_split _ (fun hc => ?_) (fun hc => ?_) <;> (try simp at hc)) | (refine wp_drawF (by kernel_rfl) ?_) | (refine wk_yldW _ ?_) | (refine layOwe _ (by kernel_rfl) ?_) | (refine owe ?_ (fun ho => ?_)) | (simp (disch := first | assumption | omega | (simp; done) | (simp; omega)) [A0, A1, A5, eS, hw, -getElem?_pos, List.getElem?_cons_zero, List.getElem?_cons_succ]))
    · repeat' (first | (refine wpc_split _ (fun hc => ?_) (fun hc => ?_) <;> (try simp at hc)) | (refine ww_split _ (fun hc => ?_) (fun hc => ?_) <;> (try simp at hc)) | (refine wp_drawF (by kernel_rfl) ?_) | (refine wk_yldW _ ?_) | (refine layOwe _ (by kernel_rfl) ?_) | (refine owe ?_ (fun ho => ?_)) | (simp (disch := first | assumption | omega | (simp; done) | (simp; omega)) [A0, A1, A5, eS, hw, -getElem?_pos, List.getElem?_cons_zero, List.getElem?_cons_succ]))
      exact Aih (Am - 1) _ _ (by omega) ⟨i + 1, by simp [A0, A1, A5], by simp [A0, A1, A5], by simp [A0, A1, A5], by omega, fun j hj => by (by_cases e : j = i; (subst e; exact hw); exact ht j (by omega))⟩
  · have h1 : decide (s ∈ l) = false := decide_eq_false (fun h => by
      obtain ⟨j, hj, e⟩ := List.mem_iff_getElem.1 h
      rw [← nth_eq hj] at e
      exact ht j (by omega) e)
    rw [h1] at hF
    subst hF
    repeat' (first | (refine wpc_split _ (fun hc => ?_) (fun hc => ?_) <;> (try simp at hc)) | (refine ww_split _ (fun hc => ?_) (fun hc => ?_) <;> (try simp at hc)) | (refine wp_drawF (by kernel_rfl) ?_) | (refine wk_yldW _ ?_) | (refine layOwe _ (by kernel_rfl) ?_) | (refine owe ?_ (fun ho => ?_)) | (simp (disch := first | assumption | omega | (simp; done) | (simp; omega)) [A0, A1, A5, -getElem?_pos, List.getElem?_cons_zero, List.getElem?_cons_succ]))
@[simp] theorem S52 (l : List (List UInt8)) (s : List UInt8) (hs : l.length < 1099511627776) (q1 : Fl) (hh : Heap) : Ci cfg (.func (.func 52) [] []) [R  q1 eS l, .str s] hh = some (.ret (.bool (decide (s ∈ l))), hh) :=
  Ci_K cfg rfl rfl (by simp) (by simp) (C52 l s hs)
theorem C43 (t : List UInt8) (f u s : Int) (al : List (List UInt8)) (hs : smX ⟨t, f, u, s, al⟩) : Kc cfg 43 [.agg [.str t, .int .i64 f, .int .i64 u, .int .i64 s, R fl0 eS al]] (.ret (.bool (okW ⟨t, f, u, s, al⟩))) := by
  obtain ⟨h1, h2, h3⟩ := hs
  simp only at h1 h2 h3
  have hd : okW ⟨t, f, u, s, al⟩ = ((wordS t && decide (0 ≤ f) && decide (f < u) && decide (u < 1099511627775) && decide (0 ≤ s) && decide (s < 64) && decide (al.length ≤ 4)) && okAs t al) := rfl
  by_cases g0 : (wordS t = true ∧ 0 ≤ f ∧ f < u ∧ u < 1099511627775 ∧ 0 ≤ s ∧ s < 64 ∧ al.length ≤ 4)
  · obtain ⟨g1, g2, g3, g4, g5, g6, g7⟩ := g0
    rw [g1, decide_eq_true g2, decide_eq_true g3, decide_eq_true g4, decide_eq_true g5, decide_eq_true g6, decide_eq_true g7] at hd
    simp only [Bool.true_and] at hd
    generalize hF : okW ⟨t, f, u, s, al⟩ = F at *
    refine outS_of_wp cfg (fn := Tryd.f43) Tryd.func43 rfl (by simp [Tryd.f43]) ?_
    simp (disch := first | assumption | omega | (simp; done) | (simp; omega)) [-getElem?_pos, List.getElem?_cons_zero, List.getElem?_cons_succ, Tryd.f43, emptyH]
    repeat' (first | (refine wpc_split _ (fun hc => ?_) (fun hc => ?_) <;> (try simp at hc)) | (refine ww_split _ (fun hc => ?_) (fun hc => ?_) <;> (try simp at hc)) | (refine wp_drawF (by kernel_rfl) ?_) | (refine wk_yldW _ ?_) | (refine layOwe _ (by kernel_rfl) ?_) | (refine owe ?_ (fun ho => ?_)) | (simp (disch := first | assumption | omega | (simp; done) | (simp; omega)) [emptyH, g1, g2, g3, g4, g5, g6, g7, -getElem?_pos, List.getElem?_cons_zero, List.getElem?_cons_succ]))
    all_goals try (exfalso; omega)
    refine wp_loopE cfg rfl (fun f0 h0 m fr h => ∃ i : Nat, fr 1 = f0 1 ∧ fr 3 = .int .i64 i ∧ h.bs = h0.bs ∧ (i + m = al.length) ∧ (∀ j, j < i → okA t al j = true)) (al.length) _ _ ⟨0, rfl, by first | rfl | (simp; done) | (simp [R]; done) | simp [R], rfl, by first | rfl | (simp; done) | omega, fun j hj => by omega⟩ ?_
    rintro Am Af Ah ⟨i, A1, A3, Abs, hm, ht⟩ Aih
    try simp at A1 Abs
    by_cases hi : i < al.length
    · have hx := h3 _ (nth_mem hi)
      have hod : okA t al i = (wordS (nth al i) && !decide (nth al i = t) && !decide (nth al i ∈ al.take i)) := rfl
      cases k1 : wordS (nth al i) with
      | false =>
        rw [k1] at hod
        have := okAs_f hi (by rw [hod]; rfl)
        rw [this] at hd
        subst hd
        repeat' (first | (refine wpc_split _ (fun hc => ?_) (fun hc => ?_) <;> (try simp at hc)) | (refine ww_split _ (fun hc => ?_) (fun hc => ?_) <;> (try simp at hc)) | (refine wp_drawF (by kernel_rfl) ?_) | (refine wk_yldW _ ?_) | (refine layOwe _ (by kernel_rfl) ?_) | (refine owe ?_ (fun ho => ?_)) | (simp (disch := first | assumption | omega | (simp; done) | (simp; omega)) [A1, A3, Abs, eS, k1, hx, -getElem?_pos, List.getElem?_cons_zero, List.getElem?_cons_succ]))
      | true =>
        by_cases k2 : nth al i = t
        · rw [k1, decide_eq_true k2] at hod
          have := okAs_f hi (by rw [hod]; rfl)
          rw [this] at hd
          subst hd
          have k1' := k1
          rw [k2] at k1'
          repeat' (first | (refine wpc_split _ (fun hc => ?_) (fun hc => ?_) <;> (try simp at hc)) | (refine ww_split _ (fun hc => ?_) (fun hc => ?_) <;> (try simp at hc)) | (refine wp_drawF (by kernel_rfl) ?_) | (refine wk_yldW _ ?_) | (refine layOwe _ (by kernel_rfl) ?_) | (refine owe ?_ (fun ho => ?_)) | (simp (disch := first | assumption | omega | (simp; done) | (simp; omega)) [A1, A3, Abs, eS, k1, k1', k2, hx, h1, -getElem?_pos, List.getElem?_cons_zero, List.getElem?_cons_succ]))
        · by_cases k3 : nth al i ∈ al.take i
          · rw [k1, decide_eq_true k3] at hod
            have := okAs_f hi (by rw [hod]; simp)
            rw [this] at hd
            subst hd
            repeat' (first | (refine wpc_split _ (fun hc => ?_) (fun hc => ?_) <;> (try simp at hc)) | (refine ww_split _ (fun hc => ?_) (fun hc => ?_) <;> (try simp at hc)) | (refine wp_drawF (by kernel_rfl) ?_) | (refine wk_yldW _ ?_) | (refine layOwe _ (by kernel_rfl) ?_) | (refine owe ?_ (fun ho => ?_)) | (simp (disch := first | assumption | omega | (simp; done) | (simp; omega)) [A1, A3, Abs, eS, k1, k2, k3, hx, -getElem?_pos, List.getElem?_cons_zero, List.getElem?_cons_succ]))
          · rw [k1, decide_eq_false k2, decide_eq_false k3] at hod
            repeat' (first | (refine wpc_split _ (fun hc => ?_) (fun hc => ?_) <;> (try simp at hc)) | (refine ww_split _ (fun hc => ?_) (fun hc => ?_) <;> (try simp at hc)) | (refine wp_drawF (by kernel_rfl) ?_) | (refine wk_yldW _ ?_) | (refine layOwe _ (by kernel_rfl) ?_) | (refine owe ?_ (fun ho => ?_)) | (simp (disch := first | assumption | omega | (simp; done) | (simp; omega)) [A1, A3, Abs, eS, k1, k2, k3, hx, -getElem?_pos, List.getElem?_cons_zero, List.getElem?_cons_succ]))
            exact Aih (Am - 1) _ _ (by omega) ⟨i + 1, by simp [A1, A3, Abs], by simp [A1, A3, Abs], by simp [A1, A3, Abs], by omega, fun j hj => by (by_cases e : j = i; (subst e; exact hod); exact ht j (by omega))⟩
    · have := okAs_t (t := t) (al := al) (fun j hj => ht j (by omega))
      rw [this] at hd
      subst hd
      repeat' (first | (refine wpc_split _ (fun hc => ?_) (fun hc => ?_) <;> (try simp at hc)) | (refine ww_split _ (fun hc => ?_) (fun hc => ?_) <;> (try simp at hc)) | (refine wp_drawF (by kernel_rfl) ?_) | (refine wk_yldW _ ?_) | (refine layOwe _ (by kernel_rfl) ?_) | (refine owe ?_ (fun ho => ?_)) | (simp (disch := first | assumption | omega | (simp; done) | (simp; omega)) [A1, A3, Abs, -getElem?_pos, List.getElem?_cons_zero, List.getElem?_cons_succ]))
  · have hh : (wordS t && decide (0 ≤ f) && decide (f < u) && decide (u < 1099511627775) && decide (0 ≤ s) && decide (s < 64) && decide (al.length ≤ 4)) = false := by
      rw [Bool.eq_false_iff]; intro e
      simp only [Bool.and_eq_true, decide_eq_true_eq] at e
      obtain ⟨⟨⟨⟨⟨⟨a1, a2⟩, a3⟩, a4⟩, a5⟩, a6⟩, a7⟩ := e
      exact g0 ⟨a1, a2, a3, a4, a5, a6, a7⟩
    rw [hd, hh, Bool.false_and]
    cases g1 : wordS t with
    | false =>
      refine outS_of_wp cfg (fn := Tryd.f43) Tryd.func43 rfl (by simp [Tryd.f43]) ?_
      simp (disch := first | assumption | omega | (simp; done) | (simp; omega)) [-getElem?_pos, List.getElem?_cons_zero, List.getElem?_cons_succ, Tryd.f43, emptyH, g1]
      repeat' (first | (refine wpc_split _ (fun hc => ?_) (fun hc => ?_) <;> (try simp at hc)) | (refine ww_split _ (fun hc => ?_) (fun hc => ?_) <;> (try simp at hc)) | (refine wp_drawF (by kernel_rfl) ?_) | (refine wk_yldW _ ?_) | (refine layOwe _ (by kernel_rfl) ?_) | (refine owe ?_ (fun ho => ?_)) | (simp (disch := first | assumption | omega | (simp; done) | (simp; omega)) [emptyH, g1, -getElem?_pos, List.getElem?_cons_zero, List.getElem?_cons_succ]))
      all_goals first | rfl | (exfalso; omega)
    | true =>
      refine outS_of_wp cfg (fn := Tryd.f43) Tryd.func43 rfl (by simp [Tryd.f43]) ?_
      simp (disch := first | assumption | omega | (simp; done) | (simp; omega)) [-getElem?_pos, List.getElem?_cons_zero, List.getElem?_cons_succ, Tryd.f43, emptyH, g1]
      repeat' (first | (refine wpc_split _ (fun hc => ?_) (fun hc => ?_) <;> (try simp at hc)) | (refine ww_split _ (fun hc => ?_) (fun hc => ?_) <;> (try simp at hc)) | (refine wp_drawF (by kernel_rfl) ?_) | (refine wk_yldW _ ?_) | (refine layOwe _ (by kernel_rfl) ?_) | (refine owe ?_ (fun ho => ?_)) | (simp (disch := first | assumption | omega | (simp; done) | (simp; omega)) [emptyH, g1, -getElem?_pos, List.getElem?_cons_zero, List.getElem?_cons_succ]))
      all_goals first | rfl | (exfalso; simp_all; omega)
@[simp] theorem S43 (t : List UInt8) (f u s : Int) (al : List (List UInt8)) (hs : smX ⟨t, f, u, s, al⟩) (q1 : Fl) (hh : Heap) : Ci cfg (.func (.func 43) [] []) [.agg [.str t, .int .i64 f, .int .i64 u, .int .i64 s, R  q1 eS al]] hh = some (.ret (.bool (okW ⟨t, f, u, s, al⟩)), hh) :=
  Ci_K cfg rfl rfl (by simp) (by simp) (C43 t f u s al hs)
end Go.Ab
