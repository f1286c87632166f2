/- Layer 32 (sentences): the streams' words. -/
import Derived.Test.YtfgkjpfdpcjciaaDoorW1
import Derived.Test.YtfgkjpfdpcjciaaDoorP22c
set_option linter.unusedVariables false
set_option linter.unusedSimpArgs false
set_option linter.unusedSectionVars false
set_option linter.deprecated false
namespace Go.Ab
open Go.Proofs
set_option maxRecDepth 100000
set_option maxHeartbeats 4000000
theorem C63 (l : List (List UInt8)) (s : List UInt8) (hs : l.length < 1099511627776) : Kc cfg 63 [R fl0 eS l, .str s] (.ret (.int .i64 (ixW l s))) := by
  refine outS_of_wp cfg (fn := Tryd.f63) Tryd.func63 rfl (by simp [Tryd.f63]) ?_
  simp (disch := first | assumption | omega | (simp; done) | (simp; omega)) [-getElem?_pos, List.getElem?_cons_zero, List.getElem?_cons_succ, Tryd.f63]
  repeat' (first | (refine wpc_split _ (fun hc => ?_) (fun hc => ?_) <;> (try simp at hc)) | (refine ww_split _ (fun hc => ?_) (fun hc => ?_) <;> (try simp at hc)) | (refine wp_drawF (by kernel_rfl) ?_) | (refine wk_yldW _ ?_) | (refine layOwe _ (by kernel_rfl) ?_) | (refine owe ?_ (fun ho => ?_)) | (simp (disch := first | assumption | omega | (simp; done) | (simp; omega)) [-getElem?_pos, List.getElem?_cons_zero, List.getElem?_cons_succ]))
  refine wp_loopE cfg rfl (fun f0 h0 m fr h => ∃ i : Nat, fr 0 = f0 0 ∧ fr 1 = f0 1 ∧ fr 7 = f0 7 ∧ fr 8 = .int .i64 i ∧ (i + m = l.length) ∧ (∀ j, j < i → ¬ nth l j = s)) (l.length) _ _ ⟨0, rfl, rfl, rfl, by first | rfl | (simp; done) | (simp [R]; done) | simp [R], by first | rfl | (simp; done) | omega, fun j hj => by omega⟩ ?_
  rintro Am Af Ah ⟨i, A0, A1, A7, A8, hm, ht⟩ Aih
  try simp at A0 A1 A7
  by_cases hi : i < l.length
  · by_cases hw : nth l i = s
    · have hw2 : s = nth l i := hw.symm
      repeat' (first | (refine wpc_split _ (fun hc => ?_) (fun hc => ?_) <;> (try simp at hc)) | (refine ww_split _ (fun hc => ?_) (fun hc => ?_) <;> (try simp at hc)) | (refine wp_drawF (by kernel_rfl) ?_) | (refine wk_yldW _ ?_) | (refine layOwe _ (by kernel_rfl) ?_) | (refine owe ?_ (fun ho => ?_)) | (simp (disch := first | assumption | omega | (simp; done) | (simp; omega)) [A0, A1, A7, A8, eS, hw, -getElem?_pos, List.getElem?_cons_zero, List.getElem?_cons_succ]))
      rw [ixW_some hi hw ht]
    · have hw2 : ¬ s = nth l i := fun e => hw e.symm
      repeat' (first | (refine wpc_split _ (fun hc => ?_) (fun hc => ?_) <;> (try simp at hc)) | (refine ww_split _ (fun hc => ?_) (fun hc => ?_) <;> (try simp at hc)) | (refine wp_drawF (by kernel_rfl) ?_) | (refine wk_yldW _ ?_) | (refine layOwe _ (by kernel_rfl) ?_) | (refine owe ?_ (fun ho => ?_)) | (simp (disch := first | assumption | omega | (simp; done) | (simp; omega)) [A0, A1, A7, A8, eS, hw2, hw, -getElem?_pos, List.getElem?_cons_zero, List.getElem?_cons_succ]))
      exact Aih (Am - 1) _ _ (by omega) ⟨i + 1, by simp [A0, A1, A7, A8], by simp [A0, A1, A7, A8], by simp [A0, A1, A7, A8], by simp [A0, A1, A7, A8], by omega, fun j hj => by (by_cases e : j = i; (subst e; exact hw); exact ht j (by omega))⟩
  · repeat' (first | (refine wpc_split _ (fun hc => ?_) (fun hc => ?_) <;> (try simp at hc)) | (refine ww_split _ (fun hc => ?_) (fun hc => ?_) <;> (try simp at hc)) | (refine wp_drawF (by kernel_rfl) ?_) | (refine wk_yldW _ ?_) | (refine layOwe _ (by kernel_rfl) ?_) | (refine owe ?_ (fun ho => ?_)) | (simp (disch := first | assumption | omega | (simp; done) | (simp; omega)) [A0, A1, A7, A8, -getElem?_pos, List.getElem?_cons_zero, List.getElem?_cons_succ]))
    rw [ixW_none (fun j hj => ht j (by omega))]
@[simp] theorem S63 (l : List (List UInt8)) (s : List UInt8) (hs : l.length < 1099511627776) (q1 : Fl) (hh : Heap) : Ci cfg (.func (.func 63) [] []) [R  q1 eS l, .str s] hh = some (.ret (.int .i64 (ixW l s)), hh) :=
  Ci_K cfg rfl rfl (by simp) (by simp) (C63 l s hs)
theorem C54 (l : List (List UInt8)) (s : List UInt8) (hs : l.length < 1099511627776) : Kc cfg 54 [R fl0 eS l, .str s] (.ret (.bool (decide (s ∈ l)))) := by
  have ho := ixW_mem l s
  refine outS_of_wp cfg (fn := Tryd.f54) Tryd.func54 rfl (by simp [Tryd.f54]) ?_
  simp (disch := first | assumption | omega | (simp; done) | (simp; omega)) [-getElem?_pos, List.getElem?_cons_zero, List.getElem?_cons_succ, Tryd.f54, ho]
  repeat' (first | (refine wpc_split _ (fun hc => ?_) (fun hc => ?_) <;> (try simp at hc)) | (refine ww_split _ (fun hc => ?_) (fun hc => ?_) <;> (try simp at hc)) | (refine wp_drawF (by kernel_rfl) ?_) | (refine wk_yldW _ ?_) | (refine layOwe _ (by kernel_rfl) ?_) | (refine owe ?_ (fun ho => ?_)) | (simp (disch := first | assumption | omega | (simp; done) | (simp; omega)) [ho, -getElem?_pos, List.getElem?_cons_zero, List.getElem?_cons_succ]))
@[simp] theorem S54 (l : List (List UInt8)) (s : List UInt8) (hs : l.length < 1099511627776) (q1 : Fl) (hh : Heap) : Ci cfg (.func (.func 54) [] []) [R  q1 eS l, .str s] hh = some (.ret (.bool (decide (s ∈ l))), hh) :=
  Ci_K cfg rfl rfl (by simp) (by simp) (C54 l s hs)
theorem C37 (w : List Wrd) (hs : smXs w) : Kc cfg 37 [R fl0 eW w] (.ret (.bool (okL w))) := by
  have hs1 := hs.1
  generalize hF : okL w = F
  refine outS_of_wp cfg (fn := Tryd.f37) Tryd.func37 rfl (by simp [Tryd.f37]) ?_
  simp (disch := first | assumption | omega | (simp; done) | (simp; omega)) [-getElem?_pos, List.getElem?_cons_zero, List.getElem?_cons_succ, Tryd.f37]
  repeat' (first | (refine wpc_split _ (fun hc => ?_) (fun hc => ?_) <;> (try simp at hc)) | (refine ww_split _ (fun hc => ?_) (fun hc => ?_) <;> (try simp at hc)) | (refine wp_drawF (by kernel_rfl) ?_) | (refine wk_yldW _ ?_) | (refine layOwe _ (by kernel_rfl) ?_) | (refine owe ?_ (fun ho => ?_)) | (simp (disch := first | assumption | omega | (simp; done) | (simp; omega)) [-getElem?_pos, List.getElem?_cons_zero, List.getElem?_cons_succ]))
  refine wp_loopE cfg rfl (fun f0 h0 m fr h => ∃ i : Nat, fr 0 = f0 0 ∧ fr 3 = .int .i64 i ∧ h.bs = h0.bs ∧ (i + m = w.length) ∧ (∀ j, j < i → okI w j = true)) (w.length) _ _ ⟨0, rfl, by first | rfl | (simp; done) | (simp [R]; done) | simp [R], rfl, by first | rfl | (simp; done) | omega, fun j hj => by omega⟩ ?_
  rintro Am Af Ah ⟨i, A0, A3, Abs, hm, ht⟩ Aih
  try simp at A0 Abs
  by_cases hi : i < w.length
  · have hx := smXs_nth hs hi
    have hd : okI w i = (okW (nth w i) && (decide (i = 0) || decide ((nth w (i - 1)).frm ≤ (nth w i).frm))) := rfl
    have he : okW ⟨(nth w i).text, (nth w i).frm, (nth w i).til, (nth w i).sp, (nth w i).alts⟩ = okW (nth w i) := rfl
    cases g1 : okW (nth w i) with
    | false =>
      rw [g1, Bool.false_and] at hd
      rw [okL_f hi hd] at hF
      subst hF
      rw [g1] at he
      repeat' (first | (refine wpc_split _ (fun hc => ?_) (fun hc => ?_) <;> (try simp at hc)) | (refine ww_split _ (fun hc => ?_) (fun hc => ?_) <;> (try simp at hc)) | (refine wp_drawF (by kernel_rfl) ?_) | (refine wk_yldW _ ?_) | (refine layOwe _ (by kernel_rfl) ?_) | (refine owe ?_ (fun ho => ?_)) | (simp (disch := first | assumption | omega | (simp; done) | (simp; omega)) [A0, A3, Abs, he, hx, -getElem?_pos, List.getElem?_cons_zero, List.getElem?_cons_succ]))
    | true =>
      rw [g1] at he
      by_cases g2 : i = 0
      · subst g2
        rw [g1] at hd
        repeat' (first | (refine wpc_split _ (fun hc => ?_) (fun hc => ?_) <;> (try simp at hc)) | (refine ww_split _ (fun hc => ?_) (fun hc => ?_) <;> (try simp at hc)) | (refine wp_drawF (by kernel_rfl) ?_) | (refine wk_yldW _ ?_) | (refine layOwe _ (by kernel_rfl) ?_) | (refine owe ?_ (fun ho => ?_)) | (simp (disch := first | assumption | omega | (simp; done) | (simp; omega)) [A0, A3, Abs, he, hx, -getElem?_pos, List.getElem?_cons_zero, List.getElem?_cons_succ]))
        all_goals try (exfalso; omega)
        exact Aih (Am - 1) _ _ (by omega) ⟨1, by simp [A0, A3, Abs], by simp [A0, A3, Abs], by simp [A0, A3, Abs], by omega, fun j hj => by (by_cases e : j = 0; (subst e; exact hd); omega)⟩
      · obtain ⟨k, rfl⟩ : ∃ k, i = k + 1 := ⟨i - 1, by omega⟩
        have hk : k < w.length := by omega
        by_cases g3 : (nth w k).frm ≤ (nth w (k + 1)).frm
        · have hd2 : okI w (k + 1) = true := by rw [hd, g1]; simp [g3]
          repeat' (first | (refine wpc_split _ (fun hc => ?_) (fun hc => ?_) <;> (try simp at hc)) | (refine ww_split _ (fun hc => ?_) (fun hc => ?_) <;> (try simp at hc)) | (refine wp_drawF (by kernel_rfl) ?_) | (refine wk_yldW _ ?_) | (refine layOwe _ (by kernel_rfl) ?_) | (refine owe ?_ (fun ho => ?_)) | (simp (disch := first | assumption | omega | (simp; done) | (simp; omega)) [A0, A3, Abs, he, hx, hk, g3, -getElem?_pos, List.getElem?_cons_zero, List.getElem?_cons_succ]))
          all_goals try (exfalso; omega)
          exact Aih (Am - 1) _ _ (by omega) ⟨k + 1 + 1, by simp [A0, A3, Abs], by simp [A0, A3, Abs], by simp [A0, A3, Abs], by omega, fun j hj => by (by_cases e : j = k + 1; (subst e; exact hd2); exact ht j (by omega))⟩
        · have hd2 : okI w (k + 1) = false := by rw [hd, g1]; simp; omega
          rw [okL_f hi hd2] at hF
          subst hF
          repeat' (first | (refine wpc_split _ (fun hc => ?_) (fun hc => ?_) <;> (try simp at hc)) | (refine ww_split _ (fun hc => ?_) (fun hc => ?_) <;> (try simp at hc)) | (refine wp_drawF (by kernel_rfl) ?_) | (refine wk_yldW _ ?_) | (refine layOwe _ (by kernel_rfl) ?_) | (refine owe ?_ (fun ho => ?_)) | (simp (disch := first | assumption | omega | (simp; done) | (simp; omega)) [A0, A3, Abs, he, hx, hk, g3, -getElem?_pos, List.getElem?_cons_zero, List.getElem?_cons_succ]))
          all_goals first | rfl | (exfalso; omega)
  · rw [okL_t (fun j hj => ht j (by omega))] at hF
    subst hF
    repeat' (first | (refine wpc_split _ (fun hc => ?_) (fun hc => ?_) <;> (try simp at hc)) | (refine ww_split _ (fun hc => ?_) (fun hc => ?_) <;> (try simp at hc)) | (refine wp_drawF (by kernel_rfl) ?_) | (refine wk_yldW _ ?_) | (refine layOwe _ (by kernel_rfl) ?_) | (refine owe ?_ (fun ho => ?_)) | (simp (disch := first | assumption | omega | (simp; done) | (simp; omega)) [A0, A3, Abs, -getElem?_pos, List.getElem?_cons_zero, List.getElem?_cons_succ]))
@[simp] theorem S37 (w : List Wrd) (hs : smXs w) (q1 : Fl) (hh : Heap) : Ci cfg (.func (.func 37) [] []) [R  q1 eW w] hh = some (.ret (.bool (okL w)), hh) :=
  Ci_K cfg rfl rfl (by simp) (by simp) (C37 w hs)
theorem C22 (w : List Wrd) (gap most : Int) (hs : smXs w) : Kc cfg 22 [R fl0 eW w, .int .i64 gap, .int .i64 most] (.ret (.int .i64 (erS w gap most))) := by
  have hs1 := hs.1
  by_cases h1 : 4096 < w.length
  · rw [erS_many h1]
    refine outS_of_wp cfg (fn := Tryd.f22) Tryd.func22 rfl (by simp [Tryd.f22]) ?_
    simp (disch := first | assumption | omega | (simp; done) | (simp; omega)) [-getElem?_pos, List.getElem?_cons_zero, List.getElem?_cons_succ, Tryd.f22, hs]
    repeat' (first | (refine wpc_split _ (fun hc => ?_) (fun hc => ?_) <;> (try simp at hc)) | (refine ww_split _ (fun hc => ?_) (fun hc => ?_) <;> (try simp at hc)) | (refine wp_drawF (by kernel_rfl) ?_) | (refine wk_yldW _ ?_) | (refine layOwe _ (by kernel_rfl) ?_) | (refine owe ?_ (fun ho => ?_)) | (simp (disch := first | assumption | omega | (simp; done) | (simp; omega)) [hs, -getElem?_pos, List.getElem?_cons_zero, List.getElem?_cons_succ]))
    all_goals first | rfl | (exfalso; omega)
  · cases h2 : okL w with
    | false =>
      rw [erS_bad h1 h2]
      refine outS_of_wp cfg (fn := Tryd.f22) Tryd.func22 rfl (by simp [Tryd.f22]) ?_
      simp (disch := first | assumption | omega | (simp; done) | (simp; omega)) [-getElem?_pos, List.getElem?_cons_zero, List.getElem?_cons_succ, Tryd.f22, hs, h2, emptyH]
      repeat' (first | (refine wpc_split _ (fun hc => ?_) (fun hc => ?_) <;> (try simp at hc)) | (refine ww_split _ (fun hc => ?_) (fun hc => ?_) <;> (try simp at hc)) | (refine wp_drawF (by kernel_rfl) ?_) | (refine wk_yldW _ ?_) | (refine layOwe _ (by kernel_rfl) ?_) | (refine owe ?_ (fun ho => ?_)) | (simp (disch := first | assumption | omega | (simp; done) | (simp; omega)) [hs, h2, emptyH, -getElem?_pos, List.getElem?_cons_zero, List.getElem?_cons_succ]))
      all_goals first | rfl | (exfalso; omega)
    | true =>
      rw [erS_ok h1 h2]
      generalize hF : (if 1 ≤ gap ∧ gap ≤ 1073741824 ∧ 1 ≤ most ∧ most ≤ 16 then (0 : Int) else 1) = F
      refine outS_of_wp cfg (fn := Tryd.f22) Tryd.func22 rfl (by simp [Tryd.f22]) ?_
      simp (disch := first | assumption | omega | (simp; done) | (simp; omega)) [-getElem?_pos, List.getElem?_cons_zero, List.getElem?_cons_succ, Tryd.f22, hs, h2, emptyH]
      repeat' (first | (refine wpc_split _ (fun hc => ?_) (fun hc => ?_) <;> (try simp at hc)) | (refine ww_split _ (fun hc => ?_) (fun hc => ?_) <;> (try simp at hc)) | (refine wp_drawF (by kernel_rfl) ?_) | (refine wk_yldW _ ?_) | (refine layOwe _ (by kernel_rfl) ?_) | (refine owe ?_ (fun ho => ?_)) | (simp (disch := first | assumption | omega | (simp; done) | (simp; omega)) [hs, h2, emptyH, -getElem?_pos, List.getElem?_cons_zero, List.getElem?_cons_succ]))
      all_goals first | (exfalso; omega) | (rw [← hF, if_pos (by omega)]) | (rw [← hF, if_neg (by omega)])
@[simp] theorem S22 (w : List Wrd) (gap most : Int) (hs : smXs w) (q1 : Fl) (hh : Heap) : Ci cfg (.func (.func 22) [] []) [R  q1 eW w, .int .i64 gap, .int .i64 most] hh = some (.ret (.int .i64 (erS w gap most)), hh) :=
  Ci_K cfg rfl rfl (by simp) (by simp) (C22 w gap most hs)
theorem C45 (t : List UInt8) (f u s : Int) (al : List (List UInt8)) (hs : smX ⟨t, f, u, s, al⟩) : Kc cfg 45 [.agg [.str t, .int .i64 f, .int .i64 u, .int .i64 s, R fl0 eS al]] (.ret (.bool (okW ⟨t, f, u, s, al⟩))) := by
  obtain ⟨h1, h2, h3⟩ := hs
  simp only at h1 h2 h3
  have hd : okW ⟨t, f, u, s, al⟩ = ((wordS t && decide (0 ≤ f) && decide (f < u) && decide (u < 1099511627775) && decide (0 ≤ s) && decide (s < 64) && decide (al.length ≤ 4)) && okAs t al) := rfl
  by_cases g0 : (wordS t = true ∧ 0 ≤ f ∧ f < u ∧ u < 1099511627775 ∧ 0 ≤ s ∧ s < 64 ∧ al.length ≤ 4)
  · obtain ⟨g1, g2, g3, g4, g5, g6, g7⟩ := g0
    rw [g1, decide_eq_true g2, decide_eq_true g3, decide_eq_true g4, decide_eq_true g5, decide_eq_true g6, decide_eq_true g7] at hd
    simp only [Bool.true_and] at hd
    generalize hF : okW ⟨t, f, u, s, al⟩ = F at *
    refine outS_of_wp cfg (fn := Tryd.f45) Tryd.func45 rfl (by simp [Tryd.f45]) ?_
    simp (disch := first | assumption | omega | (simp; done) | (simp; omega)) [-getElem?_pos, List.getElem?_cons_zero, List.getElem?_cons_succ, Tryd.f45, emptyH, Tryd.f56, Tryd.f67]
    repeat' (first | (refine wpc_split _ (fun hc => ?_) (fun hc => ?_) <;> (try simp at hc)) | (refine ww_split _ (fun hc => ?_) (fun hc => ?_) <;> (try simp at hc)) | (refine wp_drawF (by kernel_rfl) ?_) | (refine wk_yldW _ ?_) | (refine layOwe _ (by kernel_rfl) ?_) | (refine owe ?_ (fun ho => ?_)) | (simp (disch := first | assumption | omega | (simp; done) | (simp; omega)) [emptyH, g1, g2, g3, g4, g5, g6, g7, Tryd.f56, Tryd.f67, -getElem?_pos, List.getElem?_cons_zero, List.getElem?_cons_succ]))
    all_goals try (exfalso; omega)
    refine wp_loopE cfg rfl (fun f0 h0 m fr h => ∃ i : Nat, ∃ fl : Fl, fr 0 = f0 0 ∧ fr 1 = f0 1 ∧ fr 7 = f0 7 ∧ fr 8 = .int .i64 i ∧ (h.bs = h0.bs.set 1 (.cells [R fl eS (t :: al.take i)])) ∧ (App h.ts 1 fl) ∧ (i + m = al.length) ∧ (∀ j, j < i → okA t al j = true)) (al.length) _ _ ⟨0, (false, true, none), rfl, rfl, rfl, by first | rfl | (simp; done) | (simp [R]; done) | simp [R], rfl, App.full _ _ _, by first | rfl | (simp; done) | omega, fun j hj => by omega⟩ ?_
    rintro Am Af Ah ⟨i, fl, A0, A1, A7, A8, hbs, hap, hm, ht⟩ Aih
    try simp at A0 A1 A7
    simp at hbs
    by_cases hi : i < al.length
    · have hx := h3 _ (nth_mem hi)
      have hod : okA t al i = (wordS (nth al i) && !decide (nth al i = t) && !decide (nth al i ∈ al.take i)) := rfl
      have hll : (al.take i).length ≤ i := by simp; omega
      have htk : al.take (i + 1) = al.take i ++ [nth al i] := nth_take hi
      by_cases k2 : nth al i ∈ t :: al.take i
      · have hw2 : okA t al i = false := by
          rw [hod]
          rcases List.mem_cons.1 k2 with e | e
          · rw [decide_eq_true e]; simp
          · rw [decide_eq_true e]; simp
        have := okAs_f hi hw2
        rw [this] at hd
        subst hd
        repeat' (first | (refine wpc_split _ (fun hc => ?_) (fun hc => ?_) <;> (try simp at hc)) | (refine ww_split _ (fun hc => ?_) (fun hc => ?_) <;> (try simp at hc)) | (refine wp_drawF (by kernel_rfl) ?_) | (refine wk_yldW _ ?_) | (refine layOwe _ (by kernel_rfl) ?_) | (refine owe ?_ (fun ho => ?_)) | (simp (disch := first | assumption | omega | (simp; done) | (simp; omega)) [A0, A1, A7, A8, hbs, hap, eS, k2, hx, fold_S1, Tryd.f53, -getElem?_pos, List.getElem?_cons_zero, List.getElem?_cons_succ]))
        all_goals first | rfl | (exfalso; omega)
      · have k3 : ¬ nth al i = t := fun e => k2 (by rw [e]; exact List.mem_cons_self)
        have k4 : ¬ nth al i ∈ al.take i := fun e => k2 (List.mem_cons_of_mem _ e)
        rw [decide_eq_false k3, decide_eq_false k4] at hod
        cases k1 : wordS (nth al i) with
        | false =>
          rw [k1] at hod
          have := okAs_f hi (by rw [hod]; rfl)
          rw [this] at hd
          subst hd
          repeat' (first | (refine wpc_split _ (fun hc => ?_) (fun hc => ?_) <;> (try simp at hc)) | (refine ww_split _ (fun hc => ?_) (fun hc => ?_) <;> (try simp at hc)) | (refine wp_drawF (by kernel_rfl) ?_) | (refine wk_yldW _ ?_) | (refine layOwe _ (by kernel_rfl) ?_) | (refine owe ?_ (fun ho => ?_)) | (simp (disch := first | assumption | omega | (simp; done) | (simp; omega)) [A0, A1, A7, A8, hbs, hap, eS, k1, k2, hx, fold_S1, Tryd.f53, -getElem?_pos, List.getElem?_cons_zero, List.getElem?_cons_succ]))
          all_goals first | rfl | (exfalso; omega)
        | true =>
          rw [k1] at hod
          repeat' (first | (refine wpc_split _ (fun hc => ?_) (fun hc => ?_) <;> (try simp at hc)) | (refine ww_split _ (fun hc => ?_) (fun hc => ?_) <;> (try simp at hc)) | (refine wp_drawF (by kernel_rfl) ?_) | (refine wk_yldW _ ?_) | (refine layOwe _ (by kernel_rfl) ?_) | (refine owe ?_ (fun ho => ?_)) | (simp (disch := first | assumption | omega | (simp; done) | (simp; omega)) [A0, A1, A7, A8, hbs, hap, eS, k1, k2, hx, fold_S1, Tryd.f53, -getElem?_pos, List.getElem?_cons_zero, List.getElem?_cons_succ]))
          all_goals try (exfalso; omega)
          exact Aih (Am - 1) _ _ (by omega) ⟨i + 1, _, by simp [A0, A1, A7, A8, htk], by simp [A0, A1, A7, A8, htk], by simp [A0, A1, A7, A8, htk], by simp [A0, A1, A7, A8, htk], (by simp [htk]), App.new _ _ _, by omega, fun j hj => by (by_cases e : j = i; (subst e; exact hod); exact ht j (by omega))⟩
    · have := okAs_t (t := t) (al := al) (fun j hj => ht j (by omega))
      rw [this] at hd
      subst hd
      repeat' (first | (refine wpc_split _ (fun hc => ?_) (fun hc => ?_) <;> (try simp at hc)) | (refine ww_split _ (fun hc => ?_) (fun hc => ?_) <;> (try simp at hc)) | (refine wp_drawF (by kernel_rfl) ?_) | (refine wk_yldW _ ?_) | (refine layOwe _ (by kernel_rfl) ?_) | (refine owe ?_ (fun ho => ?_)) | (simp (disch := first | assumption | omega | (simp; done) | (simp; omega)) [A0, A1, A7, A8, -getElem?_pos, List.getElem?_cons_zero, List.getElem?_cons_succ]))
  · have hh : (wordS t && decide (0 ≤ f) && decide (f < u) && decide (u < 1099511627775) && decide (0 ≤ s) && decide (s < 64) && decide (al.length ≤ 4)) = false := by
      rw [Bool.eq_false_iff]; intro e
      simp only [Bool.and_eq_true, decide_eq_true_eq] at e
      obtain ⟨⟨⟨⟨⟨⟨a1, a2⟩, a3⟩, a4⟩, a5⟩, a6⟩, a7⟩ := e
      exact g0 ⟨a1, a2, a3, a4, a5, a6, a7⟩
    rw [hd, hh, Bool.false_and]
    cases g1 : wordS t with
    | false =>
      refine outS_of_wp cfg (fn := Tryd.f45) Tryd.func45 rfl (by simp [Tryd.f45]) ?_
      simp (disch := first | assumption | omega | (simp; done) | (simp; omega)) [-getElem?_pos, List.getElem?_cons_zero, List.getElem?_cons_succ, Tryd.f45, emptyH, g1]
      repeat' (first | (refine wpc_split _ (fun hc => ?_) (fun hc => ?_) <;> (try simp at hc)) | (refine ww_split _ (fun hc => ?_) (fun hc => ?_) <;> (try simp at hc)) | (refine wp_drawF (by kernel_rfl) ?_) | (refine wk_yldW _ ?_) | (refine layOwe _ (by kernel_rfl) ?_) | (refine owe ?_ (fun ho => ?_)) | (simp (disch := first | assumption | omega | (simp; done) | (simp; omega)) [emptyH, g1, -getElem?_pos, List.getElem?_cons_zero, List.getElem?_cons_succ]))
      all_goals first | rfl | (exfalso; omega)
    | true =>
      refine outS_of_wp cfg (fn := Tryd.f45) Tryd.func45 rfl (by simp [Tryd.f45]) ?_
      simp (disch := first | assumption | omega | (simp; done) | (simp; omega)) [-getElem?_pos, List.getElem?_cons_zero, List.getElem?_cons_succ, Tryd.f45, emptyH, g1]
      repeat' (first | (refine wpc_split _ (fun hc => ?_) (fun hc => ?_) <;> (try simp at hc)) | (refine ww_split _ (fun hc => ?_) (fun hc => ?_) <;> (try simp at hc)) | (refine wp_drawF (by kernel_rfl) ?_) | (refine wk_yldW _ ?_) | (refine layOwe _ (by kernel_rfl) ?_) | (refine owe ?_ (fun ho => ?_)) | (simp (disch := first | assumption | omega | (simp; done) | (simp; omega)) [emptyH, g1, -getElem?_pos, List.getElem?_cons_zero, List.getElem?_cons_succ]))
      all_goals first | rfl | (exfalso; simp_all; omega)
@[simp] theorem S45 (t : List UInt8) (f u s : Int) (al : List (List UInt8)) (hs : smX ⟨t, f, u, s, al⟩) (q1 : Fl) (hh : Heap) : Ci cfg (.func (.func 45) [] []) [.agg [.str t, .int .i64 f, .int .i64 u, .int .i64 s, R  q1 eS al]] hh = some (.ret (.bool (okW ⟨t, f, u, s, al⟩)), hh) :=
  Ci_K cfg rfl rfl (by simp) (by simp) (C45 t f u s al hs)
end Go.Ab
