/- Layer 22 (fuse): cells, slots' texts, comparing. -/
import Derived.Test.YtackmibobdoecaaDoorA1
import Derived.Test.YtackmibobdoecaaDoorP22
set_option linter.unusedVariables false
set_option linter.unusedSimpArgs false
set_option linter.unusedSectionVars false
set_option linter.deprecated false
namespace Go.Ab
open Go.Proofs
set_option maxRecDepth 100000
set_option maxHeartbeats 4000000
def rightC (x : Cell) : Bool := wordS x.text && decide (x.alts.length ≤ 4) && x.alts.all wordS
@[simp] theorem eC_def (x : Cell) : eC x = [.str x.text, R fl0 eS x.alts] := rfl
/-! ### The program's right -/
theorem C73r (l : List (List UInt8)) (hs : l.length < 1099511627776) (hl : ∀ x ∈ l, x.length < 1099511627776) : Kc cfg 73 [R fl0 eS l, .func (.func 45) [] []] (.ret (.int .i64 (oddAt l))) := by
  refine outS_of_wp cfg (fn := Tryd.f73) Tryd.func73 rfl (by simp [Tryd.f73]) ?_
  simp (disch := first | assumption | omega | (simp; done) | (simp; omega)) [-getElem?_pos, List.getElem?_cons_zero, List.getElem?_cons_succ, Tryd.f73]
  repeat' (first | (refine wpc_split _ (fun hc => ?_) (fun hc => ?_) <;> (try simp at hc)) | (refine ww_split _ (fun hc => ?_) (fun hc => ?_) <;> (try simp at hc)) | (refine wp_drawF (by kernel_rfl) ?_) | (refine wk_yldW _ ?_) | (refine layOwe _ (by kernel_rfl) ?_) | (refine owe ?_ (fun ho => ?_)) | (simp (disch := first | assumption | omega | (simp; done) | (simp; omega)) [-getElem?_pos, List.getElem?_cons_zero, List.getElem?_cons_succ]))
  refine wp_loopE cfg rfl (fun f0 h0 m fr h => ∃ i : Nat, fr 0 = f0 0 ∧ fr 1 = f0 1 ∧ fr 7 = f0 7 ∧ fr 8 = .int .i64 i ∧ (i + m = l.length) ∧ (∀ j, j < i → wordS (nth l j) = true)) (l.length) _ _ ⟨0, rfl, rfl, rfl, by first | rfl | (simp; done) | (simp [R]; done) | simp [R], by first | rfl | (simp; done) | omega, fun j hj => by omega⟩ ?_
  rintro Am Af Ah ⟨i, A0, A1, A7, A8, hm, ht⟩ Aih
  try simp at A0 A1 A7
  by_cases hi : i < l.length
  · have hx := hl _ (nth_mem hi)
    cases hw : wordS (nth l i) with
    | false =>
      repeat' (first | (refine wpc_split _ (fun hc => ?_) (fun hc => ?_) <;> (try simp at hc)) | (refine ww_split _ (fun hc => ?_) (fun hc => ?_) <;> (try simp at hc)) | (refine wp_drawF (by kernel_rfl) ?_) | (refine wk_yldW _ ?_) | (refine layOwe _ (by kernel_rfl) ?_) | (refine owe ?_ (fun ho => ?_)) | (simp (disch := first | assumption | omega | (simp; done) | (simp; omega)) [A0, A1, A7, A8, eS, hw, Tryd.f45, -getElem?_pos, List.getElem?_cons_zero, List.getElem?_cons_succ]))
      rw [oddAt_some hi hw ht]
    | true =>
      repeat' (first | (refine wpc_split _ (fun hc => ?_) (fun hc => ?_) <;> (try simp at hc)) | (refine ww_split _ (fun hc => ?_) (fun hc => ?_) <;> (try simp at hc)) | (refine wp_drawF (by kernel_rfl) ?_) | (refine wk_yldW _ ?_) | (refine layOwe _ (by kernel_rfl) ?_) | (refine owe ?_ (fun ho => ?_)) | (simp (disch := first | assumption | omega | (simp; done) | (simp; omega)) [A0, A1, A7, A8, eS, hw, Tryd.f45, -getElem?_pos, List.getElem?_cons_zero, List.getElem?_cons_succ]))
      exact Aih (Am - 1) _ _ (by omega) ⟨i + 1, by simp [A0, A1, A7, A8], by simp [A0, A1, A7, A8], by simp [A0, A1, A7, A8], by simp [A0, A1, A7, A8], by omega, fun j hj => by (by_cases e : j = i; (subst e; exact hw); exact ht j (by omega))⟩
  · repeat' (first | (refine wpc_split _ (fun hc => ?_) (fun hc => ?_) <;> (try simp at hc)) | (refine ww_split _ (fun hc => ?_) (fun hc => ?_) <;> (try simp at hc)) | (refine wp_drawF (by kernel_rfl) ?_) | (refine wk_yldW _ ?_) | (refine layOwe _ (by kernel_rfl) ?_) | (refine owe ?_ (fun ho => ?_)) | (simp (disch := first | assumption | omega | (simp; done) | (simp; omega)) [A0, A1, A7, A8, -getElem?_pos, List.getElem?_cons_zero, List.getElem?_cons_succ]))
    rw [oddAt_none (fun j hj => ht j (by omega))]
@[simp] theorem S73r (l : List (List UInt8)) (hs : l.length < 1099511627776) (hl : ∀ x ∈ l, x.length < 1099511627776) (q1 : Fl) (hh : Heap) :
    Ci cfg (.func (.func 73) [] []) [R q1 eS l, .func (.func 45) [] []] hh = some (.ret (.int .i64 (oddAt l)), hh) :=
  Ci_K cfg rfl rfl (by simp) (by simp) (C73r l hs hl)
theorem C47r (l : List (List UInt8)) (hs : l.length < 1099511627776) (hl : ∀ x ∈ l, x.length < 1099511627776) : Kc cfg 47 [R fl0 eS l, .func (.func 45) [] []] (.ret (.bool (!(l.all wordS)))) := by
  have ho := oddAt_neg l
  refine outS_of_wp cfg (fn := Tryd.f47) Tryd.func47 rfl (by simp [Tryd.f47]) ?_
  simp (disch := first | assumption | omega | (simp; done) | (simp; omega)) [-getElem?_pos, List.getElem?_cons_zero, List.getElem?_cons_succ, Tryd.f47, ho]
  repeat' (first | (refine wpc_split _ (fun hc => ?_) (fun hc => ?_) <;> (try simp at hc)) | (refine ww_split _ (fun hc => ?_) (fun hc => ?_) <;> (try simp at hc)) | (refine wp_drawF (by kernel_rfl) ?_) | (refine wk_yldW _ ?_) | (refine layOwe _ (by kernel_rfl) ?_) | (refine owe ?_ (fun ho => ?_)) | (simp (disch := first | assumption | omega | (simp; done) | (simp; omega)) [ho, -getElem?_pos, List.getElem?_cons_zero, List.getElem?_cons_succ]))
@[simp] theorem S47r (l : List (List UInt8)) (hs : l.length < 1099511627776) (hl : ∀ x ∈ l, x.length < 1099511627776) (q1 : Fl) (hh : Heap) :
    Ci cfg (.func (.func 47) [] []) [R q1 eS l, .func (.func 45) [] []] hh = some (.ret (.bool (!(l.all wordS))), hh) :=
  Ci_K cfg rfl rfl (by simp) (by simp) (C47r l hs hl)
theorem C28 (t : List UInt8) (al : List (List UInt8)) (hs : smC ⟨t, al⟩) : Kc cfg 28 [.agg [.str t, R fl0 eS al]] (.ret (.bool (rightC ⟨t, al⟩))) := by
  obtain ⟨h1, h2, h3⟩ := hs
  simp only at h1 h2 h3
  have hr : rightC ⟨t, al⟩ = (wordS t && decide (al.length ≤ 4) && al.all wordS) := rfl
  rw [hr]
  cases hw : wordS t with
  | false =>
    refine outS_of_wp cfg (fn := Tryd.f28) Tryd.func28 rfl (by simp [Tryd.f28]) ?_
    simp (disch := first | assumption | omega | (simp; done) | (simp; omega)) [-getElem?_pos, List.getElem?_cons_zero, List.getElem?_cons_succ, Tryd.f28, hw, emptyH]
    repeat' (first | (refine wpc_split _ (fun hc => ?_) (fun hc => ?_) <;> (try simp at hc)) | (refine ww_split _ (fun hc => ?_) (fun hc => ?_) <;> (try simp at hc)) | (refine wp_drawF (by kernel_rfl) ?_) | (refine wk_yldW _ ?_) | (refine layOwe _ (by kernel_rfl) ?_) | (refine owe ?_ (fun ho => ?_)) | (simp (disch := first | assumption | omega | (simp; done) | (simp; omega)) [hw, emptyH, -getElem?_pos, List.getElem?_cons_zero, List.getElem?_cons_succ]))
  | true =>
    by_cases hl : al.length ≤ 4
    · have hl2 : (al.length : Int) ≤ 4 := by omega
      refine outS_of_wp cfg (fn := Tryd.f28) Tryd.func28 rfl (by simp [Tryd.f28]) ?_
      simp (disch := first | assumption | omega | (simp; done) | (simp; omega)) [-getElem?_pos, List.getElem?_cons_zero, List.getElem?_cons_succ, Tryd.f28, hw, emptyH, hl2]
      repeat' (first | (refine wpc_split _ (fun hc => ?_) (fun hc => ?_) <;> (try simp at hc)) | (refine ww_split _ (fun hc => ?_) (fun hc => ?_) <;> (try simp at hc)) | (refine wp_drawF (by kernel_rfl) ?_) | (refine wk_yldW _ ?_) | (refine layOwe _ (by kernel_rfl) ?_) | (refine owe ?_ (fun ho => ?_)) | (simp (disch := first | assumption | omega | (simp; done) | (simp; omega)) [hw, emptyH, hl2, -getElem?_pos, List.getElem?_cons_zero, List.getElem?_cons_succ]))
      simp [hl]
    · have hl2 : ¬ (al.length : Int) ≤ 4 := by omega
      refine outS_of_wp cfg (fn := Tryd.f28) Tryd.func28 rfl (by simp [Tryd.f28]) ?_
      simp (disch := first | assumption | omega | (simp; done) | (simp; omega)) [-getElem?_pos, List.getElem?_cons_zero, List.getElem?_cons_succ, Tryd.f28, hw, emptyH, hl2]
      repeat' (first | (refine wpc_split _ (fun hc => ?_) (fun hc => ?_) <;> (try simp at hc)) | (refine ww_split _ (fun hc => ?_) (fun hc => ?_) <;> (try simp at hc)) | (refine wp_drawF (by kernel_rfl) ?_) | (refine wk_yldW _ ?_) | (refine layOwe _ (by kernel_rfl) ?_) | (refine owe ?_ (fun ho => ?_)) | (simp (disch := first | assumption | omega | (simp; done) | (simp; omega)) [hw, emptyH, hl2, -getElem?_pos, List.getElem?_cons_zero, List.getElem?_cons_succ]))
      simp [hl]
@[simp] theorem S28 (t : List UInt8) (al : List (List UInt8)) (hs : smC ⟨t, al⟩) (q1 : Fl) (hh : Heap) : Ci cfg (.func (.func 28) [] []) [.agg [.str t, R  q1 eS al]] hh = some (.ret (.bool (rightC ⟨t, al⟩)), hh) :=
  Ci_K cfg rfl rfl (by simp) (by simp) (C28 t al hs)
theorem C31 (t : List UInt8) (al : List (List UInt8)) (hs : smC ⟨t, al⟩) : Kc cfg 31 [.agg [.str t, R fl0 eS al]] (.ret (.bool (rightC ⟨t, al⟩))) := by
  obtain ⟨h1, h2, h3⟩ := hs
  simp only at h1 h2 h3
  have hr : rightC ⟨t, al⟩ = (wordS t && decide (al.length ≤ 4) && al.all wordS) := rfl
  cases hw : wordS t with
  | false =>
    rw [hr, hw]
    refine outS_of_wp cfg (fn := Tryd.f31) Tryd.func31 rfl (by simp [Tryd.f31]) ?_
    simp (disch := first | assumption | omega | (simp; done) | (simp; omega)) [-getElem?_pos, List.getElem?_cons_zero, List.getElem?_cons_succ, Tryd.f31, hw, emptyH]
    repeat' (first | (refine wpc_split _ (fun hc => ?_) (fun hc => ?_) <;> (try simp at hc)) | (refine ww_split _ (fun hc => ?_) (fun hc => ?_) <;> (try simp at hc)) | (refine wp_drawF (by kernel_rfl) ?_) | (refine wk_yldW _ ?_) | (refine layOwe _ (by kernel_rfl) ?_) | (refine owe ?_ (fun ho => ?_)) | (simp (disch := first | assumption | omega | (simp; done) | (simp; omega)) [hw, emptyH, -getElem?_pos, List.getElem?_cons_zero, List.getElem?_cons_succ]))
  | true =>
    by_cases hl : al.length ≤ 4
    · rw [hw, decide_eq_true hl] at hr
      simp only [Bool.true_and] at hr
      generalize hR : rightC ⟨t, al⟩ = r at *
      refine outS_of_wp cfg (fn := Tryd.f31) Tryd.func31 rfl (by simp [Tryd.f31]) ?_
      simp (disch := first | assumption | omega | (simp; done) | (simp; omega)) [-getElem?_pos, List.getElem?_cons_zero, List.getElem?_cons_succ, Tryd.f31, hw, emptyH]
      repeat' (first | (refine wpc_split _ (fun hc => ?_) (fun hc => ?_) <;> (try simp at hc)) | (refine ww_split _ (fun hc => ?_) (fun hc => ?_) <;> (try simp at hc)) | (refine wp_drawF (by kernel_rfl) ?_) | (refine wk_yldW _ ?_) | (refine layOwe _ (by kernel_rfl) ?_) | (refine owe ?_ (fun ho => ?_)) | (simp (disch := first | assumption | omega | (simp; done) | (simp; omega)) [hw, emptyH, -getElem?_pos, List.getElem?_cons_zero, List.getElem?_cons_succ]))
      all_goals try (exfalso; omega)
      refine wp_loopE cfg rfl (fun f0 h0 m fr h => ∃ i : Nat, fr 1 = f0 1 ∧ fr 3 = .int .i64 i ∧ h.bs = h0.bs ∧ (i + m = al.length) ∧ (∀ j, j < i → wordS (nth al j) = true)) (al.length) _ _ ⟨0, rfl, by first | rfl | (simp; done) | (simp [R]; done) | simp [R], rfl, by first | rfl | (simp; done) | omega, fun j hj => by omega⟩ ?_
      rintro Am Af Ah ⟨i, A1, A3, Abs, hm, ht⟩ Aih
      try simp at A1 Abs
      by_cases hi : i < al.length
      · have hx := h3 _ (nth_mem hi)
        cases hw2 : wordS (nth al i) with
        | false =>
          rw [not_all hi hw2] at hr
          repeat' (first | (refine wpc_split _ (fun hc => ?_) (fun hc => ?_) <;> (try simp at hc)) | (refine ww_split _ (fun hc => ?_) (fun hc => ?_) <;> (try simp at hc)) | (refine wp_drawF (by kernel_rfl) ?_) | (refine wk_yldW _ ?_) | (refine layOwe _ (by kernel_rfl) ?_) | (refine owe ?_ (fun ho => ?_)) | (simp (disch := first | assumption | omega | (simp; done) | (simp; omega)) [A1, A3, Abs, eS, hw2, -getElem?_pos, List.getElem?_cons_zero, List.getElem?_cons_succ]))
          rw [hr]
        | true =>
          repeat' (first | (refine wpc_split _ (fun hc => ?_) (fun hc => ?_) <;> (try simp at hc)) | (refine ww_split _ (fun hc => ?_) (fun hc => ?_) <;> (try simp at hc)) | (refine wp_drawF (by kernel_rfl) ?_) | (refine wk_yldW _ ?_) | (refine layOwe _ (by kernel_rfl) ?_) | (refine owe ?_ (fun ho => ?_)) | (simp (disch := first | assumption | omega | (simp; done) | (simp; omega)) [A1, A3, Abs, eS, hw2, -getElem?_pos, List.getElem?_cons_zero, List.getElem?_cons_succ]))
          exact Aih (Am - 1) _ _ (by omega) ⟨i + 1, by simp [A1, A3, Abs], by simp [A1, A3, Abs], by simp [A1, A3, Abs], by omega, fun j hj => by (by_cases e : j = i; (subst e; exact hw2); exact ht j (by omega))⟩
      · rw [all_of_nth (fun j hj => ht j (by omega))] at hr
        repeat' (first | (refine wpc_split _ (fun hc => ?_) (fun hc => ?_) <;> (try simp at hc)) | (refine ww_split _ (fun hc => ?_) (fun hc => ?_) <;> (try simp at hc)) | (refine wp_drawF (by kernel_rfl) ?_) | (refine wk_yldW _ ?_) | (refine layOwe _ (by kernel_rfl) ?_) | (refine owe ?_ (fun ho => ?_)) | (simp (disch := first | assumption | omega | (simp; done) | (simp; omega)) [A1, A3, Abs, -getElem?_pos, List.getElem?_cons_zero, List.getElem?_cons_succ]))
        rw [hr]
    · rw [hr, hw, decide_eq_false hl]
      refine outS_of_wp cfg (fn := Tryd.f31) Tryd.func31 rfl (by simp [Tryd.f31]) ?_
      simp (disch := first | assumption | omega | (simp; done) | (simp; omega)) [-getElem?_pos, List.getElem?_cons_zero, List.getElem?_cons_succ, Tryd.f31, hw, emptyH]
      repeat' (first | (refine wpc_split _ (fun hc => ?_) (fun hc => ?_) <;> (try simp at hc)) | (refine ww_split _ (fun hc => ?_) (fun hc => ?_) <;> (try simp at hc)) | (refine wp_drawF (by kernel_rfl) ?_) | (refine wk_yldW _ ?_) | (refine layOwe _ (by kernel_rfl) ?_) | (refine owe ?_ (fun ho => ?_)) | (simp (disch := first | assumption | omega | (simp; done) | (simp; omega)) [hw, emptyH, -getElem?_pos, List.getElem?_cons_zero, List.getElem?_cons_succ]))
      all_goals first | rfl | (exfalso; omega)
@[simp] theorem S31 (t : List UInt8) (al : List (List UInt8)) (hs : smC ⟨t, al⟩) (q1 : Fl) (hh : Heap) : Ci cfg (.func (.func 31) [] []) [.agg [.str t, R  q1 eS al]] hh = some (.ret (.bool (rightC ⟨t, al⟩)), hh) :=
  Ci_K cfg rfl rfl (by simp) (by simp) (C31 t al hs)
def emptyC (x : Cell) : Bool := decide (x.text = []) && decide (x.alts = [])
theorem C20 (t : List UInt8) (al : List (List UInt8)) : Kc cfg 20 [.agg [.str t, R fl0 eS al]] (.ret (.bool (emptyC ⟨t, al⟩))) := by
  have hr : emptyC ⟨t, al⟩ = (decide (t = []) && decide (al = [])) := rfl
  rw [hr]
  refine outS_of_wp cfg (fn := Tryd.f20) Tryd.func20 rfl (by simp [Tryd.f20]) ?_
  simp (disch := first | assumption | omega | (simp; done) | (simp; omega)) [-getElem?_pos, List.getElem?_cons_zero, List.getElem?_cons_succ, Tryd.f20, emptyH]
  repeat' (first | (refine wpc_split _ (fun hc => ?_) (fun hc => ?_) <;> (try simp at hc)) | (refine ww_split _ (fun hc => ?_) (fun hc => ?_) <;> (try simp at hc)) | (refine wp_drawF (by kernel_rfl) ?_) | (refine wk_yldW _ ?_) | (refine layOwe _ (by kernel_rfl) ?_) | (refine owe ?_ (fun ho => ?_)) | (simp (disch := first | assumption | omega | (simp; done) | (simp; omega)) [emptyH, -getElem?_pos, List.getElem?_cons_zero, List.getElem?_cons_succ]))
  all_goals first | grind | (cases al <;> simp_all <;> omega)
@[simp] theorem S20 (t : List UInt8) (al : List (List UInt8)) (q1 : Fl) (hh : Heap) : Ci cfg (.func (.func 20) [] []) [.agg [.str t, R  q1 eS al]] hh = some (.ret (.bool (emptyC ⟨t, al⟩)), hh) :=
  Ci_K cfg rfl rfl (by simp) (by simp) (C20 t al)
/-! ### The text of a slot -/
theorem C22 (x : List Cell) (hs : smS x) : Kc cfg 22 [R fl0 eC x] (.ret (.str (textS x))) := by
  have hs1 := hs.1
  generalize hT : textS x = T
  refine outS_of_wp cfg (fn := Tryd.f22) Tryd.func22 rfl (by simp [Tryd.f22]) ?_
  simp (disch := first | assumption | omega | (simp; done) | (simp; omega)) [-getElem?_pos, List.getElem?_cons_zero, List.getElem?_cons_succ, Tryd.f22]
  repeat' (first | (refine wpc_split _ (fun hc => ?_) (fun hc => ?_) <;> (try simp at hc)) | (refine ww_split _ (fun hc => ?_) (fun hc => ?_) <;> (try simp at hc)) | (refine wp_drawF (by kernel_rfl) ?_) | (refine wk_yldW _ ?_) | (refine layOwe _ (by kernel_rfl) ?_) | (refine owe ?_ (fun ho => ?_)) | (simp (disch := first | assumption | omega | (simp; done) | (simp; omega)) [-getElem?_pos, List.getElem?_cons_zero, List.getElem?_cons_succ]))
  refine wp_loopE cfg rfl (fun f0 h0 m fr h => ∃ i : Nat, fr 0 = f0 0 ∧ fr 3 = .int .i64 i ∧ (i + m = x.length) ∧ (∀ j, j < i → (nth x j).text = [])) (x.length) _ _ ⟨0, rfl, by first | rfl | (simp; done) | (simp [R]; done) | simp [R], by first | rfl | (simp; done) | omega, fun j hj => by omega⟩ ?_
  rintro Am Af Ah ⟨i, A0, A3, hm, ht⟩ Aih
  try simp at A0
  by_cases hi : i < x.length
  · by_cases hw : (nth x i).text = []
    · repeat' (first | (refine wpc_split _ (fun hc => ?_) (fun hc => ?_) <;> (try simp at hc)) | (refine ww_split _ (fun hc => ?_) (fun hc => ?_) <;> (try simp at hc)) | (refine wp_drawF (by kernel_rfl) ?_) | (refine wk_yldW _ ?_) | (refine layOwe _ (by kernel_rfl) ?_) | (refine owe ?_ (fun ho => ?_)) | (simp (disch := first | assumption | omega | (simp; done) | (simp; omega)) [A0, A3, hw, -getElem?_pos, List.getElem?_cons_zero, List.getElem?_cons_succ]))
      exact Aih (Am - 1) _ _ (by omega) ⟨i + 1, by simp [A0, A3], by simp [A0, A3], by omega, fun j hj => by (by_cases e : j = i; (subst e; exact hw); exact ht j (by omega))⟩
    · have := textS_stop hi hw ht
      rw [hT] at this
      repeat' (first | (refine wpc_split _ (fun hc => ?_) (fun hc => ?_) <;> (try simp at hc)) | (refine ww_split _ (fun hc => ?_) (fun hc => ?_) <;> (try simp at hc)) | (refine wp_drawF (by kernel_rfl) ?_) | (refine wk_yldW _ ?_) | (refine layOwe _ (by kernel_rfl) ?_) | (refine owe ?_ (fun ho => ?_)) | (simp (disch := first | assumption | omega | (simp; done) | (simp; omega)) [A0, A3, hw, -getElem?_pos, List.getElem?_cons_zero, List.getElem?_cons_succ]))
      rw [this]
  · have := textS_none (x := x) (fun j hj => ht j (by omega))
    rw [hT] at this
    repeat' (first | (refine wpc_split _ (fun hc => ?_) (fun hc => ?_) <;> (try simp at hc)) | (refine ww_split _ (fun hc => ?_) (fun hc => ?_) <;> (try simp at hc)) | (refine wp_drawF (by kernel_rfl) ?_) | (refine wk_yldW _ ?_) | (refine layOwe _ (by kernel_rfl) ?_) | (refine owe ?_ (fun ho => ?_)) | (simp (disch := first | assumption | omega | (simp; done) | (simp; omega)) [A0, A3, -getElem?_pos, List.getElem?_cons_zero, List.getElem?_cons_succ]))
    rw [this]
@[simp] theorem S22 (x : List Cell) (hs : smS x) (q1 : Fl) (hh : Heap) : Ci cfg (.func (.func 22) [] []) [R  q1 eC x] hh = some (.ret (.str (textS x)), hh) :=
  Ci_K cfg rfl rfl (by simp) (by simp) (C22 x hs)
theorem C30 (x : List Cell) (hs : smS x) : Kc cfg 30 [R fl0 eC x] (.ret (.str (textS x))) := by
  have hs1 := hs.1
  generalize hT : textS x = T
  refine outS_of_wp cfg (fn := Tryd.f30) Tryd.func30 rfl (by simp [Tryd.f30]) ?_
  simp (disch := first | assumption | omega | (simp; done) | (simp; omega)) [-getElem?_pos, List.getElem?_cons_zero, List.getElem?_cons_succ, Tryd.f30, emptyH]
  repeat' (first | (refine wpc_split _ (fun hc => ?_) (fun hc => ?_) <;> (try simp at hc)) | (refine ww_split _ (fun hc => ?_) (fun hc => ?_) <;> (try simp at hc)) | (refine wp_drawF (by kernel_rfl) ?_) | (refine wk_yldW _ ?_) | (refine layOwe _ (by kernel_rfl) ?_) | (refine owe ?_ (fun ho => ?_)) | (simp (disch := first | assumption | omega | (simp; done) | (simp; omega)) [emptyH, -getElem?_pos, List.getElem?_cons_zero, List.getElem?_cons_succ]))
  refine wp_loopE cfg rfl (fun f0 h0 m fr h => ∃ i : Nat, ∃ AX : List Blk, fr 0 = f0 0 ∧ fr 5 = f0 5 ∧ fr 6 = f0 6 ∧ fr 7 = .int .i64 i ∧ h.bs = h0.bs ++ AX ∧ (i + m = x.length) ∧ (∀ j, j < i → (nth x j).text = [])) (x.length) _ _ ⟨0, [], rfl, rfl, rfl, by first | rfl | (simp; done) | (simp [R]; done) | simp [R], by simp, by first | rfl | (simp; done) | omega, fun j hj => by omega⟩ ?_
  rintro Am Af Ah ⟨i, AX, A0, A5, A6, A7, Abs, hm, ht⟩ Aih
  try simp at A0 A5 A6 Abs
  by_cases hi : i < x.length
  · by_cases hw : (nth x i).text = []
    · repeat' (first | (refine wpc_split _ (fun hc => ?_) (fun hc => ?_) <;> (try simp at hc)) | (refine ww_split _ (fun hc => ?_) (fun hc => ?_) <;> (try simp at hc)) | (refine wp_drawF (by kernel_rfl) ?_) | (refine wk_yldW _ ?_) | (refine layOwe _ (by kernel_rfl) ?_) | (refine owe ?_ (fun ho => ?_)) | (simp (disch := first | assumption | omega | (simp; done) | (simp; omega)) [A0, A5, A6, A7, Abs, hw, -getElem?_pos, List.getElem?_cons_zero, List.getElem?_cons_succ]))
      exact Aih (Am - 1) _ _ (by omega) ⟨i + 1, AX ++ [.cells (eC (nth x i))], by simp [A0, A5, A6, A7, Abs, hw], by simp [A0, A5, A6, A7, Abs, hw], by simp [A0, A5, A6, A7, Abs, hw], by simp [A0, A5, A6, A7, Abs, hw], by simp [A0, A5, A6, A7, Abs, hw], by omega, fun j hj => by (by_cases e : j = i; (subst e; exact hw); exact ht j (by omega))⟩
    · have := textS_stop hi hw ht
      rw [hT] at this
      repeat' (first | (refine wpc_split _ (fun hc => ?_) (fun hc => ?_) <;> (try simp at hc)) | (refine ww_split _ (fun hc => ?_) (fun hc => ?_) <;> (try simp at hc)) | (refine wp_drawF (by kernel_rfl) ?_) | (refine wk_yldW _ ?_) | (refine layOwe _ (by kernel_rfl) ?_) | (refine owe ?_ (fun ho => ?_)) | (simp (disch := first | assumption | omega | (simp; done) | (simp; omega)) [A0, A5, A6, A7, Abs, hw, -getElem?_pos, List.getElem?_cons_zero, List.getElem?_cons_succ]))
      rw [this]
  · have := textS_none (x := x) (fun j hj => ht j (by omega))
    rw [hT] at this
    repeat' (first | (refine wpc_split _ (fun hc => ?_) (fun hc => ?_) <;> (try simp at hc)) | (refine ww_split _ (fun hc => ?_) (fun hc => ?_) <;> (try simp at hc)) | (refine wp_drawF (by kernel_rfl) ?_) | (refine wk_yldW _ ?_) | (refine layOwe _ (by kernel_rfl) ?_) | (refine owe ?_ (fun ho => ?_)) | (simp (disch := first | assumption | omega | (simp; done) | (simp; omega)) [A0, A5, A6, A7, Abs, -getElem?_pos, List.getElem?_cons_zero, List.getElem?_cons_succ]))
    rw [this]
@[simp] theorem S30 (x : List Cell) (hs : smS x) (q1 : Fl) (hh : Heap) : Ci cfg (.func (.func 30) [] []) [R  q1 eC x] hh = some (.ret (.str (textS x)), hh) :=
  Ci_K cfg rfl rfl (by simp) (by simp) (C30 x hs)
end Go.Ab
