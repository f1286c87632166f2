/- Layer 22 (fuse): rows that are long, cells that are odd. -/
import Derived.Test.YtackmibobdoecaaDoorH1
import Derived.Test.YtackmibobdoecaaDoorP22c
set_option linter.unusedVariables false
set_option linter.unusedSimpArgs false
set_option linter.unusedSectionVars false
set_option linter.deprecated false
namespace Go.Ab
open Go.Proofs
set_option maxRecDepth 100000
set_option maxHeartbeats 4000000
def longP (k : Nat) (r : List Cell) : Bool := decide (k < r.length)
theorem longP_f {k : Nat} {r : List Cell} (h : longP k r = false) : r.length ≤ k := by simpa [longP] using h
theorem longP_t {k : Nat} {r : List Cell} (h : longP k r = true) : k < r.length := by simpa [longP] using h
theorem C44a (l : List (List Cell)) (hs : smL l) : Kc cfg 44 [R fl0 (eR eC) l, .func (.func 26) [] []] (.ret (.int .i64 (atP (longP 64) l))) := by
  have hs1 := hs.1
  refine outS_of_wp cfg (fn := Tryd.f44) Tryd.func44 rfl (by simp [Tryd.f44]) ?_
  simp (disch := first | assumption | omega | (simp; done) | (simp; omega)) [-getElem?_pos, List.getElem?_cons_zero, List.getElem?_cons_succ, Tryd.f44]
  repeat' (first | (refine wpc_split _ (fun hc => ?_) (fun hc => ?_) <;> (try simp at hc)) | (refine ww_split _ (fun hc => ?_) (fun hc => ?_) <;> (try simp at hc)) | (refine wp_drawF (by kernel_rfl) ?_) | (refine wk_yldW _ ?_) | (refine layOwe _ (by kernel_rfl) ?_) | (refine owe ?_ (fun ho => ?_)) | (simp (disch := first | assumption | omega | (simp; done) | (simp; omega)) [-getElem?_pos, List.getElem?_cons_zero, List.getElem?_cons_succ]))
  refine wp_loopE cfg rfl (fun f0 h0 m fr h => ∃ i : Nat, fr 0 = f0 0 ∧ fr 1 = f0 1 ∧ fr 7 = f0 7 ∧ fr 8 = .int .i64 i ∧ (i + m = l.length) ∧ (∀ j, j < i → longP 64 (nth l j) = false)) (l.length) _ _ ⟨0, rfl, rfl, rfl, by first | rfl | (simp; done) | (simp [R]; done) | simp [R], by first | rfl | (simp; done) | omega, fun j hj => by omega⟩ ?_
  rintro Am Af Ah ⟨i, A0, A1, A7, A8, hm, ht⟩ Aih
  try simp at A0 A1 A7
  by_cases hi : i < l.length
  · have hx := smL_nth hs hi
    have hx1 := hx.1
    cases hw : longP 64 (nth l i) with
    | true =>
      have hl := longP_t hw
      rw [atP_some hi hw ht]
      repeat' (first | (refine wpc_split _ (fun hc => ?_) (fun hc => ?_) <;> (try simp at hc)) | (refine ww_split _ (fun hc => ?_) (fun hc => ?_) <;> (try simp at hc)) | (refine wp_drawF (by kernel_rfl) ?_) | (refine wk_yldW _ ?_) | (refine layOwe _ (by kernel_rfl) ?_) | (refine owe ?_ (fun ho => ?_)) | (simp (disch := first | assumption | omega | (simp; done) | (simp; omega)) [A0, A1, A7, A8, eR, Tryd.f26, -getElem?_pos, List.getElem?_cons_zero, List.getElem?_cons_succ]))
      all_goals first | rfl | (exfalso; omega)
    | false =>
      have hl := longP_f hw
      repeat' (first | (refine wpc_split _ (fun hc => ?_) (fun hc => ?_) <;> (try simp at hc)) | (refine ww_split _ (fun hc => ?_) (fun hc => ?_) <;> (try simp at hc)) | (refine wp_drawF (by kernel_rfl) ?_) | (refine wk_yldW _ ?_) | (refine layOwe _ (by kernel_rfl) ?_) | (refine owe ?_ (fun ho => ?_)) | (simp (disch := first | assumption | omega | (simp; done) | (simp; omega)) [A0, A1, A7, A8, eR, Tryd.f26, -getElem?_pos, List.getElem?_cons_zero, List.getElem?_cons_succ]))
      all_goals try (exfalso; omega)
      exact Aih (Am - 1) _ _ (by omega) ⟨i + 1, by simp [A0, A1, A7, A8], by simp [A0, A1, A7, A8], by simp [A0, A1, A7, A8], by simp [A0, A1, A7, A8], by omega, fun j hj => by (by_cases e : j = i; (subst e; exact hw); exact ht j (by omega))⟩
  · rw [atP_none (fun j hj => ht j (by omega))]
    repeat' (first | (refine wpc_split _ (fun hc => ?_) (fun hc => ?_) <;> (try simp at hc)) | (refine ww_split _ (fun hc => ?_) (fun hc => ?_) <;> (try simp at hc)) | (refine wp_drawF (by kernel_rfl) ?_) | (refine wk_yldW _ ?_) | (refine layOwe _ (by kernel_rfl) ?_) | (refine owe ?_ (fun ho => ?_)) | (simp (disch := first | assumption | omega | (simp; done) | (simp; omega)) [A0, A1, A7, A8, -getElem?_pos, List.getElem?_cons_zero, List.getElem?_cons_succ]))
    all_goals first | rfl | (exfalso; omega)
@[simp] theorem S44a (l : List (List Cell)) (hs : smL l) (q1 : Fl) (hh : Heap) :
    Ci cfg (.func (.func 44) [] []) [R q1 (eR eC) l, .func (.func 26) [] []] hh = some (.ret (.int .i64 (atP (longP 64) l)), hh) :=
  Ci_K cfg rfl rfl (by simp) (by simp) (C44a l hs)
theorem C27a (l : List (List Cell)) (hs : smL l) : Kc cfg 27 [R fl0 (eR eC) l, .func (.func 26) [] []] (.ret (.bool (l.any (longP 64)))) := by
  have ho := atP_any (longP 64) l
  refine outS_of_wp cfg (fn := Tryd.f27) Tryd.func27 rfl (by simp [Tryd.f27]) ?_
  simp (disch := first | assumption | omega | (simp; done) | (simp; omega)) [-getElem?_pos, List.getElem?_cons_zero, List.getElem?_cons_succ, Tryd.f27, hs]
  repeat' (first | (refine wpc_split _ (fun hc => ?_) (fun hc => ?_) <;> (try simp at hc)) | (refine ww_split _ (fun hc => ?_) (fun hc => ?_) <;> (try simp at hc)) | (refine wp_drawF (by kernel_rfl) ?_) | (refine wk_yldW _ ?_) | (refine layOwe _ (by kernel_rfl) ?_) | (refine owe ?_ (fun ho => ?_)) | (simp (disch := first | assumption | omega | (simp; done) | (simp; omega)) [ho, hs, -getElem?_pos, List.getElem?_cons_zero, List.getElem?_cons_succ]))
@[simp] theorem S27a (l : List (List Cell)) (hs : smL l) (q1 : Fl) (hh : Heap) :
    Ci cfg (.func (.func 27) [] []) [R q1 (eR eC) l, .func (.func 26) [] []] hh = some (.ret (.bool (l.any (longP 64))), hh) :=
  Ci_K cfg rfl rfl (by simp) (by simp) (C27a l hs)
theorem C44b (l : List (List Cell)) (hs : smL l) : Kc cfg 44 [R fl0 (eR eC) l, .func (.func 33) [] []] (.ret (.int .i64 (atP (longP 16) l))) := by
  have hs1 := hs.1
  refine outS_of_wp cfg (fn := Tryd.f44) Tryd.func44 rfl (by simp [Tryd.f44]) ?_
  simp (disch := first | assumption | omega | (simp; done) | (simp; omega)) [-getElem?_pos, List.getElem?_cons_zero, List.getElem?_cons_succ, Tryd.f44]
  repeat' (first | (refine wpc_split _ (fun hc => ?_) (fun hc => ?_) <;> (try simp at hc)) | (refine ww_split _ (fun hc => ?_) (fun hc => ?_) <;> (try simp at hc)) | (refine wp_drawF (by kernel_rfl) ?_) | (refine wk_yldW _ ?_) | (refine layOwe _ (by kernel_rfl) ?_) | (refine owe ?_ (fun ho => ?_)) | (simp (disch := first | assumption | omega | (simp; done) | (simp; omega)) [-getElem?_pos, List.getElem?_cons_zero, List.getElem?_cons_succ]))
  refine wp_loopE cfg rfl (fun f0 h0 m fr h => ∃ i : Nat, fr 0 = f0 0 ∧ fr 1 = f0 1 ∧ fr 7 = f0 7 ∧ fr 8 = .int .i64 i ∧ (i + m = l.length) ∧ (∀ j, j < i → longP 16 (nth l j) = false)) (l.length) _ _ ⟨0, rfl, rfl, rfl, by first | rfl | (simp; done) | (simp [R]; done) | simp [R], by first | rfl | (simp; done) | omega, fun j hj => by omega⟩ ?_
  rintro Am Af Ah ⟨i, A0, A1, A7, A8, hm, ht⟩ Aih
  try simp at A0 A1 A7
  by_cases hi : i < l.length
  · have hx := smL_nth hs hi
    have hx1 := hx.1
    cases hw : longP 16 (nth l i) with
    | true =>
      have hl := longP_t hw
      rw [atP_some hi hw ht]
      repeat' (first | (refine wpc_split _ (fun hc => ?_) (fun hc => ?_) <;> (try simp at hc)) | (refine ww_split _ (fun hc => ?_) (fun hc => ?_) <;> (try simp at hc)) | (refine wp_drawF (by kernel_rfl) ?_) | (refine wk_yldW _ ?_) | (refine layOwe _ (by kernel_rfl) ?_) | (refine owe ?_ (fun ho => ?_)) | (simp (disch := first | assumption | omega | (simp; done) | (simp; omega)) [A0, A1, A7, A8, eR, Tryd.f33, -getElem?_pos, List.getElem?_cons_zero, List.getElem?_cons_succ]))
      all_goals first | rfl | (exfalso; omega)
    | false =>
      have hl := longP_f hw
      repeat' (first | (refine wpc_split _ (fun hc => ?_) (fun hc => ?_) <;> (try simp at hc)) | (refine ww_split _ (fun hc => ?_) (fun hc => ?_) <;> (try simp at hc)) | (refine wp_drawF (by kernel_rfl) ?_) | (refine wk_yldW _ ?_) | (refine layOwe _ (by kernel_rfl) ?_) | (refine owe ?_ (fun ho => ?_)) | (simp (disch := first | assumption | omega | (simp; done) | (simp; omega)) [A0, A1, A7, A8, eR, Tryd.f33, -getElem?_pos, List.getElem?_cons_zero, List.getElem?_cons_succ]))
      all_goals try (exfalso; omega)
      exact Aih (Am - 1) _ _ (by omega) ⟨i + 1, by simp [A0, A1, A7, A8], by simp [A0, A1, A7, A8], by simp [A0, A1, A7, A8], by simp [A0, A1, A7, A8], by omega, fun j hj => by (by_cases e : j = i; (subst e; exact hw); exact ht j (by omega))⟩
  · rw [atP_none (fun j hj => ht j (by omega))]
    repeat' (first | (refine wpc_split _ (fun hc => ?_) (fun hc => ?_) <;> (try simp at hc)) | (refine ww_split _ (fun hc => ?_) (fun hc => ?_) <;> (try simp at hc)) | (refine wp_drawF (by kernel_rfl) ?_) | (refine wk_yldW _ ?_) | (refine layOwe _ (by kernel_rfl) ?_) | (refine owe ?_ (fun ho => ?_)) | (simp (disch := first | assumption | omega | (simp; done) | (simp; omega)) [A0, A1, A7, A8, -getElem?_pos, List.getElem?_cons_zero, List.getElem?_cons_succ]))
    all_goals first | rfl | (exfalso; omega)
@[simp] theorem S44b (l : List (List Cell)) (hs : smL l) (q1 : Fl) (hh : Heap) :
    Ci cfg (.func (.func 44) [] []) [R q1 (eR eC) l, .func (.func 33) [] []] hh = some (.ret (.int .i64 (atP (longP 16) l)), hh) :=
  Ci_K cfg rfl rfl (by simp) (by simp) (C44b l hs)
theorem C27b (l : List (List Cell)) (hs : smL l) : Kc cfg 27 [R fl0 (eR eC) l, .func (.func 33) [] []] (.ret (.bool (l.any (longP 16)))) := by
  have ho := atP_any (longP 16) l
  refine outS_of_wp cfg (fn := Tryd.f27) Tryd.func27 rfl (by simp [Tryd.f27]) ?_
  simp (disch := first | assumption | omega | (simp; done) | (simp; omega)) [-getElem?_pos, List.getElem?_cons_zero, List.getElem?_cons_succ, Tryd.f27, hs]
  repeat' (first | (refine wpc_split _ (fun hc => ?_) (fun hc => ?_) <;> (try simp at hc)) | (refine ww_split _ (fun hc => ?_) (fun hc => ?_) <;> (try simp at hc)) | (refine wp_drawF (by kernel_rfl) ?_) | (refine wk_yldW _ ?_) | (refine layOwe _ (by kernel_rfl) ?_) | (refine owe ?_ (fun ho => ?_)) | (simp (disch := first | assumption | omega | (simp; done) | (simp; omega)) [ho, hs, -getElem?_pos, List.getElem?_cons_zero, List.getElem?_cons_succ]))
@[simp] theorem S27b (l : List (List Cell)) (hs : smL l) (q1 : Fl) (hh : Heap) :
    Ci cfg (.func (.func 27) [] []) [R q1 (eR eC) l, .func (.func 33) [] []] hh = some (.ret (.bool (l.any (longP 16))), hh) :=
  Ci_K cfg rfl rfl (by simp) (by simp) (C27b l hs)
/-- a cell that is neither empty nor right -/
def oddP (c : Cell) : Bool := (decide (c.text ≠ []) || decide (c.alts ≠ [])) && !rightC c
theorem C59o (l : List Cell) (hs : smS l) : Kc cfg 59 [R fl0 eC l, .func (.func 34) [] []] (.ret (.int .i64 (atP oddP l))) := by
  have hs1 := hs.1
  refine outS_of_wp cfg (fn := Tryd.f59) Tryd.func59 rfl (by simp [Tryd.f59]) ?_
  simp (disch := first | assumption | omega | (simp; done) | (simp; omega)) [-getElem?_pos, List.getElem?_cons_zero, List.getElem?_cons_succ, Tryd.f59]
  repeat' (first | (refine wpc_split _ (fun hc => ?_) (fun hc => ?_) <;> (try simp at hc)) | (refine ww_split _ (fun hc => ?_) (fun hc => ?_) <;> (try simp at hc)) | (refine wp_drawF (by kernel_rfl) ?_) | (refine wk_yldW _ ?_) | (refine layOwe _ (by kernel_rfl) ?_) | (refine owe ?_ (fun ho => ?_)) | (simp (disch := first | assumption | omega | (simp; done) | (simp; omega)) [-getElem?_pos, List.getElem?_cons_zero, List.getElem?_cons_succ]))
  refine wp_loopE cfg rfl (fun f0 h0 m fr h => ∃ i : Nat, ∃ AX : List Blk, fr 0 = f0 0 ∧ fr 1 = f0 1 ∧ fr 7 = f0 7 ∧ fr 8 = .int .i64 i ∧ h.bs = h0.bs ++ AX ∧ (i + m = l.length) ∧ (∀ j, j < i → oddP (nth l j) = false)) (l.length) _ _ ⟨0, [], rfl, rfl, rfl, by first | rfl | (simp; done) | (simp [R]; done) | simp [R], by simp, by first | rfl | (simp; done) | omega, fun j hj => by omega⟩ ?_
  rintro Am Af Ah ⟨i, AX, A0, A1, A7, A8, Abs, hm, ht⟩ Aih
  try simp at A0 A1 A7 Abs
  by_cases hi : i < l.length
  · have hx := smS_nth hs hi
    have hx1 := hx.2.1
    have hr : rightC ⟨(nth l i).text, (nth l i).alts⟩ = rightC (nth l i) := rfl
    have hr0 : rightC ⟨[], (nth l i).alts⟩ = false := by simp [rightC, wordS]
    have hx0 : smC ⟨[], (nth l i).alts⟩ := ⟨by simp, hx.2.1, hx.2.2⟩
    cases hw : oddP (nth l i) with
    | true =>
      rw [atP_some hi hw ht]
      by_cases h1 : (nth l i).text = []
      · by_cases h2 : (nth l i).alts = []
        · simp [oddP, h1, h2] at hw
        · have h3 : 0 < (nth l i).alts.length := List.length_pos_iff.2 h2
          repeat' (first | (refine wpc_split _ (fun hc => ?_) (fun hc => ?_) <;> (try simp at hc)) | (refine ww_split _ (fun hc => ?_) (fun hc => ?_) <;> (try simp at hc)) | (refine wp_drawF (by kernel_rfl) ?_) | (refine wk_yldW _ ?_) | (refine layOwe _ (by kernel_rfl) ?_) | (refine owe ?_ (fun ho => ?_)) | (simp (disch := first | assumption | omega | (simp; done) | (simp; omega)) [A0, A1, A7, A8, Abs, hr0, h1, h3, hx0, Tryd.f34, -getElem?_pos, List.getElem?_cons_zero, List.getElem?_cons_succ]))
          all_goals first | rfl | (exfalso; omega)
      · have h3 : rightC (nth l i) = false := by simpa [oddP, h1] using hw
        repeat' (first | (refine wpc_split _ (fun hc => ?_) (fun hc => ?_) <;> (try simp at hc)) | (refine ww_split _ (fun hc => ?_) (fun hc => ?_) <;> (try simp at hc)) | (refine wp_drawF (by kernel_rfl) ?_) | (refine wk_yldW _ ?_) | (refine layOwe _ (by kernel_rfl) ?_) | (refine owe ?_ (fun ho => ?_)) | (simp (disch := first | assumption | omega | (simp; done) | (simp; omega)) [A0, A1, A7, A8, Abs, hr, h1, h3, hx, Tryd.f34, -getElem?_pos, List.getElem?_cons_zero, List.getElem?_cons_succ]))
        all_goals first | rfl | (exfalso; omega)
    | false =>
      by_cases h1 : (nth l i).text = []
      · by_cases h2 : (nth l i).alts = []
        · repeat' (first | (refine wpc_split _ (fun hc => ?_) (fun hc => ?_) <;> (try simp at hc)) | (refine ww_split _ (fun hc => ?_) (fun hc => ?_) <;> (try simp at hc)) | (refine wp_drawF (by kernel_rfl) ?_) | (refine wk_yldW _ ?_) | (refine layOwe _ (by kernel_rfl) ?_) | (refine owe ?_ (fun ho => ?_)) | (simp (disch := first | assumption | omega | (simp; done) | (simp; omega)) [A0, A1, A7, A8, Abs, hr, h1, h2, hx, Tryd.f34, -getElem?_pos, List.getElem?_cons_zero, List.getElem?_cons_succ]))
          all_goals try (exfalso; omega)
          exact Aih (Am - 1) _ _ (by omega) ⟨i + 1, AX ++ [.cells (eC (nth l i))], by simp [A0, A1, A7, A8, Abs, h1, h2], by simp [A0, A1, A7, A8, Abs, h1, h2], by simp [A0, A1, A7, A8, Abs, h1, h2], by simp [A0, A1, A7, A8, Abs, h1, h2], by simp [A0, A1, A7, A8, Abs, h1, h2], by omega, fun j hj => by (by_cases e : j = i; (subst e; exact hw); exact ht j (by omega))⟩
        · exfalso
          have h3 : rightC (nth l i) = false := by
            rw [← hr, h1]; exact hr0
          simp [oddP, h1, h2, h3] at hw
      · have h3 : rightC (nth l i) = true := by simpa [oddP, h1] using hw
        repeat' (first | (refine wpc_split _ (fun hc => ?_) (fun hc => ?_) <;> (try simp at hc)) | (refine ww_split _ (fun hc => ?_) (fun hc => ?_) <;> (try simp at hc)) | (refine wp_drawF (by kernel_rfl) ?_) | (refine wk_yldW _ ?_) | (refine layOwe _ (by kernel_rfl) ?_) | (refine owe ?_ (fun ho => ?_)) | (simp (disch := first | assumption | omega | (simp; done) | (simp; omega)) [A0, A1, A7, A8, Abs, hr, h1, h3, hx, Tryd.f34, -getElem?_pos, List.getElem?_cons_zero, List.getElem?_cons_succ]))
        all_goals try (exfalso; omega)
        exact Aih (Am - 1) _ _ (by omega) ⟨i + 1, AX ++ [.cells (eC (nth l i))], by simp [A0, A1, A7, A8, Abs], by simp [A0, A1, A7, A8, Abs], by simp [A0, A1, A7, A8, Abs], by simp [A0, A1, A7, A8, Abs], by simp [A0, A1, A7, A8, Abs], by omega, fun j hj => by (by_cases e : j = i; (subst e; exact hw); exact ht j (by omega))⟩
  · rw [atP_none (fun j hj => ht j (by omega))]
    repeat' (first | (refine wpc_split _ (fun hc => ?_) (fun hc => ?_) <;> (try simp at hc)) | (refine ww_split _ (fun hc => ?_) (fun hc => ?_) <;> (try simp at hc)) | (refine wp_drawF (by kernel_rfl) ?_) | (refine wk_yldW _ ?_) | (refine layOwe _ (by kernel_rfl) ?_) | (refine owe ?_ (fun ho => ?_)) | (simp (disch := first | assumption | omega | (simp; done) | (simp; omega)) [A0, A1, A7, A8, Abs, -getElem?_pos, List.getElem?_cons_zero, List.getElem?_cons_succ]))
    all_goals first | rfl | (exfalso; omega)
@[simp] theorem S59o (l : List Cell) (hs : smS l) (q1 : Fl) (hh : Heap) :
    Ci cfg (.func (.func 59) [] []) [R q1 eC l, .func (.func 34) [] []] hh = some (.ret (.int .i64 (atP oddP l)), hh) :=
  Ci_K cfg rfl rfl (by simp) (by simp) (C59o l hs)
theorem C35o (l : List Cell) (hs : smS l) : Kc cfg 35 [R fl0 eC l, .func (.func 34) [] []] (.ret (.bool (l.any oddP))) := by
  have ho := atP_any oddP l
  refine outS_of_wp cfg (fn := Tryd.f35) Tryd.func35 rfl (by simp [Tryd.f35]) ?_
  simp (disch := first | assumption | omega | (simp; done) | (simp; omega)) [-getElem?_pos, List.getElem?_cons_zero, List.getElem?_cons_succ, Tryd.f35, hs]
  repeat' (first | (refine wpc_split _ (fun hc => ?_) (fun hc => ?_) <;> (try simp at hc)) | (refine ww_split _ (fun hc => ?_) (fun hc => ?_) <;> (try simp at hc)) | (refine wp_drawF (by kernel_rfl) ?_) | (refine wk_yldW _ ?_) | (refine layOwe _ (by kernel_rfl) ?_) | (refine owe ?_ (fun ho => ?_)) | (simp (disch := first | assumption | omega | (simp; done) | (simp; omega)) [ho, hs, -getElem?_pos, List.getElem?_cons_zero, List.getElem?_cons_succ]))
@[simp] theorem S35o (l : List Cell) (hs : smS l) (q1 : Fl) (hh : Heap) :
    Ci cfg (.func (.func 35) [] []) [R q1 eC l, .func (.func 34) [] []] hh = some (.ret (.bool (l.any oddP)), hh) :=
  Ci_K cfg rfl rfl (by simp) (by simp) (C35o l hs)
end Go.Ab
