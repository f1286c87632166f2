/- Layer 37 (masks): the reference's functions, second part. -/
import Derived.Test.YthijadpjkcmioaaDoorM1
set_option linter.unusedVariables false
set_option linter.unusedSimpArgs false
set_option linter.unusedSectionVars false
set_option linter.deprecated false
namespace Go.Ab
open Go.Proofs
set_option maxRecDepth 100000
set_option maxHeartbeats 1000000
/-- The greatest verdict of what a word depends on. -/
def vd (v : List Int) (d : List Int) : Int := d.foldl (fun n i => max n (nth v i.toNat)) 0
theorem vd_take {v d : List Int} {i : Nat} (h : i < d.length) : vd v (d.take (i + 1)) = max (vd v (d.take i)) (nth v (nth d i).toNat) := by
  unfold vd; rw [nth_take h, List.foldl_append]; rfl
def inB (d : List Int) (n : Nat) : Prop := ∀ x ∈ d, 0 ≤ x ∧ x < n
theorem C27 (t : List UInt8) (d v : List Int) (n : Int) (hs : d.length < 1099511627776) (hd : inB d v.length) : Kc cfg 27 [.agg [.str t, R fl0 eI d, .int .i64 n], R fl0 eI v] (.ret (.int .i64 (vd v d))) := by
  refine outS_of_wp cfg (fn := Tryd.f27) Tryd.func27 rfl (by simp [Tryd.f27]) ?_
  simp (disch := first | assumption | omega | (simp; done) | (simp; omega)) [-getElem?_pos, List.getElem?_cons_zero, List.getElem?_cons_succ, Tryd.f27]
  refine wp_loopE cfg rfl (fun f0 h0 m f h => ∃ i : Nat, f 1 = f0 1 ∧ f 2 = f0 2 ∧ f 5 = .int .i64 (vd v (d.take i)) ∧ f 6 = .int .i64 i ∧ h.bs = h0.bs ∧ i + m = d.length) d.length _ _ ⟨0, rfl, rfl, by simp [vd], by simp, rfl, by simp⟩ ?_
  rintro m f h ⟨i, h1, h2, h5, h6, hb, hm⟩ ih
  simp at h1 h2 hb
  by_cases hi : i < d.length
  · have hx := hd _ (nth_mem hi)
    repeat' (first | (refine wpc_split _ (fun hc => ?_) (fun hc => ?_) <;> (try simp at hc)) | (refine ww_split _ (fun hc => ?_) (fun hc => ?_) <;> (try simp at hc)) | (refine wp_drawF (by kernel_rfl) ?_) | (refine wk_yldW _ ?_) | (refine layOwe _ (by kernel_rfl) ?_) | (refine owe ?_ (fun ho => ?_)) | (simp (disch := first | assumption | omega | (simp; done) | (simp; omega)) [h1, h2, h5, h6, hb, eI, -getElem?_pos, List.getElem?_cons_zero, List.getElem?_cons_succ]))
    refine ih (m - 1) _ _ (by omega) ⟨i + 1, by simp [h1], by simp [h2], by simp [vd_take hi], by simp, by simp [hb], by omega⟩
  · repeat' (first | (refine wpc_split _ (fun hc => ?_) (fun hc => ?_) <;> (try simp at hc)) | (refine ww_split _ (fun hc => ?_) (fun hc => ?_) <;> (try simp at hc)) | (refine wp_drawF (by kernel_rfl) ?_) | (refine wk_yldW _ ?_) | (refine layOwe _ (by kernel_rfl) ?_) | (refine owe ?_ (fun ho => ?_)) | (simp (disch := first | assumption | omega | (simp; done) | (simp; omega)) [h1, h2, h5, h6, hb, eI, -getElem?_pos, List.getElem?_cons_zero, List.getElem?_cons_succ]))
    rw [List.take_of_length_le (by omega)]
@[simp] theorem S27 (t : List UInt8) (d v : List Int) (n : Int) (hs : d.length < 1099511627776) (hd : inB d v.length) (q1 q2 : Fl) (hh : Heap) : Ci cfg (.func (.func 27) [] []) [.agg [.str t, R  q1 eI d, .int .i64 n], R  q2 eI v] hh = some (.ret (.int .i64 (vd v d)), hh) :=
  Ci_K cfg rfl rfl (by simp) (by simp) (C27 t d v n hs hd)
theorem C16 (a1 b1 : Int) (a2 b2 : List UInt8) (a3 b3 : List Int) (hs : a3.length < 1099511627776) : Kc cfg 16 [.agg [.int .i64 a1, .str a2, R fl0 eI a3], .agg [.int .i64 b1, .str b2, R fl0 eI b3]] (.ret (.bool (decide (a1 = b1 ∧ a2 = b2 ∧ a3 = b3)))) := by
  refine outS_of_wp cfg (fn := Tryd.f16) Tryd.func16 rfl (by simp [Tryd.f16]) ?_
  simp (disch := first | assumption | omega | (simp; done) | (simp; omega)) [-getElem?_pos, List.getElem?_cons_zero, List.getElem?_cons_succ, Tryd.f16]
  repeat' (first | (refine wpc_split _ (fun hc => ?_) (fun hc => ?_) <;> (try simp at hc)) | (refine ww_split _ (fun hc => ?_) (fun hc => ?_) <;> (try simp at hc)) | (refine wp_drawF (by kernel_rfl) ?_) | (refine wk_yldW _ ?_) | (refine layOwe _ (by kernel_rfl) ?_) | (refine owe ?_ (fun ho => ?_)) | (simp (disch := first | assumption | omega | (simp; done) | (simp; omega)) [-getElem?_pos, List.getElem?_cons_zero, List.getElem?_cons_succ]))
  all_goals grind
@[simp] theorem S16 (a1 b1 : Int) (a2 b2 : List UInt8) (a3 b3 : List Int) (hs : a3.length < 1099511627776) (q1 q2 : Fl) (hh : Heap) : Ci cfg (.func (.func 16) [] []) [.agg [.int .i64 a1, .str a2, R  q1 eI a3], .agg [.int .i64 b1, .str b2, R  q2 eI b3]] hh = some (.ret (.bool (decide (a1 = b1 ∧ a2 = b2 ∧ a3 = b3))), hh) :=
  Ci_K cfg rfl rfl (by simp) (by simp) (C16 a1 b1 a2 b2 a3 b3 hs)
def fewS (l : List Target) (v : List Int) : Bool := ((l.take 50).all fun x => decide (x.text.length ≤ 200 ∧ x.deps.length ≤ 60)) && decide ((l.length ≤ 40 ∨ 4096 < l.length ∧ l.length ≤ 4200) ∧ (v.length ≤ 40 ∨ 4096 < v.length ∧ v.length ≤ 4200))
theorem C9 (l : List Target) (v : List Int) (hs : l.length < 1099511627776 ∧ v.length < 1099511627776) : Kc cfg 9 [R fl0 eT l, R fl0 eI v] (.ret (.bool (fewS l v))) := by
  refine outS_of_wp cfg (fn := Tryd.f9) Tryd.func9 rfl (by simp [Tryd.f9]) ?_
  simp (disch := first | assumption | omega | (simp; done) | (simp; omega)) [-getElem?_pos, List.getElem?_cons_zero, List.getElem?_cons_succ, Tryd.f9]
  refine wp_loopE cfg rfl (fun f0 h0 m f h => ∃ i : Nat, f 0 = f0 0 ∧ f 1 = f0 1 ∧ f 5 = .int .i64 i ∧ i + m = (l.take 50).length ∧ ((l.take 50).take i).all (fun x => decide (x.text.length ≤ 200 ∧ x.deps.length ≤ 60)) = true) (l.take 50).length _ _ ⟨0, rfl, rfl, by simp, by simp, by simp⟩ ?_
  rintro m f h ⟨i, h0, h1, h5, hm, ht⟩ ih
  simp at h0 h1
  rw [List.length_take] at hm
  have hfull : l.length ≤ i ∨ 50 ≤ i → fewS l v = decide ((l.length ≤ 40 ∨ 4096 < l.length ∧ l.length ≤ 4200) ∧ (v.length ≤ 40 ∨ 4096 < v.length ∧ v.length ≤ 4200)) := by
    intro hh
    rw [List.take_of_length_le (by rw [List.length_take]; omega)] at ht
    simp only [fewS, ht, Bool.true_and]
  have hno : i < l.length → i < 50 → ¬ ((nth l i).text.length ≤ 200 ∧ (nth l i).deps.length ≤ 60) → fewS l v = false := by
    intro h1 h2 h3
    have := all_nth_false (l := l.take 50) (i := i) (p := fun x => decide (x.text.length ≤ 200 ∧ x.deps.length ≤ 60)) (by rw [List.length_take]; omega) (by rw [nth_take_lt h2]; exact decide_eq_false h3)
    simp only [fewS, this, Bool.false_and]
  have hnext : i < l.length → i < 50 → ((nth l i).text.length ≤ 200 ∧ (nth l i).deps.length ≤ 60) → ((l.take 50).take (i + 1)).all (fun x : Target => decide (x.text.length ≤ 200 ∧ x.deps.length ≤ 60)) = true := by
    intro h1 h2 h3
    refine all_take_next (p := fun x : Target => decide (x.text.length ≤ 200 ∧ x.deps.length ≤ 60)) (by rw [List.length_take]; omega) ht ?_
    rw [nth_take_lt h2]; exact decide_eq_true h3
  repeat' (first | (refine wpc_split _ (fun hc => ?_) (fun hc => ?_) <;> (try simp at hc)) | (refine ww_split _ (fun hc => ?_) (fun hc => ?_) <;> (try simp at hc)) | (refine wp_drawF (by kernel_rfl) ?_) | (refine wk_yldW _ ?_) | (refine layOwe _ (by kernel_rfl) ?_) | (refine owe ?_ (fun ho => ?_)) | (simp (disch := first | assumption | omega | (simp; done) | (simp; omega)) [h0, h1, h5, eT, -getElem?_pos, List.getElem?_cons_zero, List.getElem?_cons_succ]))
  all_goals first
    | exact ih (m - 1) _ _ (by omega) ⟨i + 1, by simp [h0], by simp [h1], by simp, by rw [List.length_take]; omega, hnext (by omega) (by omega) (by omega)⟩
    | exact hno (by omega) (by omega) (by omega)
    | (rw [hfull (by omega)]; first | (simp only [decide_eq_decide]; omega) | (simp only [decide_eq_false_iff_not, decide_eq_true_eq]; omega))
@[simp] theorem S9 (l : List Target) (v : List Int) (hs : l.length < 1099511627776 ∧ v.length < 1099511627776) (q1 q2 : Fl) (hh : Heap) : Ci cfg (.func (.func 9) [] []) [R  q1 eT l, R  q2 eI v] hh = some (.ret (.bool (fewS l v)), hh) :=
  Ci_K cfg rfl rfl (by simp) (by simp) (C9 l v hs)
end Go.Ab
