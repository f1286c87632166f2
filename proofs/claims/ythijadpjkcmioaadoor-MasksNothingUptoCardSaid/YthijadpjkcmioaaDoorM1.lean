/- Layer 37 (masks): the reference's functions. -/
import Derived.Test.YthijadpjkcmioaaDoorT3
set_option linter.unusedVariables false
set_option linter.unusedSimpArgs false
set_option linter.unusedSectionVars false
set_option linter.deprecated false
namespace Go.Ab
open Go.Proofs
set_option maxRecDepth 100000
set_option maxHeartbeats 1000000
structure Target where
  text : List UInt8
  deps : List Int
  term : Int
  deriving Inhabited
structure Mark where
  verdict : Int
  text : List UInt8
  deps : List Int
  deriving Inhabited
def eT (x : Target) : List V := [.str x.text, R fl0 eI x.deps, .int .i64 x.term]
def eM (x : Mark) : List V := [.int .i64 x.verdict, .str x.text, R fl0 eI x.deps]
instance : EncC eT 3 := ⟨fun _ => rfl, by decide, fun _ => rfl, fun _ => by simp [eT], fun _ => by simp [eT]⟩
instance : EncC eM 3 := ⟨fun _ => rfl, by decide, fun _ => rfl, fun _ => by simp [eM], fun _ => by simp [eM]⟩

def verdictsS (v : List Int) : Bool := v.all fun x => decide (0 ≤ x ∧ x ≤ 2)
theorem C40 (v : List Int) (hs : v.length < 1099511627776) : Kc cfg 40 [R fl0 eI v] (.ret (.bool (verdictsS v))) := by
  refine outS_of_wp cfg (fn := Tryd.f40) Tryd.func40 rfl (by simp [Tryd.f40]) ?_
  simp (disch := first | assumption | omega | (simp; done) | (simp; omega)) [-getElem?_pos, List.getElem?_cons_zero, List.getElem?_cons_succ, Tryd.f40]
  refine wp_loop cfg rfl (fun m f h => ∃ i : Nat, f 0 = R fl0 eI v ∧ f 3 = .int .i64 i ∧ i + m = v.length ∧ (v.take i).all (fun x => decide (0 ≤ x ∧ x ≤ 2)) = true) ?_ v.length _ _ ⟨0, by simp, by simp, by simp, by simp⟩
  rintro m f h ⟨i, h0, h3, hm, ht⟩ ih
  repeat' (first | (refine wpc_split _ (fun hc => ?_) (fun hc => ?_) <;> (try simp at hc)) | (refine ww_split _ (fun hc => ?_) (fun hc => ?_) <;> (try simp at hc)) | (refine wp_drawF (by kernel_rfl) ?_) | (refine wk_yldW _ ?_) | (refine layOwe _ (by kernel_rfl) ?_) | (refine owe ?_ (fun ho => ?_)) | (simp (disch := first | assumption | omega | (simp; done) | (simp; omega)) [h0, h3, eI, -getElem?_pos, List.getElem?_cons_zero, List.getElem?_cons_succ]))
  · exact (all_nth_false (p := fun x => decide (0 ≤ x ∧ x ≤ 2)) (by omega : i < v.length) (by simp; omega))
  · refine ih (m - 1) _ _ (by omega) ⟨i + 1, by simp [h0], by simp, by omega, all_take_next (p := fun x => decide (0 ≤ x ∧ x ≤ 2)) (by omega : i < v.length) ht (by simp; omega)⟩
  · exact (all_nth_false (p := fun x => decide (0 ≤ x ∧ x ≤ 2)) (by omega : i < v.length) (by simp; omega))
  · have : i = v.length := by omega
    subst this
    rw [List.take_length] at ht
    exact ht
@[simp] theorem S40 (v : List Int) (hs : v.length < 1099511627776) (q1 : Fl) (hh : Heap) : Ci cfg (.func (.func 40) [] []) [R  q1 eI v] hh = some (.ret (.bool (verdictsS v)), hh) :=
  Ci_K cfg rfl rfl (by simp) (by simp) (C40 v hs)

/-- Do numbers rise, all above last and below many? -/
def asc (many : Int) : Int → List Int → Bool
  | _, [] => true
  | last, x :: r => decide (last < x) && decide (x < many) && asc many x r
theorem asc_step {many last : Int} {d : List Int} {i : Nat} (h : i < d.length) : asc many last (d.drop i) = (decide (last < nth d i) && decide (nth d i < many) && asc many (nth d i) (d.drop (i + 1))) := by
  rw [nth_drop h]; rfl
def rightS (t : List UInt8) (d : List Int) (many : Int) : Bool := asc many (-1) d && wordS t
theorem C41 (t : List UInt8) (d : List Int) (n many : Int) (hs : d.length < 1099511627776) (ht : t.length < 1099511627776) : Kc cfg 41 [.agg [.str t, R fl0 eI d, .int .i64 n], .int .i64 many] (.ret (.bool (rightS t d many))) := by
  refine outS_of_wp cfg (fn := Tryd.f41) Tryd.func41 rfl (by simp [Tryd.f41]) ?_
  simp (disch := first | assumption | omega | (simp; done) | (simp; omega)) [-getElem?_pos, List.getElem?_cons_zero, List.getElem?_cons_succ, Tryd.f41]
  refine wp_loopE cfg rfl (fun f0 h0 m f h => ∃ (i : Nat) (last : Int), f 1 = f0 1 ∧ f 2 = f0 2 ∧ f 5 = .int .i64 i ∧ h.bs = h0.bs ∧ i + m = d.length ∧ rightS t d many = (asc many last (d.drop i) && wordS t) ∧ (i = 0 → last = -1) ∧ (0 < i → last = nth d (i - 1) ∧ 0 ≤ last)) d.length _ _ ⟨0, -1, rfl, rfl, by simp, rfl, by simp, by simp [rightS], by simp, by simp⟩ ?_
  rintro m f h ⟨i, last, h1, h2, h5, hb, hm, hr, hl0, hl1⟩ ih
  simp at h1 h2 hb
  by_cases hi : i < d.length
  · rw [asc_step hi] at hr
    by_cases hz : i = 0
    · subst hz
      have := hl0 rfl
      subst this
      repeat' (first | (refine wpc_split _ (fun hc => ?_) (fun hc => ?_) <;> (try simp at hc)) | (refine ww_split _ (fun hc => ?_) (fun hc => ?_) <;> (try simp at hc)) | (refine wp_drawF (by kernel_rfl) ?_) | (refine wk_yldW _ ?_) | (refine layOwe _ (by kernel_rfl) ?_) | (refine owe ?_ (fun ho => ?_)) | (simp (disch := first | assumption | omega | (simp; done) | (simp; omega)) [h1, h2, h5, hb, eI, -getElem?_pos, List.getElem?_cons_zero, List.getElem?_cons_succ]))
      · refine ih (m - 1) _ _ (by omega) ⟨1, nth d 0, by simp [h1], by simp [h2], by simp, by simp [hb], by omega, by rw [hr]; grind, by omega, fun _ => ⟨by simp, by omega⟩⟩
      all_goals (rw [hr]; grind)
    · have h3 := hl1 (by omega)
      have h4 : (((i : Int) - 1).toNat) = i - 1 := by omega
      repeat' (first | (refine wpc_split _ (fun hc => ?_) (fun hc => ?_) <;> (try simp at hc)) | (refine ww_split _ (fun hc => ?_) (fun hc => ?_) <;> (try simp at hc)) | (refine wp_drawF (by kernel_rfl) ?_) | (refine wk_yldW _ ?_) | (refine layOwe _ (by kernel_rfl) ?_) | (refine owe ?_ (fun ho => ?_)) | (simp (disch := first | assumption | omega | (simp; done) | (simp; omega)) [h1, h2, h5, hb, eI, h4, -getElem?_pos, List.getElem?_cons_zero, List.getElem?_cons_succ]))
      all_goals first
        | (refine ih (m - 1) _ _ (by omega) ⟨i + 1, nth d i, by simp [h1], by simp [h2], by simp, by simp [hb], by omega, by rw [hr]; grind, by omega, fun _ => ⟨by simp, by omega⟩⟩)
        | (rw [hr]; grind)
  · repeat' (first | (refine wpc_split _ (fun hc => ?_) (fun hc => ?_) <;> (try simp at hc)) | (refine ww_split _ (fun hc => ?_) (fun hc => ?_) <;> (try simp at hc)) | (refine wp_drawF (by kernel_rfl) ?_) | (refine wk_yldW _ ?_) | (refine layOwe _ (by kernel_rfl) ?_) | (refine owe ?_ (fun ho => ?_)) | (simp (disch := first | assumption | omega | (simp; done) | (simp; omega)) [h1, h2, h5, hb, eI, -getElem?_pos, List.getElem?_cons_zero, List.getElem?_cons_succ]))
    rw [hr, List.drop_eq_nil_of_le (by omega)]
    simp [asc]
@[simp] theorem S41 (t : List UInt8) (d : List Int) (n many : Int) (hs : d.length < 1099511627776) (ht : t.length < 1099511627776) (q1 : Fl) (hh : Heap) : Ci cfg (.func (.func 41) [] []) [.agg [.str t, R  q1 eI d, .int .i64 n], .int .i64 many] hh = some (.ret (.bool (rightS t d many)), hh) :=
  Ci_K cfg rfl rfl (by simp) (by simp) (C41 t d n many hs ht)
def errS (l : List Target) (v : List Int) : Int := if 4096 < l.length ∨ 4096 < v.length then 2 else if verdictsS v && l.all (fun x => rightS x.text x.deps v.length) then 0 else 370
theorem errS_long {l : List Target} {v : List Int} (h : 4096 < l.length ∨ 4096 < v.length) : errS l v = 2 := by unfold errS; rw [if_pos h]
theorem errS_short {l : List Target} {v : List Int} (h : l.length ≤ 4096 ∧ v.length ≤ 4096) : errS l v = if verdictsS v && l.all (fun x => rightS x.text x.deps v.length) then 0 else 370 := by unfold errS; rw [if_neg (by omega)]
theorem C26 (l : List Target) (v : List Int) (hs : l.length < 1099511627776 ∧ v.length < 1099511627776) (hl : ∀ x ∈ l, x.text.length < 1099511627776 ∧ x.deps.length < 1099511627776) : Kc cfg 26 [R fl0 eT l, R fl0 eI v] (.ret (.int .i64 (errS l v))) := by
  refine outS_of_wp cfg (fn := Tryd.f26) Tryd.func26 rfl (by simp [Tryd.f26]) ?_
  simp (disch := first | assumption | omega | (simp; done) | (simp; omega)) [-getElem?_pos, List.getElem?_cons_zero, List.getElem?_cons_succ, Tryd.f26]
  repeat' (first | (refine wpc_split _ (fun hc => ?_) (fun hc => ?_) <;> (try simp at hc)) | (refine ww_split _ (fun hc => ?_) (fun hc => ?_) <;> (try simp at hc)) | (refine wp_drawF (by kernel_rfl) ?_) | (refine wk_yldW _ ?_) | (refine layOwe _ (by kernel_rfl) ?_) | (refine owe ?_ (fun ho => ?_)) | (simp (disch := first | assumption | omega | (simp; done) | (simp; omega)) [-getElem?_pos, List.getElem?_cons_zero, List.getElem?_cons_succ]))
  · exact (errS_long (by omega)).symm
  · rw [errS_short (by omega), hc]; rfl
  · have he : errS l v = if l.all (fun x => rightS x.text x.deps v.length) then 0 else 370 := by rw [errS_short (by omega), hc]; rfl
    refine wp_loopE cfg rfl (fun f0 h0 m f h => ∃ i : Nat, f 0 = f0 0 ∧ f 1 = f0 1 ∧ f 5 = .int .i64 i ∧ i + m = l.length ∧ (l.take i).all (fun x => rightS x.text x.deps v.length) = true) l.length _ _ ⟨0, rfl, rfl, by simp, by simp, by simp⟩ ?_
    rintro m f h ⟨i, h0, h1, h5, hm, ht⟩ ih
    simp at h0 h1
    by_cases hi : i < l.length
    · have hx := hl _ (nth_mem hi)
      repeat' (first | (refine wpc_split _ (fun hc => ?_) (fun hc => ?_) <;> (try simp at hc)) | (refine ww_split _ (fun hc => ?_) (fun hc => ?_) <;> (try simp at hc)) | (refine wp_drawF (by kernel_rfl) ?_) | (refine wk_yldW _ ?_) | (refine layOwe _ (by kernel_rfl) ?_) | (refine owe ?_ (fun ho => ?_)) | (simp (disch := first | assumption | omega | (simp; done) | (simp; omega)) [h0, h1, h5, eT, hx.1, hx.2, -getElem?_pos, List.getElem?_cons_zero, List.getElem?_cons_succ]))
      · rw [he, all_nth_false (p := fun x => rightS x.text x.deps v.length) hi hc]; rfl
      · refine ih (m - 1) _ _ (by omega) ⟨i + 1, by simp [h0], by simp [h1], by simp, by omega, all_take_next (p := fun x => rightS x.text x.deps v.length) hi ht hc⟩
    · repeat' (first | (refine wpc_split _ (fun hc => ?_) (fun hc => ?_) <;> (try simp at hc)) | (refine ww_split _ (fun hc => ?_) (fun hc => ?_) <;> (try simp at hc)) | (refine wp_drawF (by kernel_rfl) ?_) | (refine wk_yldW _ ?_) | (refine layOwe _ (by kernel_rfl) ?_) | (refine owe ?_ (fun ho => ?_)) | (simp (disch := first | assumption | omega | (simp; done) | (simp; omega)) [h0, h1, h5, eT, -getElem?_pos, List.getElem?_cons_zero, List.getElem?_cons_succ]))
      rw [List.take_of_length_le (by omega)] at ht
      rw [he, ht]; rfl
  · exact (errS_long (by omega)).symm
@[simp] theorem S26 (l : List Target) (v : List Int) (hs : l.length < 1099511627776 ∧ v.length < 1099511627776) (hl : ∀ x ∈ l, x.text.length < 1099511627776 ∧ x.deps.length < 1099511627776) (q1 q2 : Fl) (hh : Heap) : Ci cfg (.func (.func 26) [] []) [R  q1 eT l, R  q2 eI v] hh = some (.ret (.int .i64 (errS l v)), hh) :=
  Ci_K cfg rfl rfl (by simp) (by simp) (C26 l v hs hl)
end Go.Ab
