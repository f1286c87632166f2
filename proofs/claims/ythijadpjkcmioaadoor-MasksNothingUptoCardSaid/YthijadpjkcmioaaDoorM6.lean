/- Layer 37 (masks): the laws' own functions. -/
import Derived.Test.YthijadpjkcmioaaDoorM5
set_option linter.unusedVariables false
set_option linter.unusedSimpArgs false
set_option linter.unusedSectionVars false
set_option linter.deprecated false
namespace Go.Ab
open Go.Proofs
set_option maxRecDepth 100000
set_option maxHeartbeats 2000000
theorem C8 : Kc cfg 8 [] (.ret (.bool true)) := kc_run (n := 600) (by kernel_rfl)
@[simp] theorem S8 (h : Heap) : Ci cfg (.func (.func 8) [] []) [] h = some (.ret (.bool true), h) := Ci_K cfg rfl rfl rfl rfl C8
def smallT (l : List Target) (v : List Int) : Prop := (l.length < 1099511627776 ∧ v.length < 1099511627776) ∧ ∀ x ∈ l, x.text.length < 1099511627776 ∧ x.deps.length < 1099511627776
theorem maskS_deps {l : List Target} {v : List Int} (hl : ∀ x ∈ l, x.text.length < 1099511627776 ∧ x.deps.length < 1099511627776) : ∀ x ∈ (maskS l v).1, x.deps.length < 1099511627776 := by
  unfold maskS
  split
  · intro x hx
    simp only [List.mem_map] at hx
    obtain ⟨y, hy, rfl⟩ := hx
    exact (hl y hy).2
  · simp
theorem C3 (l : List Target) (v : List Int) (hs : l.length < 1099511627776 ∧ v.length < 1099511627776) (hl : ∀ x ∈ l, x.text.length < 1099511627776 ∧ x.deps.length < 1099511627776) : Kc cfg 3 [R fl0 eT l, R fl0 eI v] (.ret (.bool true)) := by
  have hd := maskS_deps (v := v) hl
  have hn : (maskS l v).1.length < 1099511627776 := by unfold maskS; split <;> simp; omega
  refine outS_of_wp cfg (fn := Tryd.f3) Tryd.func3 rfl (by simp [Tryd.f3]) ?_
  simp (disch := first | assumption | omega | (simp; done) | (simp; omega)) [-getElem?_pos, List.getElem?_cons_zero, List.getElem?_cons_succ, Tryd.f3, hd, hn]
  repeat' (first | (refine wpc_split _ (fun hc => ?_) (fun hc => ?_) <;> (try simp at hc)) | (refine ww_split _ (fun hc => ?_) (fun hc => ?_) <;> (try simp at hc)) | (refine wp_drawF (by kernel_rfl) ?_) | (refine wk_yldW _ ?_) | (refine layOwe _ (by kernel_rfl) ?_) | (refine owe ?_ (fun ho => ?_)) | (simp (disch := first | assumption | omega | (simp; done) | (simp; omega)) [hd, hn, -getElem?_pos, List.getElem?_cons_zero, List.getElem?_cons_succ]))
@[simp] theorem S3 (l : List Target) (v : List Int) (hs : l.length < 1099511627776 ∧ v.length < 1099511627776) (hl : ∀ x ∈ l, x.text.length < 1099511627776 ∧ x.deps.length < 1099511627776) (q1 q2 : Fl) (hh : Heap) : Ci cfg (.func (.func 3) [] []) [R  q1 eT l, R  q2 eI v] hh = some (.ret (.bool true), hh) :=
  Ci_K cfg rfl rfl (by simp) (by simp) (C3 l v hs hl)
def smallS (l : List Target) (v : List Int) : Bool := decide (l.length ≤ 40 ∧ v.length ≤ 40) && fewS l v && decide (errS l v = 0)
theorem C13 (l : List Target) (v : List Int) (hs : l.length < 1099511627776 ∧ v.length < 1099511627776) (hl : ∀ x ∈ l, x.text.length < 1099511627776 ∧ x.deps.length < 1099511627776) : Kc cfg 13 [R fl0 eT l, R fl0 eI v] (.ret (.bool (smallS l v))) := by
  refine outS_of_wp cfg (fn := Tryd.f13) Tryd.func13 rfl (by simp [Tryd.f13]) ?_
  simp (disch := first | assumption | omega | (simp; done) | (simp; omega)) [-getElem?_pos, List.getElem?_cons_zero, List.getElem?_cons_succ, Tryd.f13]
  repeat' (first | (refine wpc_split _ (fun hc => ?_) (fun hc => ?_) <;> (try simp at hc)) | (refine ww_split _ (fun hc => ?_) (fun hc => ?_) <;> (try simp at hc)) | (refine wp_drawF (by kernel_rfl) ?_) | (refine wk_yldW _ ?_) | (refine layOwe _ (by kernel_rfl) ?_) | (refine owe ?_ (fun ho => ?_)) | (simp (disch := first | assumption | omega | (simp; done) | (simp; omega)) [-getElem?_pos, List.getElem?_cons_zero, List.getElem?_cons_succ]))
  all_goals (unfold smallS; grind)
@[simp] theorem S13 (l : List Target) (v : List Int) (hs : l.length < 1099511627776 ∧ v.length < 1099511627776) (hl : ∀ x ∈ l, x.text.length < 1099511627776 ∧ x.deps.length < 1099511627776) (q1 q2 : Fl) (hh : Heap) : Ci cfg (.func (.func 13) [] []) [R  q1 eT l, R  q2 eI v] hh = some (.ret (.bool (smallS l v)), hh) :=
  Ci_K cfg rfl rfl (by simp) (by simp) (C13 l v hs hl)
end Go.Ab
