/- Layer 11 (fonts): Few. -/
import Derived.Test.YtdfpmhgfmmcopaaDoorF1
set_option linter.unusedVariables false
set_option linter.unusedSimpArgs false
set_option linter.unusedSectionVars false
set_option linter.deprecated false
namespace Go.Ab
open Go.Proofs
set_option maxRecDepth 100000
set_option maxHeartbeats 4000000
theorem C10 (f : Font) (s : List UInt8) (hs : f.gs.length < 1099511627776 ∧ f.ks.length < 1099511627776 ∧ s.length < 1099511627776) : Kc cfg 10 [.agg [R fl0 eG f.gs, .int .i64 f.other, R fl0 eK f.ks], .str s] (.ret (.bool (decide ((f.gs.length ≤ 30 ∨ 1024 < f.gs.length ∧ f.gs.length ≤ 1100) ∧ (f.ks.length ≤ 30 ∨ 1024 < f.ks.length ∧ f.ks.length ≤ 1100) ∧ s.length ≤ 200)))) := by
  refine outS_of_wp cfg (fn := Tryd.f10) Tryd.func10 rfl (by simp [Tryd.f10]) ?_
  simp (disch := first | assumption | omega | (simp; done) | (simp; omega)) [-getElem?_pos, List.getElem?_cons_zero, List.getElem?_cons_succ, Tryd.f10]
  repeat' (first | (refine wpc_split _ (fun hc => ?_) (fun hc => ?_) <;> (try simp at hc)) | (refine ww_split _ (fun hc => ?_) (fun hc => ?_) <;> (try simp at hc)) | (refine wp_drawF (by kernel_rfl) ?_) | (refine wk_yldW _ ?_) | (refine owe ?_ (fun ho => ?_)) | (simp (disch := first | assumption | omega | (simp; done) | (simp; omega)) [-getElem?_pos, List.getElem?_cons_zero, List.getElem?_cons_succ]))
  all_goals first | omega | (simp; omega) | grind
@[simp] theorem S10 (f : Font) (s : List UInt8) (hs : f.gs.length < 1099511627776 ∧ f.ks.length < 1099511627776 ∧ s.length < 1099511627776) (q1 q2 : Fl) (hh : Heap) : Ci cfg (.func (.func 10) [] []) [.agg [R  q1 eG f.gs, .int .i64 f.other, R  q2 eK f.ks], .str s] hh = some (.ret (.bool (decide ((f.gs.length ≤ 30 ∨ 1024 < f.gs.length ∧ f.gs.length ≤ 1100) ∧ (f.ks.length ≤ 30 ∨ 1024 < f.ks.length ∧ f.ks.length ≤ 1100) ∧ s.length ≤ 200))), hh) :=
  Ci_K cfg rfl rfl (by simp) (by simp) (C10 f s hs)
end Go.Ab
