/- FontsFitSpec: the law. -/
import Derived.Test.YtdfpmhgfmmcopaaDoorS11
import Derived.Test.YtdfpmhgfmmcopaaDoorF1d
import Derived.Test.YtdfpmhgfmmcopaaDoorF7
set_option linter.unusedVariables false
set_option linter.unusedSimpArgs false
set_option linter.unusedSectionVars false
set_option linter.deprecated false
namespace Go.Ab
open Go.Proofs
set_option maxRecDepth 100000
set_option maxHeartbeats 4000000
theorem C4 (f : Font) (s : List UInt8) (room : Int) (hs : f.gs.length < 1099511627776 ∧ f.ks.length < 1099511627776) (hl : s.length < 1099511627776) : Kc cfg 4 [.agg [R fl0 eG f.gs, .int .i64 f.other, R fl0 eK f.ks], .str s, .int .i64 room] (.ret (.bool true)) := by
  have hs3 : f.gs.length < 1099511627776 ∧ f.ks.length < 1099511627776 ∧ s.length < 1099511627776 := ⟨hs.1, hs.2, hl⟩
  refine outS_of_wp cfg (fn := Tryd.f4) Tryd.func4 rfl (by simp [Tryd.f4]) ?_
  simp (disch := first | assumption | omega | (simp; done) | (simp; omega)) [-getElem?_pos, List.getElem?_cons_zero, List.getElem?_cons_succ, Tryd.f4]
  repeat' (first | (refine wpc_split _ (fun hc => ?_) (fun hc => ?_) <;> (try simp at hc)) | (refine ww_split _ (fun hc => ?_) (fun hc => ?_) <;> (try simp at hc)) | (refine wp_drawF (by kernel_rfl) ?_) | (refine wk_yldW _ ?_) | (refine owe ?_ (fun ho => ?_)) | (simp (disch := first | assumption | omega | (simp; done) | (simp; omega)) [-getElem?_pos, List.getElem?_cons_zero, List.getElem?_cons_succ]))
@[simp] theorem S4 (f : Font) (s : List UInt8) (room : Int) (hs : f.gs.length < 1099511627776 ∧ f.ks.length < 1099511627776) (hl : s.length < 1099511627776) (q1 q2 : Fl) (hh : Heap) : Ci cfg (.func (.func 4) [] []) [.agg [R  q1 eG f.gs, .int .i64 f.other, R  q2 eK f.ks], .str s, .int .i64 room] hh = some (.ret (.bool true), hh) :=
  Ci_K cfg rfl rfl (by simp) (by simp) (C4 f s room hs hl)
end Go.Ab
