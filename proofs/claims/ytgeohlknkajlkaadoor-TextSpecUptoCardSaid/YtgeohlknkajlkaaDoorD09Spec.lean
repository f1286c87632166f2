/- TextSpec: the law. -/
import Derived.Test.YtgeohlknkajlkaaDoorS09
import Derived.Test.YtgeohlknkajlkaaDoorT8
set_option linter.unusedVariables false
set_option linter.unusedSimpArgs false
set_option linter.unusedSectionVars false
set_option linter.deprecated false
namespace Go.Ab
open Go.Proofs
set_option maxRecDepth 100000
set_option maxHeartbeats 4000000
theorem C3 (s : List UInt8) (l : List Int) (hs : s.length < 1099511627776) (hl : l.length < 1099511627776) : Kc cfg 3 [.str s, R fl0 eI l] (.ret (.bool true)) := by
  have hn := runesG_len s
  refine outS_of_wp cfg (fn := Tryd.f3) Tryd.func3 rfl (by simp [Tryd.f3]) ?_
  simp (disch := first | assumption | omega | (simp; done) | (simp; omega)) [-getElem?_pos, List.getElem?_cons_zero, List.getElem?_cons_succ, Tryd.f3]
  repeat' (first | (refine wpc_split _ (fun hc => ?_) (fun hc => ?_) <;> (try simp at hc)) | (refine ww_split _ (fun hc => ?_) (fun hc => ?_) <;> (try simp at hc)) | (refine wp_draw _ (by kernel_rfl) ?_) | (refine wk_yldW _ ?_) | (refine owe ?_ (fun ho => ?_)) | (simp (disch := first | assumption | omega | (simp; done) | (simp; omega)) [-getElem?_pos, List.getElem?_cons_zero, List.getElem?_cons_succ]))
@[simp] theorem S3 (s : List UInt8) (l : List Int) (hs : s.length < 1099511627776) (hl : l.length < 1099511627776) (q1 : Fl) (hh : Heap) : Ci cfg (.func (.func 3) [] []) [.str s, R  q1 eI l] hh = some (.ret (.bool true), hh) :=
  Ci_K cfg rfl rfl (by simp) (by simp) (C3 s l hs hl)
end Go.Ab
