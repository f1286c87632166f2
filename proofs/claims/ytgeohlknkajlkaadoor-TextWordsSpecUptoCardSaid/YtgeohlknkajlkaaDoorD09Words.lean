/- TextWordsSpec: the law. -/
import Derived.Test.YtgeohlknkajlkaaDoorS09
import Derived.Test.YtgeohlknkajlkaaDoorT10
set_option linter.unusedVariables false
set_option linter.unusedSimpArgs false
set_option linter.unusedSectionVars false
set_option linter.deprecated false
namespace Go.Ab
open Go.Proofs
set_option maxRecDepth 100000
set_option maxHeartbeats 4000000
theorem splitW_len : ∀ (l w : List Int), (splitW w l).length ≤ l.length + 1
  | [], w => by unfold splitW; split <;> simp
  | c :: r, w => by
    have h1 := splitW_len r []
    have h2 := splitW_len r (w ++ [c])
    unfold splitW
    split
    · split <;> simp <;> omega
    · simp; omega
theorem splitG_len (s : List UInt8) : (splitG s).1.length ≤ 4097 := by
  unfold splitG
  split
  · have := splitW_len (runesG s).1 []
    have := runesG_len s
    simp; omega
  · simp
theorem C4 (r : Int) (s : List UInt8) (hs : s.length < 1099511627776) : Kc cfg 4 [.int .i64 r, .str s] (.ret (.bool true)) := by
  have hn := splitG_len s
  refine outS_of_wp cfg (fn := Tryd.f4) Tryd.func4 rfl (by simp [Tryd.f4]) ?_
  simp (disch := first | assumption | omega | (simp; done) | (simp; omega)) [-getElem?_pos, List.getElem?_cons_zero, List.getElem?_cons_succ, Tryd.f4]
  repeat' (first | (refine wpc_split _ (fun hc => ?_) (fun hc => ?_) <;> (try simp at hc)) | (refine ww_split _ (fun hc => ?_) (fun hc => ?_) <;> (try simp at hc)) | (refine wp_draw _ (by kernel_rfl) ?_) | (refine wk_yldW _ ?_) | (refine owe ?_ (fun ho => ?_)) | (simp (disch := first | assumption | omega | (simp; done) | (simp; omega)) [-getElem?_pos, List.getElem?_cons_zero, List.getElem?_cons_succ]))
@[simp] theorem S4 (r : Int) (s : List UInt8) (hs : s.length < 1099511627776) (hh : Heap) : Ci cfg (.func (.func 4) [] []) [.int .i64 r, .str s] hh = some (.ret (.bool true), hh) :=
  Ci_K cfg rfl rfl (by simp) (by simp) (C4 r s hs)
end Go.Ab
