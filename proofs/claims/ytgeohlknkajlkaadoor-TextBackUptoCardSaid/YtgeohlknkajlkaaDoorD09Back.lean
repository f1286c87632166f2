/- TextBack: the law. -/
import Derived.Test.YtgeohlknkajlkaaDoorS09
import Derived.Test.YtgeohlknkajlkaaDoorP09
set_option linter.unusedVariables false
set_option linter.unusedSimpArgs false
set_option linter.unusedSectionVars false
set_option linter.deprecated false
namespace Go.Ab
open Go.Proofs
set_option maxRecDepth 100000
set_option maxHeartbeats 4000000
theorem C5 (s : List UInt8) (l : List Int) (hs : s.length < 1099511627776) (hl : l.length < 1099511627776) : Kc cfg 5 [.str s, R fl0 eI l] (.ret (.bool true)) := by
  have hn := runesG_len s
  by_cases hj2 : (joinG l).2 = 0
  · have hr2 := runes_of_join hj2
    have ha2 := joinG_all hj2
    have hjl : (joinG l).1.length ≤ 4096 := by rw [ha2.2.2]; omega
    by_cases he : (runesG s).2 = 0
    · have hj := join_of_runes he
      refine outS_of_wp cfg (fn := Tryd.f5) Tryd.func5 rfl (by simp [Tryd.f5]) ?_
      simp (disch := first | assumption | omega | (simp; done) | (simp; omega)) [-getElem?_pos, List.getElem?_cons_zero, List.getElem?_cons_succ, Tryd.f5, he, hj, hj2, hr2]
      repeat' (first | (refine wpc_split _ (fun hc => ?_) (fun hc => ?_) <;> (try simp at hc)) | (refine ww_split _ (fun hc => ?_) (fun hc => ?_) <;> (try simp at hc)) | (refine wp_draw _ (by kernel_rfl) ?_) | (refine wk_yldW _ ?_) | (refine owe ?_ (fun ho => ?_)) | (simp (disch := first | assumption | omega | (simp; done) | (simp; omega)) [he, hj, hj2, hr2, -getElem?_pos, List.getElem?_cons_zero, List.getElem?_cons_succ]))
      all_goals omega
    · have hb := runesG_bad he
      refine outS_of_wp cfg (fn := Tryd.f5) Tryd.func5 rfl (by simp [Tryd.f5]) ?_
      simp (disch := first | assumption | omega | (simp; done) | (simp; omega)) [-getElem?_pos, List.getElem?_cons_zero, List.getElem?_cons_succ, Tryd.f5, he, hb, hj2, hr2]
      repeat' (first | (refine wpc_split _ (fun hc => ?_) (fun hc => ?_) <;> (try simp at hc)) | (refine ww_split _ (fun hc => ?_) (fun hc => ?_) <;> (try simp at hc)) | (refine wp_draw _ (by kernel_rfl) ?_) | (refine wk_yldW _ ?_) | (refine owe ?_ (fun ho => ?_)) | (simp (disch := first | assumption | omega | (simp; done) | (simp; omega)) [he, hb, hj2, hr2, -getElem?_pos, List.getElem?_cons_zero, List.getElem?_cons_succ]))
      all_goals omega
  · have hb2 := joinG_bad hj2
    by_cases he : (runesG s).2 = 0
    · have hj := join_of_runes he
      refine outS_of_wp cfg (fn := Tryd.f5) Tryd.func5 rfl (by simp [Tryd.f5]) ?_
      simp (disch := first | assumption | omega | (simp; done) | (simp; omega)) [-getElem?_pos, List.getElem?_cons_zero, List.getElem?_cons_succ, Tryd.f5, he, hj, hj2, hb2]
      repeat' (first | (refine wpc_split _ (fun hc => ?_) (fun hc => ?_) <;> (try simp at hc)) | (refine ww_split _ (fun hc => ?_) (fun hc => ?_) <;> (try simp at hc)) | (refine wp_draw _ (by kernel_rfl) ?_) | (refine wk_yldW _ ?_) | (refine owe ?_ (fun ho => ?_)) | (simp (disch := first | assumption | omega | (simp; done) | (simp; omega)) [he, hj, hj2, hb2, -getElem?_pos, List.getElem?_cons_zero, List.getElem?_cons_succ]))
    · have hb := runesG_bad he
      refine outS_of_wp cfg (fn := Tryd.f5) Tryd.func5 rfl (by simp [Tryd.f5]) ?_
      simp (disch := first | assumption | omega | (simp; done) | (simp; omega)) [-getElem?_pos, List.getElem?_cons_zero, List.getElem?_cons_succ, Tryd.f5, he, hb, hj2, hb2]
      repeat' (first | (refine wpc_split _ (fun hc => ?_) (fun hc => ?_) <;> (try simp at hc)) | (refine ww_split _ (fun hc => ?_) (fun hc => ?_) <;> (try simp at hc)) | (refine wp_draw _ (by kernel_rfl) ?_) | (refine wk_yldW _ ?_) | (refine owe ?_ (fun ho => ?_)) | (simp (disch := first | assumption | omega | (simp; done) | (simp; omega)) [he, hb, hj2, hb2, -getElem?_pos, List.getElem?_cons_zero, List.getElem?_cons_succ]))
@[simp] theorem S5 (s : List UInt8) (l : List Int) (hs : s.length < 1099511627776) (hl : l.length < 1099511627776) (q1 : Fl) (hh : Heap) : Ci cfg (.func (.func 5) [] []) [.str s, R  q1 eI l] hh = some (.ret (.bool true), hh) :=
  Ci_K cfg rfl rfl (by simp) (by simp) (C5 s l hs hl)
end Go.Ab
