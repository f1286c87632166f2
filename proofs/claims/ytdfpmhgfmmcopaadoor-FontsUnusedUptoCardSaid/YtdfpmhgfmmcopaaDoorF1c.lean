/- Layer 11 (fonts): the reference's Check. -/
import Derived.Test.YtdfpmhgfmmcopaaDoorF1b
import Derived.Test.YtdfpmhgfmmcopaaDoorF1e
set_option linter.unusedVariables false
set_option linter.unusedSimpArgs false
set_option linter.unusedSectionVars false
set_option linter.deprecated false
namespace Go.Ab
open Go.Proofs
set_option maxRecDepth 100000
set_option maxHeartbeats 4000000
theorem C14 (f : Font) (hs : f.gs.length < 1099511627776 ∧ f.ks.length < 1099511627776) : Kc cfg 14 [.agg [R fl0 eG f.gs, .int .i64 f.other, R fl0 eK f.ks]] (.ret (.int .i64 (checkS f))) := by
  by_cases hl : 1024 < f.gs.length ∨ 1024 < f.ks.length
  · rw [checkS_long hl]
    refine outS_of_wp cfg (fn := Tryd.f14) Tryd.func14 rfl (by simp [Tryd.f14]) ?_
    simp (disch := first | assumption | omega | (simp; done) | (simp; omega)) [-getElem?_pos, List.getElem?_cons_zero, List.getElem?_cons_succ, Tryd.f14]
    repeat' (first | (refine wpc_split _ (fun hc => ?_) (fun hc => ?_) <;> (try simp at hc)) | (refine ww_split _ (fun hc => ?_) (fun hc => ?_) <;> (try simp at hc)) | (refine wp_drawF (by kernel_rfl) ?_) | (refine wk_yldW _ ?_) | (refine owe ?_ (fun ho => ?_)) | (simp (disch := first | assumption | omega | (simp; done) | (simp; omega)) [-getElem?_pos, List.getElem?_cons_zero, List.getElem?_cons_succ]))
    all_goals omega
  rw [checkS_short hl]
  by_cases hw : widthN f.other = false
  · rw [hw]
    refine outS_of_wp cfg (fn := Tryd.f14) Tryd.func14 rfl (by simp [Tryd.f14]) ?_
    simp (disch := first | assumption | omega | (simp; done) | (simp; omega)) [-getElem?_pos, List.getElem?_cons_zero, List.getElem?_cons_succ, Tryd.f14, hw]
    repeat' (first | (refine wpc_split _ (fun hc => ?_) (fun hc => ?_) <;> (try simp at hc)) | (refine ww_split _ (fun hc => ?_) (fun hc => ?_) <;> (try simp at hc)) | (refine wp_drawF (by kernel_rfl) ?_) | (refine wk_yldW _ ?_) | (refine owe ?_ (fun ho => ?_)) | (simp (disch := first | assumption | omega | (simp; done) | (simp; omega)) [hw, -getElem?_pos, List.getElem?_cons_zero, List.getElem?_cons_succ]))
  have hw : widthN f.other = true := by simpa using hw
  rw [hw]
  refine outS_of_wp cfg (fn := Tryd.f14) Tryd.func14 rfl (by simp [Tryd.f14]) ?_
  simp (disch := first | assumption | omega | (simp; done) | (simp; omega)) [-getElem?_pos, List.getElem?_cons_zero, List.getElem?_cons_succ, Tryd.f14, hw]
  repeat' (first | (refine wpc_split _ (fun hc => ?_) (fun hc => ?_) <;> (try simp at hc)) | (refine ww_split _ (fun hc => ?_) (fun hc => ?_) <;> (try simp at hc)) | (refine wp_drawF (by kernel_rfl) ?_) | (refine wk_yldW _ ?_) | (refine owe ?_ (fun ho => ?_)) | (simp (disch := first | assumption | omega | (simp; done) | (simp; omega)) [hw, -getElem?_pos, List.getElem?_cons_zero, List.getElem?_cons_succ]))
  refine LcheckG f hs _ (by kernel_rfl) _ _ _ _ (by simp) (by simp) (by simp) (fun hg fr' h' e1 e0 => ?_) (fun hk fr' h' e2 => ?_)
  · rw [hg]
    repeat' (first | (refine wpc_split _ (fun hc => ?_) (fun hc => ?_) <;> (try simp at hc)) | (refine ww_split _ (fun hc => ?_) (fun hc => ?_) <;> (try simp at hc)) | (refine wp_drawF (by kernel_rfl) ?_) | (refine wk_yldW _ ?_) | (refine owe ?_ (fun ho => ?_)) | (simp (disch := first | assumption | omega | (simp; done) | (simp; omega)) [e1, e0, -getElem?_pos, List.getElem?_cons_zero, List.getElem?_cons_succ]))
    refine LcheckK f hs _ (by kernel_rfl) _ _ _ _ (by simp [e1]) (by simp) (by simp [e0]) (fun hk fr' h' e1 e0 => ?_) (fun hk fr' h' e2 => ?_)
    · rw [hk]
      repeat' (first | (refine wpc_split _ (fun hc => ?_) (fun hc => ?_) <;> (try simp at hc)) | (refine ww_split _ (fun hc => ?_) (fun hc => ?_) <;> (try simp at hc)) | (refine wp_drawF (by kernel_rfl) ?_) | (refine wk_yldW _ ?_) | (refine owe ?_ (fun ho => ?_)) | (simp (disch := first | assumption | omega | (simp; done) | (simp; omega)) [e1, e0, -getElem?_pos, List.getElem?_cons_zero, List.getElem?_cons_succ]))
    · rw [hk]
      repeat' (first | (refine wpc_split _ (fun hc => ?_) (fun hc => ?_) <;> (try simp at hc)) | (refine ww_split _ (fun hc => ?_) (fun hc => ?_) <;> (try simp at hc)) | (refine wp_drawF (by kernel_rfl) ?_) | (refine wk_yldW _ ?_) | (refine owe ?_ (fun ho => ?_)) | (simp (disch := first | assumption | omega | (simp; done) | (simp; omega)) [e2, -getElem?_pos, List.getElem?_cons_zero, List.getElem?_cons_succ]))
  · rw [hk]
    repeat' (first | (refine wpc_split _ (fun hc => ?_) (fun hc => ?_) <;> (try simp at hc)) | (refine ww_split _ (fun hc => ?_) (fun hc => ?_) <;> (try simp at hc)) | (refine wp_drawF (by kernel_rfl) ?_) | (refine wk_yldW _ ?_) | (refine owe ?_ (fun ho => ?_)) | (simp (disch := first | assumption | omega | (simp; done) | (simp; omega)) [e2, -getElem?_pos, List.getElem?_cons_zero, List.getElem?_cons_succ]))
@[simp] theorem S14 (f : Font) (hs : f.gs.length < 1099511627776 ∧ f.ks.length < 1099511627776) (q1 q2 : Fl) (hh : Heap) : Ci cfg (.func (.func 14) [] []) [.agg [R  q1 eG f.gs, .int .i64 f.other, R  q2 eK f.ks]] hh = some (.ret (.int .i64 (checkS f)), hh) :=
  Ci_K cfg rfl rfl (by simp) (by simp) (C14 f hs)
end Go.Ab
