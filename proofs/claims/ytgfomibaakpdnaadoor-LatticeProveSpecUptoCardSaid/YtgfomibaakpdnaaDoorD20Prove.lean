/- LatticeProveSpec: the law. -/
import Derived.Test.YtgfomibaakpdnaaDoorD20
set_option linter.unusedVariables false
set_option linter.unusedSimpArgs false
set_option linter.unusedSectionVars false
set_option linter.deprecated false
namespace Go.Ab
open Go.Proofs
set_option maxRecDepth 100000
set_option maxHeartbeats 4000000
theorem C4 (n : Int) (l : List Edge) (p g : List Int) (ws : List (List UInt8)) (hs : l.length < 1099511627776) (hs2 : p.length < 1099511627776 ∧ g.length < 1099511627776) (hs3 : ws.length < 1099511627776) (ht : ∀ x ∈ l, x.text.length < 1099511627776) (htw : ∀ x ∈ ws, x.length < 1099511627776) : Kc cfg 4 [.int .i64 n, R fl0 eE l, R fl0 eI p, R fl0 eI g, R fl0 eS ws] (.ret (.bool true)) := by
  have hb := prove_len n l
  have S := S15 (proveS n l).1 (proveS n l).1 (by omega)
  have hs4 := hs2.1
  have hs5 := hs2.2
  cases hf : fewE l with
  | false =>
    refine outS_of_wp cfg (fn := Tryd.f4) Tryd.func4 rfl (by simp [Tryd.f4]) ?_
    simp (config := { maxSteps := 2000000 }) (disch := first | assumption | omega | (simp; done) | (simp; omega)) [-getElem?_pos, List.getElem?_cons_zero, List.getElem?_cons_succ, Tryd.f4, hf]
    repeat' (first | (refine wpc_split _ (fun hc => ?_) (fun hc => ?_) <;> (try simp at hc)) | (refine ww_split _ (fun hc => ?_) (fun hc => ?_) <;> (try simp at hc)) | (refine wp_drawF (by kernel_rfl) ?_) | (refine wk_yldW _ ?_) | (refine layOwe _ (by kernel_rfl) ?_) | (refine owe ?_ (fun ho => ?_)) | (simp (config := { maxSteps := 2000000 }) (disch := first | assumption | omega | (simp; done) | (simp; omega)) [hf, -getElem?_pos, List.getElem?_cons_zero, List.getElem?_cons_succ]))
  | true =>
    cases hw : fewW ws with
    | false =>
      by_cases h1 : 100 < p.length
      · skip
        refine outS_of_wp cfg (fn := Tryd.f4) Tryd.func4 rfl (by simp [Tryd.f4]) ?_
        simp (config := { maxSteps := 2000000 }) (disch := first | assumption | omega | (simp; done) | (simp; omega)) [-getElem?_pos, List.getElem?_cons_zero, List.getElem?_cons_succ, Tryd.f4, hf, hw]
        repeat' (first | (refine wpc_split _ (fun hc => ?_) (fun hc => ?_) <;> (try simp at hc)) | (refine ww_split _ (fun hc => ?_) (fun hc => ?_) <;> (try simp at hc)) | (refine wp_drawF (by kernel_rfl) ?_) | (refine wk_yldW _ ?_) | (refine layOwe _ (by kernel_rfl) ?_) | (refine owe ?_ (fun ho => ?_)) | (simp (config := { maxSteps := 2000000 }) (disch := first | assumption | omega | (simp; done) | (simp; omega)) [hf, hw, -getElem?_pos, List.getElem?_cons_zero, List.getElem?_cons_succ]))
        all_goals first | rfl | (exfalso; omega)
      · by_cases h2 : 100 < g.length
        · skip
          refine outS_of_wp cfg (fn := Tryd.f4) Tryd.func4 rfl (by simp [Tryd.f4]) ?_
          simp (config := { maxSteps := 2000000 }) (disch := first | assumption | omega | (simp; done) | (simp; omega)) [-getElem?_pos, List.getElem?_cons_zero, List.getElem?_cons_succ, Tryd.f4, hf, hw]
          repeat' (first | (refine wpc_split _ (fun hc => ?_) (fun hc => ?_) <;> (try simp at hc)) | (refine ww_split _ (fun hc => ?_) (fun hc => ?_) <;> (try simp at hc)) | (refine wp_drawF (by kernel_rfl) ?_) | (refine wk_yldW _ ?_) | (refine layOwe _ (by kernel_rfl) ?_) | (refine owe ?_ (fun ho => ?_)) | (simp (config := { maxSteps := 2000000 }) (disch := first | assumption | omega | (simp; done) | (simp; omega)) [hf, hw, -getElem?_pos, List.getElem?_cons_zero, List.getElem?_cons_succ]))
          all_goals first | rfl | (exfalso; omega)
        · skip
          refine outS_of_wp cfg (fn := Tryd.f4) Tryd.func4 rfl (by simp [Tryd.f4]) ?_
          simp (config := { maxSteps := 2000000 }) (disch := first | assumption | omega | (simp; done) | (simp; omega)) [-getElem?_pos, List.getElem?_cons_zero, List.getElem?_cons_succ, Tryd.f4, hf, hw]
          repeat' (first | (refine wpc_split _ (fun hc => ?_) (fun hc => ?_) <;> (try simp at hc)) | (refine ww_split _ (fun hc => ?_) (fun hc => ?_) <;> (try simp at hc)) | (refine wp_drawF (by kernel_rfl) ?_) | (refine wk_yldW _ ?_) | (refine layOwe _ (by kernel_rfl) ?_) | (refine owe ?_ (fun ho => ?_)) | (simp (config := { maxSteps := 2000000 }) (disch := first | assumption | omega | (simp; done) | (simp; omega)) [hf, hw, -getElem?_pos, List.getElem?_cons_zero, List.getElem?_cons_succ]))
          all_goals first | rfl | (exfalso; omega)
    | true =>
      by_cases h1 : 100 < p.length
      · skip
        refine outS_of_wp cfg (fn := Tryd.f4) Tryd.func4 rfl (by simp [Tryd.f4]) ?_
        simp (config := { maxSteps := 2000000 }) (disch := first | assumption | omega | (simp; done) | (simp; omega)) [-getElem?_pos, List.getElem?_cons_zero, List.getElem?_cons_succ, Tryd.f4, hf, hw]
        repeat' (first | (refine wpc_split _ (fun hc => ?_) (fun hc => ?_) <;> (try simp at hc)) | (refine ww_split _ (fun hc => ?_) (fun hc => ?_) <;> (try simp at hc)) | (refine wp_drawF (by kernel_rfl) ?_) | (refine wk_yldW _ ?_) | (refine layOwe _ (by kernel_rfl) ?_) | (refine owe ?_ (fun ho => ?_)) | (simp (config := { maxSteps := 2000000 }) (disch := first | assumption | omega | (simp; done) | (simp; omega)) [hf, hw, -getElem?_pos, List.getElem?_cons_zero, List.getElem?_cons_succ]))
        all_goals first | rfl | (exfalso; omega)
      · by_cases h2 : 100 < g.length
        · skip
          refine outS_of_wp cfg (fn := Tryd.f4) Tryd.func4 rfl (by simp [Tryd.f4]) ?_
          simp (config := { maxSteps := 2000000 }) (disch := first | assumption | omega | (simp; done) | (simp; omega)) [-getElem?_pos, List.getElem?_cons_zero, List.getElem?_cons_succ, Tryd.f4, hf, hw]
          repeat' (first | (refine wpc_split _ (fun hc => ?_) (fun hc => ?_) <;> (try simp at hc)) | (refine ww_split _ (fun hc => ?_) (fun hc => ?_) <;> (try simp at hc)) | (refine wp_drawF (by kernel_rfl) ?_) | (refine wk_yldW _ ?_) | (refine layOwe _ (by kernel_rfl) ?_) | (refine owe ?_ (fun ho => ?_)) | (simp (config := { maxSteps := 2000000 }) (disch := first | assumption | omega | (simp; done) | (simp; omega)) [hf, hw, -getElem?_pos, List.getElem?_cons_zero, List.getElem?_cons_succ]))
          all_goals first | rfl | (exfalso; omega)
        · skip
          refine outS_of_wp cfg (fn := Tryd.f4) Tryd.func4 rfl (by simp [Tryd.f4]) ?_
          simp (config := { maxSteps := 2000000 }) (disch := first | assumption | omega | (simp; done) | (simp; omega)) [-getElem?_pos, List.getElem?_cons_zero, List.getElem?_cons_succ, Tryd.f4, hf, hw]
          repeat' (first | (refine wpc_split _ (fun hc => ?_) (fun hc => ?_) <;> (try simp at hc)) | (refine ww_split _ (fun hc => ?_) (fun hc => ?_) <;> (try simp at hc)) | (refine wp_drawF (by kernel_rfl) ?_) | (refine wk_yldW _ ?_) | (refine layOwe _ (by kernel_rfl) ?_) | (refine owe ?_ (fun ho => ?_)) | (simp (config := { maxSteps := 2000000 }) (disch := first | assumption | omega | (simp; done) | (simp; omega)) [hf, hw, S, -getElem?_pos, List.getElem?_cons_zero, List.getElem?_cons_succ]))
          all_goals first | rfl | (exfalso; omega)
@[simp] theorem S4 (n : Int) (l : List Edge) (p g : List Int) (ws : List (List UInt8)) (hs : l.length < 1099511627776) (hs2 : p.length < 1099511627776 ∧ g.length < 1099511627776) (hs3 : ws.length < 1099511627776) (ht : ∀ x ∈ l, x.text.length < 1099511627776) (htw : ∀ x ∈ ws, x.length < 1099511627776) (q1 q2 q3 q4 : Fl) (hh : Heap) : Ci cfg (.func (.func 4) [] []) [.int .i64 n, R  q1 eE l, R  q2 eI p, R  q3 eI g, R  q4 eS ws] hh = some (.ret (.bool true), hh) :=
  Ci_K cfg rfl rfl (by simp) (by simp) (C4 n l p g ws hs hs2 hs3 ht htw)
end Go.Ab
