/- SentencesWhole: the mark at a text's end. -/
import Derived.Test.YtfgkjpfdpcjciaaDoorD32Later
import Derived.Test.YtfgkjpfdpcjciaaDoorAbsD
set_option linter.unusedVariables false
set_option linter.unusedSimpArgs false
set_option linter.unusedSectionVars false
set_option linter.deprecated false
namespace Go.Ab
open Go.Proofs
set_option maxRecDepth 100000
set_option maxHeartbeats 4000000
theorem K16 {s : List UInt8} (hs : s.length < 1099511627776) (h0 : 0 < s.length) (h : Heap) : Ci cfg (.func (.func 16) [] []) [.str s] h = some (.ret (.bool (markT s)), h) := by
  have hm := markB_nat (nth s (s.length - 1))
  have hd : markT s = markB (nth s (s.length - 1)) := rfl
  obtain ⟨k, hk⟩ : ∃ k, s.length = k + 1 := ⟨s.length - 1, by omega⟩
  have hk2 : s.length - 1 = k := by omega
  rw [hd, hm, hk2]
  have hi : k < s.length := by omega
  generalize hb : (nth s k) = b at *
  have hlt := b.toNat_lt
  refine Ci_of_wp (fn := Tryd.f16) Tryd.func16 rfl (by simp [Tryd.f16]) rfl ?_
  by_cases g1 : b.toNat = 46
  · rw [decide_eq_true g1]
    simp (disch := first | assumption | omega | (simp; done) | (simp; omega)) [-getElem?_pos, List.getElem?_cons_zero, List.getElem?_cons_succ, Tryd.f16, hk, hb, hi, g1]
    repeat' (first | (refine wpc_split _ (fun hc => ?_) (fun hc => ?_) <;> (try simp at hc)) | (refine ww_split _ (fun hc => ?_) (fun hc => ?_) <;> (try simp at hc)) | (refine wp_drawF (by kernel_rfl) ?_) | (refine wk_yldW _ ?_) | (refine layOwe _ (by kernel_rfl) ?_) | (refine owe ?_ (fun ho => ?_)) | (simp (disch := first | assumption | omega | (simp; done) | (simp; omega)) [hk, hb, hi, g1, -getElem?_pos, List.getElem?_cons_zero, List.getElem?_cons_succ]))
    all_goals first | rfl | (exfalso; omega) | omega | (simp; done)
  · by_cases g2 : b.toNat = 63
    · rw [decide_eq_true g2]
      simp (disch := first | assumption | omega | (simp; done) | (simp; omega)) [-getElem?_pos, List.getElem?_cons_zero, List.getElem?_cons_succ, Tryd.f16, hk, hb, hi, g1, g2]
      repeat' (first | (refine wpc_split _ (fun hc => ?_) (fun hc => ?_) <;> (try simp at hc)) | (refine ww_split _ (fun hc => ?_) (fun hc => ?_) <;> (try simp at hc)) | (refine wp_drawF (by kernel_rfl) ?_) | (refine wk_yldW _ ?_) | (refine layOwe _ (by kernel_rfl) ?_) | (refine owe ?_ (fun ho => ?_)) | (simp (disch := first | assumption | omega | (simp; done) | (simp; omega)) [hk, hb, hi, g1, g2, -getElem?_pos, List.getElem?_cons_zero, List.getElem?_cons_succ]))
      all_goals first | rfl | (exfalso; omega) | omega | (simp; done)
    · by_cases g3 : b.toNat = 33
      · rw [decide_eq_true g3]
        simp (disch := first | assumption | omega | (simp; done) | (simp; omega)) [-getElem?_pos, List.getElem?_cons_zero, List.getElem?_cons_succ, Tryd.f16, hk, hb, hi, g1, g2, g3]
        repeat' (first | (refine wpc_split _ (fun hc => ?_) (fun hc => ?_) <;> (try simp at hc)) | (refine ww_split _ (fun hc => ?_) (fun hc => ?_) <;> (try simp at hc)) | (refine wp_drawF (by kernel_rfl) ?_) | (refine wk_yldW _ ?_) | (refine layOwe _ (by kernel_rfl) ?_) | (refine owe ?_ (fun ho => ?_)) | (simp (disch := first | assumption | omega | (simp; done) | (simp; omega)) [hk, hb, hi, g1, g2, g3, -getElem?_pos, List.getElem?_cons_zero, List.getElem?_cons_succ]))
        all_goals first | rfl | (exfalso; omega) | omega | (simp; done)
      · rw [decide_eq_false g1, decide_eq_false g2, decide_eq_false g3]
        simp (disch := first | assumption | omega | (simp; done) | (simp; omega)) [-getElem?_pos, List.getElem?_cons_zero, List.getElem?_cons_succ, Tryd.f16, hk, hb, hi, g1, g2, g3]
        repeat' (first | (refine wpc_split _ (fun hc => ?_) (fun hc => ?_) <;> (try simp at hc)) | (refine ww_split _ (fun hc => ?_) (fun hc => ?_) <;> (try simp at hc)) | (refine wp_drawF (by kernel_rfl) ?_) | (refine wk_yldW _ ?_) | (refine layOwe _ (by kernel_rfl) ?_) | (refine owe ?_ (fun ho => ?_)) | (simp (disch := first | assumption | omega | (simp; done) | (simp; omega)) [hk, hb, hi, g1, g2, g3, -getElem?_pos, List.getElem?_cons_zero, List.getElem?_cons_succ]))
        all_goals first | rfl | (exfalso; omega) | omega | (simp; done)
end Go.Ab
