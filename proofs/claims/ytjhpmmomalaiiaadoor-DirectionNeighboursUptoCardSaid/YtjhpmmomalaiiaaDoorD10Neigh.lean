/- DirectionNeighbours: the law. -/
import Derived.Test.YtjhpmmomalaiiaaDoorB8
set_option linter.unusedVariables false
set_option linter.unusedSimpArgs false
set_option linter.unusedSectionVars false
set_option linter.deprecated false
namespace Go.Ab
open Go.Proofs
set_option maxRecDepth 100000
set_option maxHeartbeats 4000000
theorem C5 (L : List Int) (hs : L.length < 1099511627776) : Kc cfg 5 [R fl0 eI L] (.ret (.bool true)) := by
  by_cases hp : L.length ≤ 120 ∧ allL L = true
  · have hP : placesS L = (rowF L.length (fun i => (atF L i : Int)), true, true) := by unfold placesS; rw [if_pos hp]
    have hrange := fun i (h : i < L.length) => of_decide_eq_true (List.all_eq_true.1 hp.2 _ (nth_mem h))
    have hrl : (rowF L.length (fun i => (atF L i : Int))).length = L.length := by simp
    have hrn := fun i (h : i < L.length) => nth_rowF (g := fun i => (atF L i : Int)) h
    have halt := fun i (h : i < L.length) => atF_lt (L := L) (i := i) h
    have hnb := fun i => at_neighbours (L := L) (i := i)
    generalize hW : rowF L.length (fun i => (atF L i : Int)) = W at *
    refine outS_of_wp cfg (fn := Tryd.f5) Tryd.func5 rfl (by simp [Tryd.f5]) ?_
    simp (disch := first | assumption | omega | (simp; done) | (simp; omega)) [-getElem?_pos, List.getElem?_cons_zero, List.getElem?_cons_succ, Tryd.f5, hP]
    repeat' (first | (refine wpc_split _ (fun hc => ?_) (fun hc => ?_) <;> (try simp at hc)) | (refine ww_split _ (fun hc => ?_) (fun hc => ?_) <;> (try simp at hc)) | (refine wp_drawF (by kernel_rfl) ?_) | (refine wk_yldW _ ?_) | (refine layOwe _ (by kernel_rfl) ?_) | (refine owe ?_ (fun ho => ?_)) | (simp (disch := first | assumption | omega | (simp; done) | (simp; omega)) [hP, -getElem?_pos, List.getElem?_cons_zero, List.getElem?_cons_succ]))
    refine wp_loopE cfg rfl (fun f0 h0 m fr h => ∃ i : Nat, fr 0 = f0 0 ∧ fr 3 = f0 3 ∧ fr 24 = f0 24 ∧ fr 25 = .int .i64 i ∧ (i + m = L.length)) (L.length) _ _ ⟨0, rfl, rfl, rfl, by first | rfl | (simp; done) | (simp [R]; done) | simp [R], by first | rfl | (simp; done) | omega⟩ ?_
    rintro Am Af Ah ⟨i, A0, A3, A24, A25, hm⟩ Aih
    try simp at A0 A3 A24
    by_cases hi : i < L.length
    · by_cases h0 : i = 0
      · subst h0
        repeat' (first | (refine wpc_split _ (fun hc => ?_) (fun hc => ?_) <;> (try simp at hc)) | (refine ww_split _ (fun hc => ?_) (fun hc => ?_) <;> (try simp at hc)) | (refine wp_drawF (by kernel_rfl) ?_) | (refine wk_yldW _ ?_) | (refine layOwe _ (by kernel_rfl) ?_) | (refine owe ?_ (fun ho => ?_)) | (simp (disch := first | assumption | omega | (simp; done) | (simp; omega)) [A0, A3, A24, A25, eI, -getElem?_pos, List.getElem?_cons_zero, List.getElem?_cons_succ]))
        all_goals first
          | (exfalso; omega)
          | exact Aih (Am - 1) _ _ (by omega) ⟨0 + 1, by simp [A0, A3, A24, A25], by simp [A0, A3, A24, A25], by simp [A0, A3, A24, A25], by simp [A0, A3, A24, A25], by omega⟩
      · obtain ⟨p, rfl⟩ : ∃ p, i = p + 1 := ⟨i - 1, by omega⟩
        have hp1 : p < L.length := by omega
        have e1 : (((p + 1 : Nat) : Int) - 1).toNat = p := by omega
        have e2 : ((p : Int) + 1 - 1).toNat = p := by omega
        have g1 := hrn p hp1
        have g2 := hrn (p + 1) hi
        have g3 := halt p hp1
        have g4 := halt (p + 1) hi
        have g5 := hrange p hp1
        by_cases he : nth L p = nth L (p + 1)
        · have hn := hnb p hi g5.1 he
          by_cases h1 : nth L (p + 1) = 1
          · rw [if_pos h1] at hn
            have hn2 : ((atF L (p + 1) : Nat) : Int) = (atF L p : Int) - 1 := by omega
            repeat' (first | (refine wpc_split _ (fun hc => ?_) (fun hc => ?_) <;> (try simp at hc)) | (refine ww_split _ (fun hc => ?_) (fun hc => ?_) <;> (try simp at hc)) | (refine wp_drawF (by kernel_rfl) ?_) | (refine wk_yldW _ ?_) | (refine layOwe _ (by kernel_rfl) ?_) | (refine owe ?_ (fun ho => ?_)) | (simp (disch := first | assumption | omega | (simp; done) | (simp; omega)) [A0, A3, A24, A25, eI, e1, e2, he, h1, g1, g2, hrl, hn2, -getElem?_pos, List.getElem?_cons_zero, List.getElem?_cons_succ]))
            all_goals first
              | (exfalso; omega)
              | exact Aih (Am - 1) _ _ (by omega) ⟨p + 1 + 1, by simp [A0, A3, A24, A25], by simp [A0, A3, A24, A25], by simp [A0, A3, A24, A25], by simp [A0, A3, A24, A25], by omega⟩
          · rw [if_neg h1] at hn
            repeat' (first | (refine wpc_split _ (fun hc => ?_) (fun hc => ?_) <;> (try simp at hc)) | (refine ww_split _ (fun hc => ?_) (fun hc => ?_) <;> (try simp at hc)) | (refine wp_drawF (by kernel_rfl) ?_) | (refine wk_yldW _ ?_) | (refine layOwe _ (by kernel_rfl) ?_) | (refine owe ?_ (fun ho => ?_)) | (simp (disch := first | assumption | omega | (simp; done) | (simp; omega)) [A0, A3, A24, A25, eI, e1, e2, he, h1, g1, g2, hrl, hn, -getElem?_pos, List.getElem?_cons_zero, List.getElem?_cons_succ]))
            all_goals first
              | (exfalso; omega)
              | exact Aih (Am - 1) _ _ (by omega) ⟨p + 1 + 1, by simp [A0, A3, A24, A25], by simp [A0, A3, A24, A25], by simp [A0, A3, A24, A25], by simp [A0, A3, A24, A25], by omega⟩
        · repeat' (first | (refine wpc_split _ (fun hc => ?_) (fun hc => ?_) <;> (try simp at hc)) | (refine ww_split _ (fun hc => ?_) (fun hc => ?_) <;> (try simp at hc)) | (refine wp_drawF (by kernel_rfl) ?_) | (refine wk_yldW _ ?_) | (refine layOwe _ (by kernel_rfl) ?_) | (refine owe ?_ (fun ho => ?_)) | (simp (disch := first | assumption | omega | (simp; done) | (simp; omega)) [A0, A3, A24, A25, eI, e1, e2, he, -getElem?_pos, List.getElem?_cons_zero, List.getElem?_cons_succ]))
          all_goals first
            | (exfalso; omega)
            | exact Aih (Am - 1) _ _ (by omega) ⟨p + 1 + 1, by simp [A0, A3, A24, A25], by simp [A0, A3, A24, A25], by simp [A0, A3, A24, A25], by simp [A0, A3, A24, A25], by omega⟩
    · repeat' (first | (refine wpc_split _ (fun hc => ?_) (fun hc => ?_) <;> (try simp at hc)) | (refine ww_split _ (fun hc => ?_) (fun hc => ?_) <;> (try simp at hc)) | (refine wp_drawF (by kernel_rfl) ?_) | (refine wk_yldW _ ?_) | (refine layOwe _ (by kernel_rfl) ?_) | (refine owe ?_ (fun ho => ?_)) | (simp (disch := first | assumption | omega | (simp; done) | (simp; omega)) [A0, A3, A24, A25, -getElem?_pos, List.getElem?_cons_zero, List.getElem?_cons_succ]))
  · have hP : placesS L = ([], false, true) := by unfold placesS; rw [if_neg hp]
    refine outS_of_wp cfg (fn := Tryd.f5) Tryd.func5 rfl (by simp [Tryd.f5]) ?_
    simp (disch := first | assumption | omega | (simp; done) | (simp; omega)) [-getElem?_pos, List.getElem?_cons_zero, List.getElem?_cons_succ, Tryd.f5, hP]
    repeat' (first | (refine wpc_split _ (fun hc => ?_) (fun hc => ?_) <;> (try simp at hc)) | (refine ww_split _ (fun hc => ?_) (fun hc => ?_) <;> (try simp at hc)) | (refine wp_drawF (by kernel_rfl) ?_) | (refine wk_yldW _ ?_) | (refine layOwe _ (by kernel_rfl) ?_) | (refine owe ?_ (fun ho => ?_)) | (simp (disch := first | assumption | omega | (simp; done) | (simp; omega)) [hP, -getElem?_pos, List.getElem?_cons_zero, List.getElem?_cons_succ]))
@[simp] theorem S5 (L : List Int) (hs : L.length < 1099511627776) (q1 : Fl) (hh : Heap) : Ci cfg (.func (.func 5) [] []) [R  q1 eI L] hh = some (.ret (.bool true), hh) :=
  Ci_K cfg rfl rfl (by simp) (by simp) (C5 L hs)
end Go.Ab
