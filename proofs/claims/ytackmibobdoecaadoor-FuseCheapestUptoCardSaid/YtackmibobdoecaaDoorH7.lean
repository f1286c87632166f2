/- Layer 22 (fuse): the laws' functions. -/
import Derived.Test.YtackmibobdoecaaDoorH6
import Derived.Test.YtackmibobdoecaaDoorH4d
set_option linter.unusedVariables false
set_option linter.unusedSimpArgs false
set_option linter.unusedSectionVars false
set_option linter.deprecated false
namespace Go.Ab
open Go.Proofs
set_option maxRecDepth 100000
set_option maxHeartbeats 4000000
theorem allB_f {α : Type} [Inhabited α] {p : α → Bool} {l : List α} {i : Nat} (hi : i < l.length) (h : p (nth l i) = false) : l.all p = false := by
  cases e : l.all p with
  | false => rfl
  | true => rw [List.all_eq_true] at e; have := e _ (nth_mem hi); rw [h] at this; cases this
theorem allB_t {α : Type} [Inhabited α] {p : α → Bool} {l : List α} (h : ∀ j, j < l.length → p (nth l j) = true) : l.all p = true := by
  rw [List.all_eq_true]
  intro x hx
  obtain ⟨j, hj, rfl⟩ := List.getElem_of_mem hx
  have := h j hj
  rwa [nth_eq hj] at this
def fewC (c : Cell) : Bool := decide (c.alts.length ≤ 8) && decide (c.text.length ≤ 200)
def fewR (r : List Cell) : Bool := (decide (r.length ≤ 12) || (decide (64 < r.length) && decide (r.length ≤ 80))) && r.all fewC
def fewB (l : List (List Cell)) : Bool := (decide (l.length ≤ 40) || (decide (1024 < l.length) && decide (l.length ≤ 1100))) && l.all fewR
theorem C10 (l : List (List Cell)) (hs : smL l) : Kc cfg 10 [R fl0 (eR eC) l] (.ret (.bool (fewB l))) := by
  have hs1 := hs.1
  have hd : fewB l = ((decide (l.length ≤ 40) || (decide (1024 < l.length) && decide (l.length ≤ 1100))) && l.all fewR) := rfl
  by_cases g0 : (l.length ≤ 40 ∨ (1024 < l.length ∧ l.length ≤ 1100))
  · have g0' : (decide (l.length ≤ 40) || (decide (1024 < l.length) && decide (l.length ≤ 1100))) = true := by simpa using g0
    rw [hd, g0', Bool.true_and]
    generalize hF : l.all fewR = F
    refine outS_of_wp cfg (fn := Tryd.f10) Tryd.func10 rfl (by simp [Tryd.f10]) ?_
    simp (disch := first | assumption | omega | (simp; done) | (simp; omega)) [-getElem?_pos, List.getElem?_cons_zero, List.getElem?_cons_succ, Tryd.f10, ]
    repeat' (first | (refine wpc_split _ (fun hc => ?_) (fun hc => ?_) <;> (try simp at hc)) | (refine ww_split _ (fun hc => ?_) (fun hc => ?_) <;> (try simp at hc)) | (refine wp_drawF (by kernel_rfl) ?_) | (refine wk_yldW _ ?_) | (refine layOwe _ (by kernel_rfl) ?_) | (refine owe ?_ (fun ho => ?_)) | (simp (disch := first | assumption | omega | (simp; done) | (simp; omega)) [-getElem?_pos, List.getElem?_cons_zero, List.getElem?_cons_succ]))
    all_goals try (exfalso; omega)
    all_goals
      refine wp_loopE cfg rfl (fun f0 h0 m fr h => ∃ i : Nat, fr 0 = f0 0 ∧ fr 3 = .int .i64 i ∧ h.bs = h0.bs ∧ (i + m = l.length) ∧ (∀ j, j < i → fewR (nth l j) = true)) (l.length) _ _ ⟨0, rfl, by first | rfl | (simp; done) | (simp [R]; done) | simp [R], rfl, by first | rfl | (simp; done) | omega, fun j hj => by omega⟩ ?_
      rintro Am Af Ah ⟨i, A0, A3, Abs, hm, ht⟩ Aih
      try simp at A0 Abs
      by_cases hi : i < l.length
      · have hsi := smL_nth hs hi
        have hsi1 := hsi.1
        have hr : fewR (nth l i) = ((decide ((nth l i).length ≤ 12) || (decide (64 < (nth l i).length) && decide ((nth l i).length ≤ 80))) && (nth l i).all fewC) := rfl
        by_cases g1 : ((nth l i).length ≤ 12 ∨ (64 < (nth l i).length ∧ (nth l i).length ≤ 80))
        · have g1' : (decide ((nth l i).length ≤ 12) || (decide (64 < (nth l i).length) && decide ((nth l i).length ≤ 80))) = true := by simpa using g1
          repeat' (first | (refine wpc_split _ (fun hc => ?_) (fun hc => ?_) <;> (try simp at hc)) | (refine ww_split _ (fun hc => ?_) (fun hc => ?_) <;> (try simp at hc)) | (refine wp_drawF (by kernel_rfl) ?_) | (refine wk_yldW _ ?_) | (refine layOwe _ (by kernel_rfl) ?_) | (refine owe ?_ (fun ho => ?_)) | (simp (disch := first | assumption | omega | (simp; done) | (simp; omega)) [A0, A3, Abs, eR, -getElem?_pos, List.getElem?_cons_zero, List.getElem?_cons_succ]))
          all_goals try (exfalso; omega)
          all_goals
            refine wp_loopE cfg rfl (fun f0 h0 m fr h => ∃ k : Nat, fr 0 = f0 0 ∧ fr 3 = f0 3 ∧ fr 4 = .int .i64 k ∧ h.bs = h0.bs ∧ (k + m = (nth l i).length) ∧ (∀ j, j < k → fewC (nth (nth l i) j) = true)) ((nth l i).length) _ _ ⟨0, rfl, rfl, by first | rfl | (simp; done) | (simp [R]; done) | simp [R], rfl, by first | rfl | (simp; done) | omega, fun j hj => by omega⟩ ?_
            rintro Bm Bf Bh ⟨k, B0, B3, B4, Bbs, hm2, ht2⟩ Bih
            try simp [A0, A3, Abs] at B0 B3 Bbs
            by_cases hk : k < (nth l i).length
            · have hck := smS_nth hsi hk
              obtain ⟨hc1, hc2, _⟩ := hck
              have hcd : fewC (nth (nth l i) k) = (decide ((nth (nth l i) k).alts.length ≤ 8) && decide ((nth (nth l i) k).text.length ≤ 200)) := rfl
              by_cases g2 : (nth (nth l i) k).alts.length ≤ 8
              · by_cases g3 : (nth (nth l i) k).text.length ≤ 200
                · have hw : fewC (nth (nth l i) k) = true := by rw [hcd, decide_eq_true g2, decide_eq_true g3]; rfl
                  repeat' (first | (refine wpc_split _ (fun hc => ?_) (fun hc => ?_) <;> (try simp at hc)) | (refine ww_split _ (fun hc => ?_) (fun hc => ?_) <;> (try simp at hc)) | (refine wp_drawF (by kernel_rfl) ?_) | (refine wk_yldW _ ?_) | (refine layOwe _ (by kernel_rfl) ?_) | (refine owe ?_ (fun ho => ?_)) | (simp (disch := first | assumption | omega | (simp; done) | (simp; omega)) [B0, B3, B4, Bbs, A0, A3, Abs, eR, -getElem?_pos, List.getElem?_cons_zero, List.getElem?_cons_succ]))
                  all_goals try (exfalso; omega)
                  exact Bih (Bm - 1) _ _ (by omega) ⟨k + 1, by simp [B0, B3, B4, Bbs, A0, A3, Abs], by simp [B0, B3, B4, Bbs, A0, A3, Abs], by simp [B0, B3, B4, Bbs, A0, A3, Abs], by simp [B0, B3, B4, Bbs, A0, A3, Abs], by omega, fun j hj => by (by_cases e : j = k; (subst e; exact hw); exact ht2 j (by omega))⟩
                · have hw : fewC (nth (nth l i) k) = false := by rw [hcd, decide_eq_false g3]; simp
                  have hw2 : fewR (nth l i) = false := by rw [hr, allB_f hk hw]; simp
                  rw [allB_f hi hw2] at hF
                  subst hF
                  repeat' (first | (refine wpc_split _ (fun hc => ?_) (fun hc => ?_) <;> (try simp at hc)) | (refine ww_split _ (fun hc => ?_) (fun hc => ?_) <;> (try simp at hc)) | (refine wp_drawF (by kernel_rfl) ?_) | (refine wk_yldW _ ?_) | (refine layOwe _ (by kernel_rfl) ?_) | (refine owe ?_ (fun ho => ?_)) | (simp (disch := first | assumption | omega | (simp; done) | (simp; omega)) [B0, B3, B4, Bbs, A0, A3, Abs, eR, -getElem?_pos, List.getElem?_cons_zero, List.getElem?_cons_succ]))
                  all_goals first | rfl | (exfalso; omega)
              · have hw : fewC (nth (nth l i) k) = false := by rw [hcd, decide_eq_false g2]; simp
                have hw2 : fewR (nth l i) = false := by rw [hr, allB_f hk hw]; simp
                rw [allB_f hi hw2] at hF
                subst hF
                repeat' (first | (refine wpc_split _ (fun hc => ?_) (fun hc => ?_) <;> (try simp at hc)) | (refine ww_split _ (fun hc => ?_) (fun hc => ?_) <;> (try simp at hc)) | (refine wp_drawF (by kernel_rfl) ?_) | (refine wk_yldW _ ?_) | (refine layOwe _ (by kernel_rfl) ?_) | (refine owe ?_ (fun ho => ?_)) | (simp (disch := first | assumption | omega | (simp; done) | (simp; omega)) [B0, B3, B4, Bbs, A0, A3, Abs, eR, -getElem?_pos, List.getElem?_cons_zero, List.getElem?_cons_succ]))
                all_goals first | rfl | (exfalso; omega)
            · have hw2 : fewR (nth l i) = true := by rw [hr, g1', allB_t (fun j hj => ht2 j (by omega))]; rfl
              repeat' (first | (refine wpc_split _ (fun hc => ?_) (fun hc => ?_) <;> (try simp at hc)) | (refine ww_split _ (fun hc => ?_) (fun hc => ?_) <;> (try simp at hc)) | (refine wp_drawF (by kernel_rfl) ?_) | (refine wk_yldW _ ?_) | (refine layOwe _ (by kernel_rfl) ?_) | (refine owe ?_ (fun ho => ?_)) | (simp (disch := first | assumption | omega | (simp; done) | (simp; omega)) [B0, B3, B4, Bbs, A0, A3, Abs, eR, -getElem?_pos, List.getElem?_cons_zero, List.getElem?_cons_succ]))
              all_goals try (exfalso; omega)
              exact Aih (Am - 1) _ _ (by omega) ⟨i + 1, by simp [B0, B3, B4, Bbs, A0, A3, Abs], by simp [B0, B3, B4, Bbs, A0, A3, Abs], by simp [B0, B3, B4, Bbs, A0, A3, Abs], by omega, fun j hj => by (by_cases e : j = i; (subst e; exact hw2); exact ht j (by omega))⟩
        · have hw2 : fewR (nth l i) = false := by
            rw [hr]
            have : (decide ((nth l i).length ≤ 12) || (decide (64 < (nth l i).length) && decide ((nth l i).length ≤ 80))) = false := by simpa using g1
            rw [this]; rfl
          rw [allB_f hi hw2] at hF
          subst hF
          repeat' (first | (refine wpc_split _ (fun hc => ?_) (fun hc => ?_) <;> (try simp at hc)) | (refine ww_split _ (fun hc => ?_) (fun hc => ?_) <;> (try simp at hc)) | (refine wp_drawF (by kernel_rfl) ?_) | (refine wk_yldW _ ?_) | (refine layOwe _ (by kernel_rfl) ?_) | (refine owe ?_ (fun ho => ?_)) | (simp (disch := first | assumption | omega | (simp; done) | (simp; omega)) [A0, A3, Abs, eR, -getElem?_pos, List.getElem?_cons_zero, List.getElem?_cons_succ]))
          all_goals first | rfl | (exfalso; omega)
      · rw [allB_t (fun j hj => ht j (by omega))] at hF
        subst hF
        repeat' (first | (refine wpc_split _ (fun hc => ?_) (fun hc => ?_) <;> (try simp at hc)) | (refine ww_split _ (fun hc => ?_) (fun hc => ?_) <;> (try simp at hc)) | (refine wp_drawF (by kernel_rfl) ?_) | (refine wk_yldW _ ?_) | (refine layOwe _ (by kernel_rfl) ?_) | (refine owe ?_ (fun ho => ?_)) | (simp (disch := first | assumption | omega | (simp; done) | (simp; omega)) [A0, A3, Abs, -getElem?_pos, List.getElem?_cons_zero, List.getElem?_cons_succ]))
        all_goals first | rfl | (exfalso; omega)
  · have g0' : (decide (l.length ≤ 40) || (decide (1024 < l.length) && decide (l.length ≤ 1100))) = false := by simpa using g0
    rw [hd, g0', Bool.false_and]
    refine outS_of_wp cfg (fn := Tryd.f10) Tryd.func10 rfl (by simp [Tryd.f10]) ?_
    simp (disch := first | assumption | omega | (simp; done) | (simp; omega)) [-getElem?_pos, List.getElem?_cons_zero, List.getElem?_cons_succ, Tryd.f10, ]
    repeat' (first | (refine wpc_split _ (fun hc => ?_) (fun hc => ?_) <;> (try simp at hc)) | (refine ww_split _ (fun hc => ?_) (fun hc => ?_) <;> (try simp at hc)) | (refine wp_drawF (by kernel_rfl) ?_) | (refine wk_yldW _ ?_) | (refine layOwe _ (by kernel_rfl) ?_) | (refine owe ?_ (fun ho => ?_)) | (simp (disch := first | assumption | omega | (simp; done) | (simp; omega)) [-getElem?_pos, List.getElem?_cons_zero, List.getElem?_cons_succ]))
    all_goals first | rfl | (exfalso; omega)
@[simp] theorem S10 (l : List (List Cell)) (hs : smL l) (q1 : Fl) (hh : Heap) : Ci cfg (.func (.func 10) [] []) [R  q1 (eR eC) l] hh = some (.ret (.bool (fewB l)), hh) :=
  Ci_K cfg rfl rfl (by simp) (by simp) (C10 l hs)
end Go.Ab
