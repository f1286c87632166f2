/- LatticeSound: the law. -/
import Derived.Test.YtgfomibaakpdnaaDoorD20
set_option linter.unusedVariables false
set_option linter.unusedSimpArgs false
set_option linter.unusedSectionVars false
set_option linter.deprecated false
namespace Go.Ab
open Go.Proofs
set_option maxRecDepth 100000
set_option maxHeartbeats 4000000
theorem C6 (n : Int) (l : List Edge) (p g : List Int) (hs : l.length < 1099511627776) (hs2 : p.length < 1099511627776 ∧ g.length < 1099511627776) (ht : ∀ x ∈ l, x.text.length < 1099511627776) : Kc cfg 6 [.int .i64 n, R fl0 eE l, R fl0 eI p, R fl0 eI g] (.ret (.bool true)) := by
  have hs3 := hs2.1
  have hs4 := hs2.2
  cases hr : rightE n l with
  | false =>
    refine outS_of_wp cfg (fn := Tryd.f6) Tryd.func6 rfl (by simp [Tryd.f6]) ?_
    simp (disch := first | assumption | omega | (simp; done) | (simp; omega)) [-getElem?_pos, List.getElem?_cons_zero, List.getElem?_cons_succ, Tryd.f6, hr]
    repeat' (first | (refine wpc_split _ (fun hc => ?_) (fun hc => ?_) <;> (try simp at hc)) | (refine ww_split _ (fun hc => ?_) (fun hc => ?_) <;> (try simp at hc)) | (refine wp_drawF (by kernel_rfl) ?_) | (refine wk_yldW _ ?_) | (refine layOwe _ (by kernel_rfl) ?_) | (refine owe ?_ (fun ho => ?_)) | (simp (disch := first | assumption | omega | (simp; done) | (simp; omega)) [hr, -getElem?_pos, List.getElem?_cons_zero, List.getElem?_cons_succ]))
  | true =>
    by_cases h1 : 100 < p.length
    · skip
      refine outS_of_wp cfg (fn := Tryd.f6) Tryd.func6 rfl (by simp [Tryd.f6]) ?_
      simp (disch := first | assumption | omega | (simp; done) | (simp; omega)) [-getElem?_pos, List.getElem?_cons_zero, List.getElem?_cons_succ, Tryd.f6, hr]
      repeat' (first | (refine wpc_split _ (fun hc => ?_) (fun hc => ?_) <;> (try simp at hc)) | (refine ww_split _ (fun hc => ?_) (fun hc => ?_) <;> (try simp at hc)) | (refine wp_drawF (by kernel_rfl) ?_) | (refine wk_yldW _ ?_) | (refine layOwe _ (by kernel_rfl) ?_) | (refine owe ?_ (fun ho => ?_)) | (simp (disch := first | assumption | omega | (simp; done) | (simp; omega)) [hr, -getElem?_pos, List.getElem?_cons_zero, List.getElem?_cons_succ]))
      all_goals first | rfl | (exfalso; omega)
    by_cases h2 : 100 < g.length
    · skip
      refine outS_of_wp cfg (fn := Tryd.f6) Tryd.func6 rfl (by simp [Tryd.f6]) ?_
      simp (disch := first | assumption | omega | (simp; done) | (simp; omega)) [-getElem?_pos, List.getElem?_cons_zero, List.getElem?_cons_succ, Tryd.f6, hr]
      repeat' (first | (refine wpc_split _ (fun hc => ?_) (fun hc => ?_) <;> (try simp at hc)) | (refine ww_split _ (fun hc => ?_) (fun hc => ?_) <;> (try simp at hc)) | (refine wp_drawF (by kernel_rfl) ?_) | (refine wk_yldW _ ?_) | (refine layOwe _ (by kernel_rfl) ?_) | (refine owe ?_ (fun ho => ?_)) | (simp (disch := first | assumption | omega | (simp; done) | (simp; omega)) [hr, -getElem?_pos, List.getElem?_cons_zero, List.getElem?_cons_succ]))
      all_goals first | rfl | (exfalso; omega)
    obtain ⟨hl30, hck⟩ := rightE_ok hr
    have hc := costs_in hck
    have hz : (accS n l p g) = (accE n l p g, 0) := by unfold accS; rw [if_pos hck]
    have hsnd := acc_sound hck (p := p) (k := g)
    have hS5 := S25 l p ⟨hs, hs3⟩
    by_cases hd : DE n l 0 ≤ sumE l
    · have hB := best_yes hck hd
      have hQ : proveS n l = (rowF (n.toNat + 1) (DE n l), true, 0) := by unfold proveS; rw [if_pos hck, if_pos hd]
      have hO : accS n l (pathE l (FE n l) n.toNat n.toNat 0) (rowF (n.toNat + 1) (DE n l)) = (true, 0) := by unfold accS; rw [if_pos hck, acc_own hck hd]
      have hbl := best_len n l
      have hpl := prove_len n l
      rw [hB] at hbl
      rw [hQ] at hpl
      simp only at hbl hpl
      generalize hP : pathE l (FE n l) n.toNat n.toNat 0 = P at *
      generalize hR : rowF (n.toNat + 1) (DE n l) = RR at *
      have hs6 : P.length < 1099511627776 ∧ RR.length < 1099511627776 := by omega
      cases ha : accE n l p g with
      | false =>
        refine outS_of_wp cfg (fn := Tryd.f6) Tryd.func6 rfl (by simp [Tryd.f6]) ?_
        simp (disch := first | assumption | omega | (simp; done) | (simp; omega)) [-getElem?_pos, List.getElem?_cons_zero, List.getElem?_cons_succ, Tryd.f6, hr, hB, hQ, hO, hz, ha]
        repeat' (first | (refine wpc_split _ (fun hc => ?_) (fun hc => ?_) <;> (try simp at hc)) | (refine ww_split _ (fun hc => ?_) (fun hc => ?_) <;> (try simp at hc)) | (refine wp_drawF (by kernel_rfl) ?_) | (refine wk_yldW _ ?_) | (refine layOwe _ (by kernel_rfl) ?_) | (refine owe ?_ (fun ho => ?_)) | (simp (disch := first | assumption | omega | (simp; done) | (simp; omega)) [hr, hB, hQ, hO, hz, ha, -getElem?_pos, List.getElem?_cons_zero, List.getElem?_cons_succ]))
        all_goals first | rfl | (exfalso; omega)
      | true =>
        obtain ⟨a1, a2, a3⟩ := hsnd ha
        have S5 := hS5 a1 hc
        refine outS_of_wp cfg (fn := Tryd.f6) Tryd.func6 rfl (by simp [Tryd.f6]) ?_
        simp (disch := first | assumption | omega | (simp; done) | (simp; omega)) [-getElem?_pos, List.getElem?_cons_zero, List.getElem?_cons_succ, Tryd.f6, hr, hB, hQ, hO, hz, ha]
        repeat' (first | (refine wpc_split _ (fun hc => ?_) (fun hc => ?_) <;> (try simp at hc)) | (refine ww_split _ (fun hc => ?_) (fun hc => ?_) <;> (try simp at hc)) | (refine wp_drawF (by kernel_rfl) ?_) | (refine wk_yldW _ ?_) | (refine layOwe _ (by kernel_rfl) ?_) | (refine owe ?_ (fun ho => ?_)) | (simp (disch := first | assumption | omega | (simp; done) | (simp; omega)) [hr, hB, hQ, hO, hz, ha, -getElem?_pos, List.getElem?_cons_zero, List.getElem?_cons_succ]))
        all_goals first
          | (exfalso; omega)
          | skip
        refine wp_loopE cfg rfl (fun f0 h0 m fr h => ∃ i : Nat, fr 1 = f0 1 ∧ fr 2 = f0 2 ∧ fr 10 = f0 10 ∧ fr 11 = f0 11 ∧ fr 91 = f0 91 ∧ fr 92 = f0 92 ∧ fr 93 = .int .i64 i ∧ (i + m = p.length)) (p.length) _ _ ⟨0, rfl, rfl, rfl, rfl, rfl, rfl, by first | rfl | (simp; done) | (simp [R]; done) | simp [R], by first | rfl | (simp; done) | omega⟩ ?_
        rintro Am Af Ah ⟨i, A1, A2, A10, A11, A91, A92, A93, hm⟩ Aih
        try simp at A1 A2 A10 A11 A91 A92
        by_cases hi : i < p.length
        · have h3 := a1 _ (nth_mem hi)
          repeat' (first | (refine wpc_split _ (fun hc => ?_) (fun hc => ?_) <;> (try simp at hc)) | (refine ww_split _ (fun hc => ?_) (fun hc => ?_) <;> (try simp at hc)) | (refine wp_drawF (by kernel_rfl) ?_) | (refine wk_yldW _ ?_) | (refine layOwe _ (by kernel_rfl) ?_) | (refine owe ?_ (fun ho => ?_)) | (simp (disch := first | assumption | omega | (simp; done) | (simp; omega)) [A1, A2, A10, A11, A91, A92, A93, eI, -getElem?_pos, List.getElem?_cons_zero, List.getElem?_cons_succ]))
          all_goals first
            | (exfalso; omega)
            | exact Aih (Am - 1) _ _ (by omega) ⟨i + 1, by simp [A1, A2, A10, A11, A91, A92, A93], by simp [A1, A2, A10, A11, A91, A92, A93], by simp [A1, A2, A10, A11, A91, A92, A93], by simp [A1, A2, A10, A11, A91, A92, A93], by simp [A1, A2, A10, A11, A91, A92, A93], by simp [A1, A2, A10, A11, A91, A92, A93], by simp [A1, A2, A10, A11, A91, A92, A93], by omega⟩
        · repeat' (first | (refine wpc_split _ (fun hc => ?_) (fun hc => ?_) <;> (try simp at hc)) | (refine ww_split _ (fun hc => ?_) (fun hc => ?_) <;> (try simp at hc)) | (refine wp_drawF (by kernel_rfl) ?_) | (refine wk_yldW _ ?_) | (refine layOwe _ (by kernel_rfl) ?_) | (refine owe ?_ (fun ho => ?_)) | (simp (disch := first | assumption | omega | (simp; done) | (simp; omega)) [A1, A2, A10, A11, A91, A92, A93, S5, a3, -getElem?_pos, List.getElem?_cons_zero, List.getElem?_cons_succ]))
    · have hB := best_no hck hd
      have hQ : proveS n l = ([], false, 0) := by unfold proveS; rw [if_pos hck, if_neg hd]
      have ha : accE n l p g = false := by
        cases h : accE n l p g with
        | false => rfl
        | true => exact absurd (hsnd h).2.1 hd
      refine outS_of_wp cfg (fn := Tryd.f6) Tryd.func6 rfl (by simp [Tryd.f6]) ?_
      simp (disch := first | assumption | omega | (simp; done) | (simp; omega)) [-getElem?_pos, List.getElem?_cons_zero, List.getElem?_cons_succ, Tryd.f6, hr, hB, hQ, hz, ha]
      repeat' (first | (refine wpc_split _ (fun hc => ?_) (fun hc => ?_) <;> (try simp at hc)) | (refine ww_split _ (fun hc => ?_) (fun hc => ?_) <;> (try simp at hc)) | (refine wp_drawF (by kernel_rfl) ?_) | (refine wk_yldW _ ?_) | (refine layOwe _ (by kernel_rfl) ?_) | (refine owe ?_ (fun ho => ?_)) | (simp (disch := first | assumption | omega | (simp; done) | (simp; omega)) [hr, hB, hQ, hz, ha, -getElem?_pos, List.getElem?_cons_zero, List.getElem?_cons_succ]))
      all_goals first | rfl | (exfalso; omega)
@[simp] theorem S6 (n : Int) (l : List Edge) (p g : List Int) (hs : l.length < 1099511627776) (hs2 : p.length < 1099511627776 ∧ g.length < 1099511627776) (ht : ∀ x ∈ l, x.text.length < 1099511627776) (q1 q2 q3 : Fl) (hh : Heap) : Ci cfg (.func (.func 6) [] []) [.int .i64 n, R  q1 eE l, R  q2 eI p, R  q3 eI g] hh = some (.ret (.bool true), hh) :=
  Ci_K cfg rfl rfl (by simp) (by simp) (C6 n l p g hs hs2 ht)
end Go.Ab
