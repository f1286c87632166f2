/- Layer 32 (sentences): the program's Closed. -/
import Derived.Test.YtfgkjpfdpcjciaaDoorW8
set_option linter.unusedVariables false
set_option linter.unusedSimpArgs false
set_option linter.unusedSectionVars false
set_option linter.deprecated false
namespace Go.Ab
open Go.Proofs
set_option maxRecDepth 100000
set_option maxHeartbeats 4000000
theorem cntF_step {w : List Wrd} {gap most t : Int} {i : Nat} : cntF w gap most t (i + 1) = if endW w gap most i (numW w gap most i + 1 : Nat) = true ∧ (i + 1 < w.length ∨ ownW (nth w i) (numW w gap most i + 1 : Nat) most = true ∨ (nth w i).til + gap ≤ t) then cntF w gap most t i + 1 else cntF w gap most t i := rfl
theorem C12 (w : List Wrd) (gap most t : Int) (hs : smXs w) : Kc cfg 12 [R fl0 eW w, .int .i64 gap, .int .i64 most, .int .i64 t] (.ret (.tuple [.int .i64 (clS w gap most t).1, .int .i64 (clS w gap most t).2])) := by
  have hs1 := hs.1
  by_cases he : erS w gap most = 0
  · obtain ⟨hl, hok, hg1, hg2, hm1, hm2⟩ := erS_zero he
    by_cases ht : 0 ≤ t ∧ t < 1099511627776
    · rw [clS_ok he ht]
      obtain ⟨ht1, ht2⟩ := ht
      have ht3 : t ≤ 1099511627775 := by omega
      refine outS_of_wp cfg (fn := Tryd.f12) Tryd.func12 rfl (by simp [Tryd.f12]) ?_
      simp (disch := first | assumption | omega | (simp; done) | (simp; omega)) [-getElem?_pos, List.getElem?_cons_zero, List.getElem?_cons_succ, Tryd.f12, hs, he, emptyH]
      repeat' (first | (refine wpc_split _ (fun hc => ?_) (fun hc => ?_) <;> (try simp at hc)) | (refine ww_split _ (fun hc => ?_) (fun hc => ?_) <;> (try simp at hc)) | (refine wp_drawF (by kernel_rfl) ?_) | (refine wk_yldW _ ?_) | (refine layOwe _ (by kernel_rfl) ?_) | (refine owe ?_ (fun ho => ?_)) | (simp (disch := first | assumption | omega | (simp; done) | (simp; omega)) [hs, he, emptyH, ht1, ht3, Tryd.f21, Tryd.f34, -getElem?_pos, List.getElem?_cons_zero, List.getElem?_cons_succ]))
      all_goals try (exfalso; omega)
      refine wp_loopE cfg rfl (fun f0 h0 m fr h => ∃ i : Nat, ∃ X : List Blk, fr 0 = f0 0 ∧ fr 1 = f0 1 ∧ fr 2 = f0 2 ∧ fr 4 = f0 4 ∧ fr 7 = f0 7 ∧ fr 8 = f0 8 ∧ fr 9 = .int .i64 i ∧ (h.bs = (h0.bs.set 3 (.cells [.int .i64 (cntF w gap most t i)])).set 10 (.cells [.int .i64 (numW w gap most i)]) ++ X) ∧ (i + m = w.length)) (w.length) _ _ ⟨0, [], rfl, rfl, rfl, rfl, rfl, rfl, by first | rfl | (simp; done) | (simp [R]; done) | simp [R], by simp [cntF, numW], by first | rfl | (simp; done) | omega⟩ ?_
      rintro Am Af Ah ⟨i, X, A0, A1, A2, A4, A7, A8, A9, hbs, hm⟩ Aih
      try simp at A0 A1 A2 A4 A7 A8
      simp at hbs
      by_cases hi : i < w.length
      · have hx := smXs_nth hs hi
        have hx1 := hx.1
        obtain ⟨w1, w2, w3, w4, w5, w6, w7⟩ := okH_of (okL_H hok hi)
        have hpos := word_pos w1
        have hcl := cntF_le w gap most t i
        have hnl := numW_le w gap most i
        have hns := numW_step (w := w) (gap := gap) (most := most) (i := i)
        have hcs := cntF_step (w := w) (gap := gap) (most := most) (t := t) (i := i)
        have hcast : ((numW w gap most i + 1 : Nat) : Int) = (numW w gap most i : Int) + 1 := by omega
        have hbe := byF_end w gap most i ((numW w gap most i : Int) + 1)
        have hbo := byF_own w gap most i ((numW w gap most i : Int) + 1)
        have hby : ∀ (h : Heap) (p : Nat), h.bs[4]? = some (.cells [R fl0 eW w]) → h.bs[5]? = some (.cells [.int .i64 gap]) → h.bs[6]? = some (.cells [.int .i64 most]) → h.bs[p]? = some (.cells [.int .i64 i]) → h.bs[10]? = some (.cells [.int .i64 ((numW w gap most i : Int) + 1)]) →
            Ci cfg (.func (.func 35) [] []) [.row false true [.func (.func 28) [] [.ptr 6 0], .func (.func 29) [] [.ptr 4 0], .func (.func 31) [] [.ptr 4 0], .func (.func 32) [] [.ptr 4 0, .ptr 5 0], .func (.func 33) [] [.ptr 4 0]] 5 none, .func (.func 36) [] [.ptr p 0, .ptr 10 0]] h = some (.ret (.int .i64 (byF w gap most i ((numW w gap most i : Int) + 1))), h) :=
          fun h p a1 a2 a3 a4 a5 => K35 a1 a2 a3 a4 a5 hi hs1 hpos hx1 ⟨by omega, by omega⟩ ⟨by omega, by omega⟩
        have hx0 : ∀ (b : Blk) (L : List Blk), (X ++ b :: L)[X.length]? = some b := fun b L => by simp
        have hx2 : ∀ (L : List Blk) (k : Nat), (X ++ L)[X.length + k]? = L[k]? := fun L k => by rw [List.getElem?_append_right (by omega), Nat.add_sub_cancel_left]
        rw [hcast] at hns hcs
        generalize hr : byF w gap most i ((numW w gap most i : Int) + 1) = r at *
        cases hew : endW w gap most i ((numW w gap most i : Int) + 1) with
        | false =>
          rw [hew] at hns hcs hbe
          have hr0 : r < 0 := by simpa using hbe
          rw [if_neg (by simp)] at hns
          rw [if_neg (by simp)] at hcs
          repeat' (first | (refine wpc_split _ (fun hc => ?_) (fun hc => ?_) <;> (try simp at hc)) | (refine ww_split _ (fun hc => ?_) (fun hc => ?_) <;> (try simp at hc)) | (refine wp_drawF (by kernel_rfl) ?_) | (refine wk_yldW _ ?_) | (refine layOwe _ (by kernel_rfl) ?_) | (refine owe ?_ (fun ho => ?_)) | (simp (disch := first | assumption | omega | (simp; done) | (simp; omega)) [A0, A1, A2, A4, A7, A8, A9, hbs, hby, hx0, hr0, -getElem?_pos, List.getElem?_cons_zero, List.getElem?_cons_succ]))
          all_goals try (exfalso; omega)
          exact Aih (Am - 1) _ _ (by omega) ⟨i + 1, X ++ [.cells [.int .i64 i]], by simp [A0, A1, A2, A4, A7, A8, A9], by simp [A0, A1, A2, A4, A7, A8, A9], by simp [A0, A1, A2, A4, A7, A8, A9], by simp [A0, A1, A2, A4, A7, A8, A9], by simp [A0, A1, A2, A4, A7, A8, A9], by simp [A0, A1, A2, A4, A7, A8, A9], by simp [A0, A1, A2, A4, A7, A8, A9], (by simp [hns, hcs]), by omega⟩
        | true =>
          rw [hew] at hns hbe
          have hr0 : ¬ r < 0 := by simpa using hbe
          have hro := hbo hew
          rw [if_pos rfl] at hns
          rw [hew] at hcs
          by_cases q1 : i + 1 < w.length
          · rw [if_pos ⟨rfl, .inl q1⟩] at hcs
            have q1' : (i : Int) + 1 < w.length := by omega
            repeat' (first | (refine wpc_split _ (fun hc => ?_) (fun hc => ?_) <;> (try simp at hc)) | (refine ww_split _ (fun hc => ?_) (fun hc => ?_) <;> (try simp at hc)) | (refine wp_drawF (by kernel_rfl) ?_) | (refine wk_yldW _ ?_) | (refine layOwe _ (by kernel_rfl) ?_) | (refine owe ?_ (fun ho => ?_)) | (simp (disch := first | assumption | omega | (simp; done) | (simp; omega)) [A0, A1, A2, A4, A7, A8, A9, hbs, hby, hx0, hx2, hr0, q1, q1', -getElem?_pos, List.getElem?_cons_zero, List.getElem?_cons_succ]))
            all_goals try (exfalso; omega)
            exact Aih (Am - 1) _ _ (by omega) ⟨i + 1, X ++ [.cells [.int .i64 i], .cells [.int .i64 i, .int .i64 ((numW w gap most i : Int) + 1), .bool (decide (r < 2))]], by simp [A0, A1, A2, A4, A7, A8, A9], by simp [A0, A1, A2, A4, A7, A8, A9], by simp [A0, A1, A2, A4, A7, A8, A9], by simp [A0, A1, A2, A4, A7, A8, A9], by simp [A0, A1, A2, A4, A7, A8, A9], by simp [A0, A1, A2, A4, A7, A8, A9], by simp [A0, A1, A2, A4, A7, A8, A9], (by simp [hns, hcs]), by omega⟩
          · have q1' : ¬ (i : Int) + 1 < w.length := by omega
            cases q2 : ownW (nth w i) ((numW w gap most i : Int) + 1) most with
            | true =>
              rw [if_pos ⟨rfl, .inr (.inl q2)⟩] at hcs
              rw [q2] at hro
              have hro2 : r < 2 := of_decide_eq_true hro
              repeat' (first | (refine wpc_split _ (fun hc => ?_) (fun hc => ?_) <;> (try simp at hc)) | (refine ww_split _ (fun hc => ?_) (fun hc => ?_) <;> (try simp at hc)) | (refine wp_drawF (by kernel_rfl) ?_) | (refine wk_yldW _ ?_) | (refine layOwe _ (by kernel_rfl) ?_) | (refine owe ?_ (fun ho => ?_)) | (simp (disch := first | assumption | omega | (simp; done) | (simp; omega)) [A0, A1, A2, A4, A7, A8, A9, hbs, hby, hx0, hx2, hr0, q1, q1', hro2, -getElem?_pos, List.getElem?_cons_zero, List.getElem?_cons_succ]))
              all_goals try (exfalso; omega)
              exact Aih (Am - 1) _ _ (by omega) ⟨i + 1, X ++ [.cells [.int .i64 i], .cells [.int .i64 i, .int .i64 ((numW w gap most i : Int) + 1), .bool (decide (r < 2))]], by simp [A0, A1, A2, A4, A7, A8, A9], by simp [A0, A1, A2, A4, A7, A8, A9], by simp [A0, A1, A2, A4, A7, A8, A9], by simp [A0, A1, A2, A4, A7, A8, A9], by simp [A0, A1, A2, A4, A7, A8, A9], by simp [A0, A1, A2, A4, A7, A8, A9], by simp [A0, A1, A2, A4, A7, A8, A9], (by simp [hns, hcs, hro2]), by omega⟩
            | false =>
              rw [q2] at hro
              have hro2 : ¬ r < 2 := of_decide_eq_false hro
              by_cases q3 : (nth w i).til + gap ≤ t
              · rw [if_pos ⟨rfl, .inr (.inr q3)⟩] at hcs
                repeat' (first | (refine wpc_split _ (fun hc => ?_) (fun hc => ?_) <;> (try simp at hc)) | (refine ww_split _ (fun hc => ?_) (fun hc => ?_) <;> (try simp at hc)) | (refine wp_drawF (by kernel_rfl) ?_) | (refine wk_yldW _ ?_) | (refine layOwe _ (by kernel_rfl) ?_) | (refine owe ?_ (fun ho => ?_)) | (simp (disch := first | assumption | omega | (simp; done) | (simp; omega)) [A0, A1, A2, A4, A7, A8, A9, hbs, hby, hx0, hx2, hr0, q1, q1', hro2, hi, q3, -getElem?_pos, List.getElem?_cons_zero, List.getElem?_cons_succ]))
                all_goals try (exfalso; omega)
                exact Aih (Am - 1) _ _ (by omega) ⟨i + 1, X ++ [.cells [.int .i64 i], .cells [.int .i64 i, .int .i64 ((numW w gap most i : Int) + 1), .bool (decide (r < 2))]], by simp [A0, A1, A2, A4, A7, A8, A9], by simp [A0, A1, A2, A4, A7, A8, A9], by simp [A0, A1, A2, A4, A7, A8, A9], by simp [A0, A1, A2, A4, A7, A8, A9], by simp [A0, A1, A2, A4, A7, A8, A9], by simp [A0, A1, A2, A4, A7, A8, A9], by simp [A0, A1, A2, A4, A7, A8, A9], (by simp [hns, hcs, hro2]), by omega⟩
              · rw [if_neg (by rintro ⟨_, e | e | e⟩; exact q1 e; (rw [q2] at e; cases e); exact q3 e)] at hcs
                repeat' (first | (refine wpc_split _ (fun hc => ?_) (fun hc => ?_) <;> (try simp at hc)) | (refine ww_split _ (fun hc => ?_) (fun hc => ?_) <;> (try simp at hc)) | (refine wp_drawF (by kernel_rfl) ?_) | (refine wk_yldW _ ?_) | (refine layOwe _ (by kernel_rfl) ?_) | (refine owe ?_ (fun ho => ?_)) | (simp (disch := first | assumption | omega | (simp; done) | (simp; omega)) [A0, A1, A2, A4, A7, A8, A9, hbs, hby, hx0, hx2, hr0, q1, q1', hro2, hi, q3, -getElem?_pos, List.getElem?_cons_zero, List.getElem?_cons_succ]))
                all_goals try (exfalso; omega)
                exact Aih (Am - 1) _ _ (by omega) ⟨i + 1, X ++ [.cells [.int .i64 i], .cells [.int .i64 i, .int .i64 ((numW w gap most i : Int) + 1), .bool (decide (r < 2))]], by simp [A0, A1, A2, A4, A7, A8, A9], by simp [A0, A1, A2, A4, A7, A8, A9], by simp [A0, A1, A2, A4, A7, A8, A9], by simp [A0, A1, A2, A4, A7, A8, A9], by simp [A0, A1, A2, A4, A7, A8, A9], by simp [A0, A1, A2, A4, A7, A8, A9], by simp [A0, A1, A2, A4, A7, A8, A9], (by simp [hns, hcs, hro2]), by omega⟩
      · have hil : i = w.length := by omega
        subst hil
        repeat' (first | (refine wpc_split _ (fun hc => ?_) (fun hc => ?_) <;> (try simp at hc)) | (refine ww_split _ (fun hc => ?_) (fun hc => ?_) <;> (try simp at hc)) | (refine wp_drawF (by kernel_rfl) ?_) | (refine wk_yldW _ ?_) | (refine layOwe _ (by kernel_rfl) ?_) | (refine owe ?_ (fun ho => ?_)) | (simp (disch := first | assumption | omega | (simp; done) | (simp; omega)) [A0, A1, A2, A4, A7, A8, A9, hbs, -getElem?_pos, List.getElem?_cons_zero, List.getElem?_cons_succ]))
        all_goals first | rfl | exact ⟨rfl, rfl⟩ | (exfalso; omega)
    · rw [clS_t he ht]
      by_cases ht1 : 0 ≤ t
      · have ht3 : ¬ t ≤ 1099511627775 := by omega
        refine outS_of_wp cfg (fn := Tryd.f12) Tryd.func12 rfl (by simp [Tryd.f12]) ?_
        simp (disch := first | assumption | omega | (simp; done) | (simp; omega)) [-getElem?_pos, List.getElem?_cons_zero, List.getElem?_cons_succ, Tryd.f12, hs, he, emptyH]
        repeat' (first | (refine wpc_split _ (fun hc => ?_) (fun hc => ?_) <;> (try simp at hc)) | (refine ww_split _ (fun hc => ?_) (fun hc => ?_) <;> (try simp at hc)) | (refine wp_drawF (by kernel_rfl) ?_) | (refine wk_yldW _ ?_) | (refine layOwe _ (by kernel_rfl) ?_) | (refine owe ?_ (fun ho => ?_)) | (simp (disch := first | assumption | omega | (simp; done) | (simp; omega)) [hs, he, emptyH, ht1, ht3, -getElem?_pos, List.getElem?_cons_zero, List.getElem?_cons_succ]))
        all_goals first | rfl | exact ⟨rfl, rfl⟩ | (exfalso; omega)
      · skip
        refine outS_of_wp cfg (fn := Tryd.f12) Tryd.func12 rfl (by simp [Tryd.f12]) ?_
        simp (disch := first | assumption | omega | (simp; done) | (simp; omega)) [-getElem?_pos, List.getElem?_cons_zero, List.getElem?_cons_succ, Tryd.f12, hs, he, emptyH]
        repeat' (first | (refine wpc_split _ (fun hc => ?_) (fun hc => ?_) <;> (try simp at hc)) | (refine ww_split _ (fun hc => ?_) (fun hc => ?_) <;> (try simp at hc)) | (refine wp_drawF (by kernel_rfl) ?_) | (refine wk_yldW _ ?_) | (refine layOwe _ (by kernel_rfl) ?_) | (refine owe ?_ (fun ho => ?_)) | (simp (disch := first | assumption | omega | (simp; done) | (simp; omega)) [hs, he, emptyH, ht1, -getElem?_pos, List.getElem?_cons_zero, List.getElem?_cons_succ]))
        all_goals first | rfl | exact ⟨rfl, rfl⟩ | (exfalso; omega)
  · rw [clS_no he]
    generalize hE : erS w gap most = E at *
    refine outS_of_wp cfg (fn := Tryd.f12) Tryd.func12 rfl (by simp [Tryd.f12]) ?_
    simp (disch := first | assumption | omega | (simp; done) | (simp; omega)) [-getElem?_pos, List.getElem?_cons_zero, List.getElem?_cons_succ, Tryd.f12, hs, he, hE, emptyH]
    repeat' (first | (refine wpc_split _ (fun hc => ?_) (fun hc => ?_) <;> (try simp at hc)) | (refine ww_split _ (fun hc => ?_) (fun hc => ?_) <;> (try simp at hc)) | (refine wp_drawF (by kernel_rfl) ?_) | (refine wk_yldW _ ?_) | (refine layOwe _ (by kernel_rfl) ?_) | (refine owe ?_ (fun ho => ?_)) | (simp (disch := first | assumption | omega | (simp; done) | (simp; omega)) [hs, he, hE, emptyH, -getElem?_pos, List.getElem?_cons_zero, List.getElem?_cons_succ]))
    all_goals first | rfl | exact ⟨rfl, rfl⟩ | (exfalso; omega)
@[simp] theorem S12 (w : List Wrd) (gap most t : Int) (hs : smXs w) (q1 : Fl) (hh : Heap) : Ci cfg (.func (.func 12) [] []) [R  q1 eW w, .int .i64 gap, .int .i64 most, .int .i64 t] hh = some (.ret (.tuple [.int .i64 (clS w gap most t).1, .int .i64 (clS w gap most t).2]), hh) :=
  Ci_K cfg rfl rfl (by simp) (by simp) (C12 w gap most t hs)
end Go.Ab
