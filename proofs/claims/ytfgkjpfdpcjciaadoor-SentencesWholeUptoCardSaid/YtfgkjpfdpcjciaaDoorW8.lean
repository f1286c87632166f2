/- Layer 32 (sentences): the program's Ends. -/
import Derived.Test.YtfgkjpfdpcjciaaDoorW7
set_option linter.unusedVariables false
set_option linter.unusedSimpArgs false
set_option linter.unusedSectionVars false
set_option linter.deprecated false
namespace Go.Ab
open Go.Proofs
set_option maxRecDepth 100000
set_option maxHeartbeats 4000000
theorem C10 (w : List Wrd) (gap most : Int) (hs : smXs w) : Kc cfg 10 [R fl0 eW w, .int .i64 gap, .int .i64 most] (.ret (.tuple [R fl0 eI (enS w gap most), .int .i64 (erS w gap most)])) := by
  have hs1 := hs.1
  by_cases he : erS w gap most = 0
  · rw [enS_ok he, he]
    obtain ⟨hl, hok, hg1, hg2, hm1, hm2⟩ := erS_zero he
    refine outS_of_wp cfg (fn := Tryd.f10) Tryd.func10 rfl (by simp [Tryd.f10]) ?_
    simp (disch := first | assumption | omega | (simp; done) | (simp; omega)) [-getElem?_pos, List.getElem?_cons_zero, List.getElem?_cons_succ, Tryd.f10, hs, he, emptyH]
    repeat' (first | (refine wpc_split _ (fun hc => ?_) (fun hc => ?_) <;> (try simp at hc)) | (refine ww_split _ (fun hc => ?_) (fun hc => ?_) <;> (try simp at hc)) | (refine wp_drawF (by kernel_rfl) ?_) | (refine wk_yldW _ ?_) | (refine layOwe _ (by kernel_rfl) ?_) | (refine owe ?_ (fun ho => ?_)) | (simp (disch := first | assumption | omega | (simp; done) | (simp; omega)) [hs, he, emptyH, Tryd.f21, Tryd.f34, -getElem?_pos, List.getElem?_cons_zero, List.getElem?_cons_succ]))
    all_goals try (exfalso; omega)
    refine wp_loopE cfg rfl (fun f0 h0 m fr h => ∃ i : Nat, ∃ fl : Fl, ∃ X : List Blk, fr 0 = f0 0 ∧ fr 1 = f0 1 ∧ fr 2 = f0 2 ∧ fr 4 = f0 4 ∧ fr 7 = f0 7 ∧ fr 8 = f0 8 ∧ fr 9 = .int .i64 i ∧ (h.bs = (h0.bs.set 0 (.cells [R fl eI (endsW w gap most i)])).set 7 (.cells [.int .i64 (numW w gap most i)]) ++ X) ∧ (App h.ts 1 fl) ∧ (i + m = w.length)) (w.length) _ _ ⟨0, (true, true, none), [], rfl, rfl, rfl, rfl, rfl, rfl, by first | rfl | (simp; done) | (simp [R]; done) | simp [R], by simp [R, endsW, numW], App.nil _ _ _, by first | rfl | (simp; done) | omega⟩ ?_
    rintro Am Af Ah ⟨i, fl, X, A0, A1, A2, A4, A7, A8, A9, hbs, hap, hm⟩ Aih
    try simp at A0 A1 A2 A4 A7 A8
    simp at hbs
    by_cases hi : i < w.length
    · have hx := smXs_nth hs hi
      have hx1 := hx.1
      obtain ⟨w1, w2, w3, w4, w5, w6, w7⟩ := okH_of (okL_H hok hi)
      have hpos := word_pos w1
      have hel := endsW_len w gap most i
      have hnl := numW_le w gap most i
      have hns := numW_step (w := w) (gap := gap) (most := most) (i := i)
      have hes := endsW_step (w := w) (gap := gap) (most := most) (i := i)
      have hcast : ((numW w gap most i + 1 : Nat) : Int) = (numW w gap most i : Int) + 1 := by omega
      have hbe := byF_end w gap most i ((numW w gap most i : Int) + 1)
      have hby : ∀ (h : Heap) (p : Nat), h.bs[1]? = some (.cells [R fl0 eW w]) → h.bs[2]? = some (.cells [.int .i64 gap]) → h.bs[3]? = some (.cells [.int .i64 most]) → h.bs[p]? = some (.cells [.int .i64 i]) → h.bs[7]? = some (.cells [.int .i64 ((numW w gap most i : Int) + 1)]) →
          Ci cfg (.func (.func 35) [] []) [.row false true [.func (.func 28) [] [.ptr 3 0], .func (.func 29) [] [.ptr 1 0], .func (.func 31) [] [.ptr 1 0], .func (.func 32) [] [.ptr 1 0, .ptr 2 0], .func (.func 33) [] [.ptr 1 0]] 5 none, .func (.func 36) [] [.ptr p 0, .ptr 7 0]] h = some (.ret (.int .i64 (byF w gap most i ((numW w gap most i : Int) + 1))), h) :=
        fun h p a1 a2 a3 a4 a5 => K35 a1 a2 a3 a4 a5 hi hs1 hpos hx1 ⟨by omega, by omega⟩ ⟨by omega, by omega⟩
      have hx0 : ∀ (b : Blk) (L : List Blk), (X ++ b :: L)[X.length]? = some b := fun b L => by simp
      have hx2 : ∀ (L : List Blk) (k : Nat), (X ++ L)[X.length + k]? = L[k]? := fun L k => by rw [List.getElem?_append_right (by omega), Nat.add_sub_cancel_left]
      rw [hcast] at hns hes
      generalize hr : byF w gap most i ((numW w gap most i : Int) + 1) = r at *
      cases hew : endW w gap most i ((numW w gap most i : Int) + 1) with
      | false =>
        rw [hew] at hns hes hbe
        have hr0 : r < 0 := by simpa using hbe
        rw [if_neg (by simp)] at hns hes
        repeat' (first | (refine wpc_split _ (fun hc => ?_) (fun hc => ?_) <;> (try simp at hc)) | (refine ww_split _ (fun hc => ?_) (fun hc => ?_) <;> (try simp at hc)) | (refine wp_drawF (by kernel_rfl) ?_) | (refine wk_yldW _ ?_) | (refine layOwe _ (by kernel_rfl) ?_) | (refine owe ?_ (fun ho => ?_)) | (simp (disch := first | assumption | omega | (simp; done) | (simp; omega)) [A0, A1, A2, A4, A7, A8, A9, hbs, hby, hx0, hr0, -getElem?_pos, List.getElem?_cons_zero, List.getElem?_cons_succ]))
        all_goals try (exfalso; omega)
        exact Aih (Am - 1) _ _ (by omega) ⟨i + 1, fl, X ++ [.cells [.int .i64 i]], by simp [A0, A1, A2, A4, A7, A8, A9], by simp [A0, A1, A2, A4, A7, A8, A9], by simp [A0, A1, A2, A4, A7, A8, A9], by simp [A0, A1, A2, A4, A7, A8, A9], by simp [A0, A1, A2, A4, A7, A8, A9], by simp [A0, A1, A2, A4, A7, A8, A9], by simp [A0, A1, A2, A4, A7, A8, A9], (by simp [hns, hes]), hap, by omega⟩
      | true =>
        rw [hew] at hns hes hbe
        have hr0 : ¬ r < 0 := by simpa using hbe
        rw [if_pos rfl] at hns hes
        repeat' (first | (refine wpc_split _ (fun hc => ?_) (fun hc => ?_) <;> (try simp at hc)) | (refine ww_split _ (fun hc => ?_) (fun hc => ?_) <;> (try simp at hc)) | (refine wp_drawF (by kernel_rfl) ?_) | (refine wk_yldW _ ?_) | (refine layOwe _ (by kernel_rfl) ?_) | (refine owe ?_ (fun ho => ?_)) | (simp (disch := first | assumption | omega | (simp; done) | (simp; omega)) [A0, A1, A2, A4, A7, A8, A9, hbs, hby, hx0, hx2, hr0, fold_I1, hap, -getElem?_pos, List.getElem?_cons_zero, List.getElem?_cons_succ]))
        all_goals try (exfalso; omega)
        exact Aih (Am - 1) _ _ (by omega) ⟨i + 1, _, X ++ [.cells [.int .i64 i], .cells [.int .i64 i, .int .i64 ((numW w gap most i : Int) + 1), .bool (decide (r < 2))]], by simp [A0, A1, A2, A4, A7, A8, A9], by simp [A0, A1, A2, A4, A7, A8, A9], by simp [A0, A1, A2, A4, A7, A8, A9], by simp [A0, A1, A2, A4, A7, A8, A9], by simp [A0, A1, A2, A4, A7, A8, A9], by simp [A0, A1, A2, A4, A7, A8, A9], by simp [A0, A1, A2, A4, A7, A8, A9], (by simp [hns, hes]), App.new _ _ _, by omega⟩
    · have hil : i = w.length := by omega
      subst hil
      repeat' (first | (refine wpc_split _ (fun hc => ?_) (fun hc => ?_) <;> (try simp at hc)) | (refine ww_split _ (fun hc => ?_) (fun hc => ?_) <;> (try simp at hc)) | (refine wp_drawF (by kernel_rfl) ?_) | (refine wk_yldW _ ?_) | (refine layOwe _ (by kernel_rfl) ?_) | (refine owe ?_ (fun ho => ?_)) | (simp (disch := first | assumption | omega | (simp; done) | (simp; omega)) [A0, A1, A2, A4, A7, A8, A9, hbs, -getElem?_pos, List.getElem?_cons_zero, List.getElem?_cons_succ]))
      all_goals first | rfl | exact ⟨rfl, rfl⟩ | (exfalso; omega)
  · rw [enS_no he]
    generalize hE : erS w gap most = E at *
    refine outS_of_wp cfg (fn := Tryd.f10) Tryd.func10 rfl (by simp [Tryd.f10]) ?_
    simp (disch := first | assumption | omega | (simp; done) | (simp; omega)) [-getElem?_pos, List.getElem?_cons_zero, List.getElem?_cons_succ, Tryd.f10, hs, he, hE, emptyH]
    repeat' (first | (refine wpc_split _ (fun hc => ?_) (fun hc => ?_) <;> (try simp at hc)) | (refine ww_split _ (fun hc => ?_) (fun hc => ?_) <;> (try simp at hc)) | (refine wp_drawF (by kernel_rfl) ?_) | (refine wk_yldW _ ?_) | (refine layOwe _ (by kernel_rfl) ?_) | (refine owe ?_ (fun ho => ?_)) | (simp (disch := first | assumption | omega | (simp; done) | (simp; omega)) [hs, he, hE, emptyH, -getElem?_pos, List.getElem?_cons_zero, List.getElem?_cons_succ]))
    all_goals first | rfl | exact ⟨rfl, rfl⟩ | (exfalso; omega)
@[simp] theorem S10 (w : List Wrd) (gap most : Int) (hs : smXs w) (q1 : Fl) (hh : Heap) : Ci cfg (.func (.func 10) [] []) [R  q1 eW w, .int .i64 gap, .int .i64 most] hh = some (.ret (.tuple [R fl0 eI (enS w gap most), .int .i64 (erS w gap most)]), hh) :=
  Ci_K cfg rfl rfl (by simp) (by simp) (C10 w gap most hs)
end Go.Ab
