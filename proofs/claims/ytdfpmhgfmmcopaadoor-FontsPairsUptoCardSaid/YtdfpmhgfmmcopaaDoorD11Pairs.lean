/- FontsPairs: the law. -/
import Derived.Test.YtdfpmhgfmmcopaaDoorD11Of
set_option linter.unusedVariables false
set_option linter.unusedSimpArgs false
set_option linter.unusedSectionVars false
set_option linter.deprecated false
namespace Go.Ab
open Go.Proofs
set_option maxRecDepth 100000
set_option maxHeartbeats 4000000
theorem C6 (f : Font) (s : List UInt8) (hs : f.gs.length < 1099511627776 ∧ f.ks.length < 1099511627776) (hl : s.length < 1099511627776) : Kc cfg 6 [.agg [R fl0 eG f.gs, .int .i64 f.other, R fl0 eK f.ks], .str s] (.ret (.bool true)) := by
  have hs3 : f.gs.length < 1099511627776 ∧ f.ks.length < 1099511627776 ∧ s.length < 1099511627776 := ⟨hs.1, hs.2, hl⟩
  generalize hfew : decide ((f.gs.length ≤ 30 ∨ 1024 < f.gs.length ∧ f.gs.length ≤ 1100) ∧ (f.ks.length ≤ 30 ∨ 1024 < f.ks.length ∧ f.ks.length ≤ 1100) ∧ s.length ≤ 200) = few
  have hS := fun hh => S10 f s hs3 (fl0) (fl0) hh
  by_cases hck : checkS f = 0
  · by_cases he : (runesG s).2 = 0
    · obtain ⟨hs4, hr⟩ := runesG_all he
      obtain ⟨hen, hpt⟩ := runes_enc' hr
      have hw := widthS_of hck he
      have hn := runesG_len' s
      generalize hlg : (runesG s).1 = l at *
      have hle : (encAll l).length ≤ 4096 := by rw [hen]; exact hs4
      refine outS_of_wp cfg (fn := Tryd.f6) Tryd.func6 rfl (by simp [Tryd.f6]) ?_
      simp (disch := first | assumption | omega | (simp; done) | (simp; omega)) [-getElem?_pos, List.getElem?_cons_zero, List.getElem?_cons_succ, Tryd.f6, hck, he, hw, hlg]
      repeat' (first | (refine wpc_split _ (fun hc => ?_) (fun hc => ?_) <;> (try simp at hc)) | (refine ww_split _ (fun hc => ?_) (fun hc => ?_) <;> (try simp at hc)) | (refine wp_drawF (by kernel_rfl) ?_) | (refine wk_yldW _ ?_) | (refine owe ?_ (fun ho => ?_)) | (simp (disch := first | assumption | omega | (simp; done) | (simp; omega)) [hck, he, hw, hlg, hpt, hle, -getElem?_pos, List.getElem?_cons_zero, List.getElem?_cons_succ]))
      · have h0 : l.length = 0 := by omega
        rw [h0]; rfl
      refine wp_loopE cfg rfl (fun f0 h0 m fr h => ∃ i : Nat, ∃ x : Int, fr 2 = f0 2 ∧ fr 5 = f0 5 ∧ fr 7 = f0 7 ∧ fr 12 = .int .i64 i ∧ fr 11 = .int .i64 x ∧ h.bs = h0.bs ∧ (1 ≤ i) ∧ (i + m = l.length) ∧ (i < l.length → x = wTo f l i - oneS f (nth l (i - 1))) ∧ (i = l.length → x = wTo f l i)) (l.length - 1) _ _ ⟨1, 0, rfl, rfl, rfl, by first | rfl | (simp; done) | (simp [R]; done) | simp [R], by first | rfl | (simp; done) | (simp [R]; done) | simp [R], rfl, by first | rfl | (simp; done) | omega, by omega, fun _ => by show 0 = sumTo (0 + 1) _ - _; rw [sumTo_succ, sumTo_zero]; simp [addS], fun _ => by omega⟩ ?_
      rintro Am Af Ah ⟨i, x, A2, A5, A7, A12, A11, Abs, hi1, hm, hx1, hx2⟩ Aih
      try simp at A2 A5 A7 Abs
      by_cases hi : i < l.length
      · have h4 : (((i : Int) - 1).toNat) = i - 1 := by omega
        have p1 := pt_nth hpt hi
        have p2 := pt_nth hpt (i := i - 1) (by omega)
        have hx := hx1 hi
        have hsu := wTo_succ f l i
        have hadd : addS f l i = oneS f (nth l i) - nearS f (nth l (i - 1)) (nth l i) := by unfold addS; rw [if_pos (by omega)]
        have hb1 := wTo_bound hck l i
        have hb2 := oneS_bound hck (nth l i)
        have hb3 := oneS_bound hck (nth l (i - 1))
        have hb4 := nearS_bound hck (nth l (i - 1)) (nth l i)
        have e2 := w2 f (nth l (i - 1)) (nth l i)
        have e1 := w1 f (nth l i)
        have hnx : nth l (i + 1 - 1) = nth l i := by rw [Nat.add_sub_cancel]
        generalize hgb : nth l i = b at *
        generalize hga : nth l (i - 1) = a at *
        have q2 : ([a, b] : List Int).all point = true := by simp [p1, p2]
        have q1 : ([b] : List Int).all point = true := by simp [p1]
        have g2 := enc2l a b
        have g1 := enc1l b
        by_cases hl2 : i + 1 < l.length
        · repeat' (first | (refine wpc_split _ (fun hc => ?_) (fun hc => ?_) <;> (try simp at hc)) | (refine ww_split _ (fun hc => ?_) (fun hc => ?_) <;> (try simp at hc)) | (refine wp_drawF (by kernel_rfl) ?_) | (refine wk_yldW _ ?_) | (refine owe ?_ (fun ho => ?_)) | (simp (disch := first | assumption | omega | (simp; done) | (simp; omega)) [A2, A5, A7, A12, A11, Abs, eI, h4, fold_I1, fold_I2, e1, e2, hgb, hga, -getElem?_pos, List.getElem?_cons_zero, List.getElem?_cons_succ]))
          all_goals first
            | (exfalso; omega)
            | exact Aih (Am - 1) _ _ (by omega) ⟨i + 1, x + (oneS f a + oneS f b - nearS f a b) - oneS f b, by simp [A2, A5, A7, A12, A11, Abs], by simp [A2, A5, A7, A12, A11, Abs], by simp [A2, A5, A7, A12, A11, Abs], by simp [A2, A5, A7, A12, A11, Abs], by simp [A2, A5, A7, A12, A11, Abs], by simp [A2, A5, A7, A12, A11, Abs], by omega, by omega, (fun _ => by rw [hnx]; omega), (fun _ => by omega)⟩
        · repeat' (first | (refine wpc_split _ (fun hc => ?_) (fun hc => ?_) <;> (try simp at hc)) | (refine ww_split _ (fun hc => ?_) (fun hc => ?_) <;> (try simp at hc)) | (refine wp_drawF (by kernel_rfl) ?_) | (refine wk_yldW _ ?_) | (refine owe ?_ (fun ho => ?_)) | (simp (disch := first | assumption | omega | (simp; done) | (simp; omega)) [A2, A5, A7, A12, A11, Abs, eI, h4, fold_I1, fold_I2, e1, e2, hgb, hga, -getElem?_pos, List.getElem?_cons_zero, List.getElem?_cons_succ]))
          all_goals first
            | (exfalso; omega)
            | exact Aih (Am - 1) _ _ (by omega) ⟨i + 1, x + (oneS f a + oneS f b - nearS f a b), by simp [A2, A5, A7, A12, A11, Abs], by simp [A2, A5, A7, A12, A11, Abs], by simp [A2, A5, A7, A12, A11, Abs], by simp [A2, A5, A7, A12, A11, Abs], by simp [A2, A5, A7, A12, A11, Abs], by simp [A2, A5, A7, A12, A11, Abs], by omega, by omega, (fun _ => by rw [hnx]; omega), (fun _ => by omega)⟩
      · have hil : i = l.length := by omega
        have := hx2 hil
        rw [hil] at this
        subst this
        repeat' (first | (refine wpc_split _ (fun hc => ?_) (fun hc => ?_) <;> (try simp at hc)) | (refine ww_split _ (fun hc => ?_) (fun hc => ?_) <;> (try simp at hc)) | (refine wp_drawF (by kernel_rfl) ?_) | (refine wk_yldW _ ?_) | (refine owe ?_ (fun ho => ?_)) | (simp (disch := first | assumption | omega | (simp; done) | (simp; omega)) [A2, A5, A7, A12, A11, Abs, -getElem?_pos, List.getElem?_cons_zero, List.getElem?_cons_succ]))
    · have hw := widthS_bad hck he
      refine outS_of_wp cfg (fn := Tryd.f6) Tryd.func6 rfl (by simp [Tryd.f6]) ?_
      simp (disch := first | assumption | omega | (simp; done) | (simp; omega)) [-getElem?_pos, List.getElem?_cons_zero, List.getElem?_cons_succ, Tryd.f6, hck, he, hw]
      repeat' (first | (refine wpc_split _ (fun hc => ?_) (fun hc => ?_) <;> (try simp at hc)) | (refine ww_split _ (fun hc => ?_) (fun hc => ?_) <;> (try simp at hc)) | (refine wp_drawF (by kernel_rfl) ?_) | (refine wk_yldW _ ?_) | (refine owe ?_ (fun ho => ?_)) | (simp (disch := first | assumption | omega | (simp; done) | (simp; omega)) [hck, he, hw, -getElem?_pos, List.getElem?_cons_zero, List.getElem?_cons_succ]))
  · skip
    refine outS_of_wp cfg (fn := Tryd.f6) Tryd.func6 rfl (by simp [Tryd.f6]) ?_
    simp (disch := first | assumption | omega | (simp; done) | (simp; omega)) [-getElem?_pos, List.getElem?_cons_zero, List.getElem?_cons_succ, Tryd.f6, hck]
    repeat' (first | (refine wpc_split _ (fun hc => ?_) (fun hc => ?_) <;> (try simp at hc)) | (refine ww_split _ (fun hc => ?_) (fun hc => ?_) <;> (try simp at hc)) | (refine wp_drawF (by kernel_rfl) ?_) | (refine wk_yldW _ ?_) | (refine owe ?_ (fun ho => ?_)) | (simp (disch := first | assumption | omega | (simp; done) | (simp; omega)) [hck, -getElem?_pos, List.getElem?_cons_zero, List.getElem?_cons_succ]))
@[simp] theorem S6 (f : Font) (s : List UInt8) (hs : f.gs.length < 1099511627776 ∧ f.ks.length < 1099511627776) (hl : s.length < 1099511627776) (q1 q2 : Fl) (hh : Heap) : Ci cfg (.func (.func 6) [] []) [.agg [R  q1 eG f.gs, .int .i64 f.other, R  q2 eK f.ks], .str s] hh = some (.ret (.bool true), hh) :=
  Ci_K cfg rfl rfl (by simp) (by simp) (C6 f s hs hl)
end Go.Ab
