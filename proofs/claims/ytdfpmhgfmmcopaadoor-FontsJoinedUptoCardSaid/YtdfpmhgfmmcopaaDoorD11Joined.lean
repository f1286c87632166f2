/- FontsJoined: the law. -/
import Derived.Test.YtdfpmhgfmmcopaaDoorD11Of
set_option linter.unusedVariables false
set_option linter.unusedSimpArgs false
set_option linter.unusedSectionVars false
set_option linter.deprecated false
namespace Go.Ab
open Go.Proofs
set_option maxRecDepth 100000
set_option maxHeartbeats 4000000
theorem wTo_app_left {f : Font} {a b : List Int} {n : Nat} (h : n ≤ a.length) : wTo f (a ++ b) n = wTo f a n := by
  refine sumTo_congr fun i hi => ?_
  unfold addS
  rw [nth_append_left (by omega)]
  split
  · rw [nth_append_left (by omega)]
  · rfl
theorem wTo_app_right {f : Font} {a b : List Int} (ha : a ≠ []) (hb : b ≠ []) : ∀ n, wTo f (a ++ b) (a.length + (n + 1)) = wTo f a a.length + wTo f b (n + 1) - nearS f (nth a (a.length - 1)) (nth b 0)
  | 0 => by
    have hal := List.length_pos_iff.2 ha
    have h1 := wTo_succ f (a ++ b) a.length
    have h2 := wTo_app_left (f := f) (a := a) (b := b) (n := a.length) (Nat.le_refl _)
    have h3 : addS f (a ++ b) a.length = oneS f (nth b 0) - nearS f (nth a (a.length - 1)) (nth b 0) := by
      unfold addS
      rw [if_pos hal, nth_append_right (Nat.le_refl _), Nat.sub_self, nth_append_left (by omega)]
    have h4 : wTo f b (0 + 1) = oneS f (nth b 0) := by
      unfold wTo; rw [sumTo_succ, sumTo_zero]; simp [addS]
    rw [h4, show a.length + (0 + 1) = a.length + 1 by omega, h1, h2, h3]; omega
  | n + 1 => by
    have ih := wTo_app_right (f := f) ha hb n
    have h1 := wTo_succ f (a ++ b) (a.length + (n + 1))
    have h2 := wTo_succ f b (n + 1)
    have h3 : addS f (a ++ b) (a.length + (n + 1)) = addS f b (n + 1) := by
      unfold addS
      rw [if_pos (by omega), if_pos (by omega), nth_append_right (by omega), nth_append_right (by omega)]
      have e1 : a.length + (n + 1) - a.length = n + 1 := by omega
      have e2 : a.length + (n + 1) - 1 - a.length = n + 1 - 1 := by omega
      rw [e1, e2]
    rw [show a.length + (n + 1 + 1) = a.length + (n + 1) + 1 by omega, h1, h2, h3, ih]; omega
theorem wTo_app {f : Font} {a b : List Int} (ha : a ≠ []) (hb : b ≠ []) : wTo f (a ++ b) (a ++ b).length = wTo f a a.length + wTo f b b.length - nearS f (nth a (a.length - 1)) (nth b 0) := by
  have hbl := List.length_pos_iff.2 hb
  have := wTo_app_right (f := f) ha hb (b.length - 1)
  rw [show b.length - 1 + 1 = b.length by omega] at this
  rw [List.length_append]; exact this
theorem C7 (f : Font) (s t : List UInt8) (hs : f.gs.length < 1099511627776 ∧ f.ks.length < 1099511627776) (hl : s.length < 1099511627776) (hl2 : t.length < 1099511627776) : Kc cfg 7 [.agg [R fl0 eG f.gs, .int .i64 f.other, R fl0 eK f.ks], .str s, .str t] (.ret (.bool true)) := by
  have hs3 : f.gs.length < 1099511627776 ∧ f.ks.length < 1099511627776 ∧ s.length < 1099511627776 := ⟨hs.1, hs.2, hl⟩
  have ht3 : f.gs.length < 1099511627776 ∧ f.ks.length < 1099511627776 ∧ t.length < 1099511627776 := ⟨hs.1, hs.2, hl2⟩
  by_cases hlen : 200 < s.length ∨ 200 < t.length
  · skip
    refine outS_of_wp cfg (fn := Tryd.f7) Tryd.func7 rfl (by simp [Tryd.f7]) ?_
    simp (disch := first | assumption | omega | (simp; done) | (simp; omega)) [-getElem?_pos, List.getElem?_cons_zero, List.getElem?_cons_succ, Tryd.f7]
    repeat' (first | (refine wpc_split _ (fun hc => ?_) (fun hc => ?_) <;> (try simp at hc)) | (refine ww_split _ (fun hc => ?_) (fun hc => ?_) <;> (try simp at hc)) | (refine wp_drawF (by kernel_rfl) ?_) | (refine wk_yldW _ ?_) | (refine owe ?_ (fun ho => ?_)) | (simp (disch := first | assumption | omega | (simp; done) | (simp; omega)) [-getElem?_pos, List.getElem?_cons_zero, List.getElem?_cons_succ]))
    all_goals omega
  by_cases hck : checkS f = 0
  · by_cases he : (runesG s).2 = 0
    · by_cases he2 : (runesG t).2 = 0
      · obtain ⟨hs4, hr⟩ := runesG_all he
        obtain ⟨ht4, hr2⟩ := runesG_all he2
        obtain ⟨hen, hpt⟩ := runes_enc' hr
        obtain ⟨hen2, hpt2⟩ := runes_enc' hr2
        have hw := widthS_of hck he
        have hw2 := widthS_of hck he2
        have hn := runesG_len' s
        have hn2 := runesG_len' t
        generalize hlg : (runesG s).1 = a at *
        generalize hlg2 : (runesG t).1 = b at *
        have hall : (a ++ b).all point = true := by rw [List.all_append, hpt, hpt2]; rfl
        have hw3 := widthS_enc hck hall (by rw [encAll_append, List.length_append, hen, hen2]; omega)
        rw [encAll_append, hen, hen2] at hw3
        have hwa := wTo_bound hck a a.length
        have hwb := wTo_bound hck b b.length
        by_cases ha : a = []
        · subst ha
          have z0 : wTo f [] 0 = 0 := rfl
          refine outS_of_wp cfg (fn := Tryd.f7) Tryd.func7 rfl (by simp [Tryd.f7]) ?_
          simp (disch := first | assumption | omega | (simp; done) | (simp; omega)) [-getElem?_pos, List.getElem?_cons_zero, List.getElem?_cons_succ, Tryd.f7, hck, he, he2, hw, hw2, hw3, hlg, hlg2, z0]
          repeat' (first | (refine wpc_split _ (fun hc => ?_) (fun hc => ?_) <;> (try simp at hc)) | (refine ww_split _ (fun hc => ?_) (fun hc => ?_) <;> (try simp at hc)) | (refine wp_drawF (by kernel_rfl) ?_) | (refine wk_yldW _ ?_) | (refine owe ?_ (fun ho => ?_)) | (simp (disch := first | assumption | omega | (simp; done) | (simp; omega)) [hck, he, he2, hw, hw2, hw3, hlg, hlg2, z0, -getElem?_pos, List.getElem?_cons_zero, List.getElem?_cons_succ]))
        · by_cases hb : b = []
          · subst hb
            have z0 : wTo f [] 0 = 0 := rfl
            refine outS_of_wp cfg (fn := Tryd.f7) Tryd.func7 rfl (by simp [Tryd.f7]) ?_
            simp (disch := first | assumption | omega | (simp; done) | (simp; omega)) [-getElem?_pos, List.getElem?_cons_zero, List.getElem?_cons_succ, Tryd.f7, hck, he, he2, hw, hw2, hw3, hlg, hlg2, z0, ha]
            repeat' (first | (refine wpc_split _ (fun hc => ?_) (fun hc => ?_) <;> (try simp at hc)) | (refine ww_split _ (fun hc => ?_) (fun hc => ?_) <;> (try simp at hc)) | (refine wp_drawF (by kernel_rfl) ?_) | (refine wk_yldW _ ?_) | (refine owe ?_ (fun ho => ?_)) | (simp (disch := first | assumption | omega | (simp; done) | (simp; omega)) [hck, he, he2, hw, hw2, hw3, hlg, hlg2, z0, ha, -getElem?_pos, List.getElem?_cons_zero, List.getElem?_cons_succ]))
          · have happ := wTo_app (f := f) ha hb
            rw [happ] at hw3
            have hal := List.length_pos_iff.2 ha
            have hbl := List.length_pos_iff.2 hb
            have h4 : (((a.length : Int) - 1).toNat) = a.length - 1 := by omega
            have p1 := pt_nth hpt (i := a.length - 1) (by omega)
            have p2 := pt_nth hpt2 (i := 0) hbl
            have e2 := w2 f (nth a (a.length - 1)) (nth b 0)
            have e1 := w1 f (nth a (a.length - 1))
            have e0 := w1 f (nth b 0)
            have b1 := oneS_bound hck (nth a (a.length - 1))
            have b2 := oneS_bound hck (nth b 0)
            have b3 := nearS_bound hck (nth a (a.length - 1)) (nth b 0)
            generalize hgx : nth a (a.length - 1) = x at *
            generalize hgy : nth b 0 = y at *
            have q2 : ([x, y] : List Int).all point = true := by simp [p1, p2]
            have q1 : ([x] : List Int).all point = true := by simp [p1]
            have g2 := enc2l x y
            have g1 := enc1l x
            have g0 := enc1l y
            have q0 : ([y] : List Int).all point = true := by simp [p2]
            refine outS_of_wp cfg (fn := Tryd.f7) Tryd.func7 rfl (by simp [Tryd.f7]) ?_
            simp (disch := first | assumption | omega | (simp; done) | (simp; omega)) [-getElem?_pos, List.getElem?_cons_zero, List.getElem?_cons_succ, Tryd.f7, hck, he, he2, hw, hw2, hw3, hlg, hlg2, ha, hb]
            repeat' (first | (refine wpc_split _ (fun hc => ?_) (fun hc => ?_) <;> (try simp at hc)) | (refine ww_split _ (fun hc => ?_) (fun hc => ?_) <;> (try simp at hc)) | (refine wp_drawF (by kernel_rfl) ?_) | (refine wk_yldW _ ?_) | (refine owe ?_ (fun ho => ?_)) | (simp (disch := first | assumption | omega | (simp; done) | (simp; omega)) [hck, he, he2, hw, hw2, hw3, hlg, hlg2, ha, hb, eI, h4, fold_I1, fold_I2, e2, e1, e0, hgx, hgy, -getElem?_pos, List.getElem?_cons_zero, List.getElem?_cons_succ]))
            all_goals omega
      · skip
        refine outS_of_wp cfg (fn := Tryd.f7) Tryd.func7 rfl (by simp [Tryd.f7]) ?_
        simp (disch := first | assumption | omega | (simp; done) | (simp; omega)) [-getElem?_pos, List.getElem?_cons_zero, List.getElem?_cons_succ, Tryd.f7, hck, he, he2]
        repeat' (first | (refine wpc_split _ (fun hc => ?_) (fun hc => ?_) <;> (try simp at hc)) | (refine ww_split _ (fun hc => ?_) (fun hc => ?_) <;> (try simp at hc)) | (refine wp_drawF (by kernel_rfl) ?_) | (refine wk_yldW _ ?_) | (refine owe ?_ (fun ho => ?_)) | (simp (disch := first | assumption | omega | (simp; done) | (simp; omega)) [hck, he, he2, -getElem?_pos, List.getElem?_cons_zero, List.getElem?_cons_succ]))
    · skip
      refine outS_of_wp cfg (fn := Tryd.f7) Tryd.func7 rfl (by simp [Tryd.f7]) ?_
      simp (disch := first | assumption | omega | (simp; done) | (simp; omega)) [-getElem?_pos, List.getElem?_cons_zero, List.getElem?_cons_succ, Tryd.f7, hck, he]
      repeat' (first | (refine wpc_split _ (fun hc => ?_) (fun hc => ?_) <;> (try simp at hc)) | (refine ww_split _ (fun hc => ?_) (fun hc => ?_) <;> (try simp at hc)) | (refine wp_drawF (by kernel_rfl) ?_) | (refine wk_yldW _ ?_) | (refine owe ?_ (fun ho => ?_)) | (simp (disch := first | assumption | omega | (simp; done) | (simp; omega)) [hck, he, -getElem?_pos, List.getElem?_cons_zero, List.getElem?_cons_succ]))
  · skip
    refine outS_of_wp cfg (fn := Tryd.f7) Tryd.func7 rfl (by simp [Tryd.f7]) ?_
    simp (disch := first | assumption | omega | (simp; done) | (simp; omega)) [-getElem?_pos, List.getElem?_cons_zero, List.getElem?_cons_succ, Tryd.f7, hck]
    repeat' (first | (refine wpc_split _ (fun hc => ?_) (fun hc => ?_) <;> (try simp at hc)) | (refine ww_split _ (fun hc => ?_) (fun hc => ?_) <;> (try simp at hc)) | (refine wp_drawF (by kernel_rfl) ?_) | (refine wk_yldW _ ?_) | (refine owe ?_ (fun ho => ?_)) | (simp (disch := first | assumption | omega | (simp; done) | (simp; omega)) [hck, -getElem?_pos, List.getElem?_cons_zero, List.getElem?_cons_succ]))
@[simp] theorem S7 (f : Font) (s t : List UInt8) (hs : f.gs.length < 1099511627776 ∧ f.ks.length < 1099511627776) (hl : s.length < 1099511627776) (hl2 : t.length < 1099511627776) (q1 q2 : Fl) (hh : Heap) : Ci cfg (.func (.func 7) [] []) [.agg [R  q1 eG f.gs, .int .i64 f.other, R  q2 eK f.ks], .str s, .str t] hh = some (.ret (.bool true), hh) :=
  Ci_K cfg rfl rfl (by simp) (by simp) (C7 f s t hs hl hl2)
end Go.Ab
