/- SentencesWhole: the law. -/
import Derived.Test.YtfgkjpfdpcjciaaDoorD32Reg
import Derived.Test.YtfgkjpfdpcjciaaDoorP32d
set_option linter.unusedVariables false
set_option linter.unusedSimpArgs false
set_option linter.unusedSectionVars false
set_option linter.deprecated false
namespace Go.Ab
open Go.Proofs
set_option maxRecDepth 100000
set_option maxHeartbeats 40000000
theorem apart_no {x y : Wrd} {gap : Int} (h : apartW x y gap = false) : x.til + gap > y.frm ∧ x.sp = y.sp := by
  unfold apartW at h
  rw [Bool.or_eq_false_iff] at h
  have h1 := of_decide_eq_false h.1
  have h2 := of_decide_eq_false h.2
  exact ⟨by omega, by omega⟩
theorem apart_yes {x y : Wrd} {gap : Int} (h : apartW x y gap = true) : x.til + gap ≤ y.frm ∨ ¬ x.sp = y.sp := by
  unfold apartW at h
  rw [Bool.or_eq_true] at h
  rcases h with h | h
  · exact .inl (of_decide_eq_true h)
  · exact .inr (of_decide_eq_true h)
theorem mark_no {t : Wd} (h : markT t = false) : ¬ (nth t (t.length - 1)).toNat = 46 ∧ ¬ (nth t (t.length - 1)).toNat = 63 ∧ ¬ (nth t (t.length - 1)).toNat = 33 := by
  have hm := markB_nat (nth t (t.length - 1))
  rw [show markB (nth t (t.length - 1)) = false from h] at hm
  have hm' := hm.symm
  rw [Bool.or_eq_false_iff, Bool.or_eq_false_iff] at hm'
  exact ⟨of_decide_eq_false hm'.1.1, of_decide_eq_false hm'.1.2, of_decide_eq_false hm'.2⟩
theorem mark_yes {t : Wd} (h : markT t = true) : (nth t (t.length - 1)).toNat = 46 ∨ (nth t (t.length - 1)).toNat = 63 ∨ (nth t (t.length - 1)).toNat = 33 := by
  have hm := markB_nat (nth t (t.length - 1))
  rw [show markB (nth t (t.length - 1)) = true from h] at hm
  have hm' := hm.symm
  rw [Bool.or_eq_true, Bool.or_eq_true] at hm'
  rcases hm' with (h | h) | h
  · exact .inl (of_decide_eq_true h)
  · exact .inr (.inl (of_decide_eq_true h))
  · exact .inr (.inr (of_decide_eq_true h))
theorem C5 (w : List Wrd) (gap most : Int) (hs : smXs w) : Kc cfg 5 [R fl0 eW w, .int .i64 gap, .int .i64 most] (.ret (.bool true)) := by
  have hs1 := hs.1
  cases hr : rgW w gap most with
  | false =>
    refine outS_of_wp cfg (fn := Tryd.f5) Tryd.func5 rfl (by simp [Tryd.f5]) ?_
    simp (disch := first | assumption | omega | (simp; done) | (simp; omega)) [-getElem?_pos, List.getElem?_cons_zero, List.getElem?_cons_succ, Tryd.f5, hs, hr, emptyH]
    repeat' (first | (refine wpc_split _ (fun hc => ?_) (fun hc => ?_) <;> (try simp at hc)) | (refine ww_split _ (fun hc => ?_) (fun hc => ?_) <;> (try simp at hc)) | (refine wp_drawF (by kernel_rfl) ?_) | (refine wk_yldW _ ?_) | (refine layOweF (by kernel_rfl) ?_) | (refine owe ?_ (fun ho => ?_)) | (simp (disch := first | assumption | omega | (simp; done) | (simp; omega)) [hs, hr, emptyH, -getElem?_pos, List.getElem?_cons_zero, List.getElem?_cons_succ]))
    all_goals first | rfl | (exfalso; omega)
  | true =>
    obtain ⟨h60, he⟩ := rgW_of hr
    obtain ⟨_, hok, hg1, hg2, hm1, hm2⟩ := erS_zero he
    have hen := enS_ok he
    by_cases h0 : w.length = 0
    · have hw0 : w = [] := List.length_eq_zero_iff.1 h0
      subst hw0
      have hen0 : enS [] gap most = [] := by rw [hen]; rfl
      refine outS_of_wp cfg (fn := Tryd.f5) Tryd.func5 rfl (by simp [Tryd.f5]) ?_
      simp (disch := first | assumption | omega | (simp; done) | (simp; omega)) [-getElem?_pos, List.getElem?_cons_zero, List.getElem?_cons_succ, Tryd.f5, hs, hr, emptyH, hen0, he]
      repeat' (first | (refine wpc_split _ (fun hc => ?_) (fun hc => ?_) <;> (try simp at hc)) | (refine ww_split _ (fun hc => ?_) (fun hc => ?_) <;> (try simp at hc)) | (refine wp_drawF (by kernel_rfl) ?_) | (refine wk_yldW _ ?_) | (refine layOweF (by kernel_rfl) ?_) | (refine owe ?_ (fun ho => ?_)) | (simp (disch := first | assumption | omega | (simp; done) | (simp; omega)) [hs, hr, emptyH, hen0, he, -getElem?_pos, List.getElem?_cons_zero, List.getElem?_cons_succ]))
      all_goals try (exfalso; omega)
      refine wp_loopE cfg rfl (fun f0 h0 m fr h => fr 0 = f0 0 ∧ fr 1 = f0 1 ∧ fr 2 = f0 2 ∧ fr 7 = f0 7 ∧ fr 9 = f0 9 ∧ fr 55 = f0 55 ∧ fr 56 = f0 56 ∧ fr 57 = .int .i64 0) (1) _ _ ⟨rfl, rfl, rfl, rfl, rfl, rfl, rfl, by first | rfl | (simp; done) | (simp [R]; done) | simp [R]⟩ ?_
      rintro Am Af Ah ⟨A0, A1, A2, A7, A9, A55, A56, A57⟩ Aih
      try simp at A0 A1 A2 A7 A9 A55 A56
      repeat' (first | (refine wpc_split _ (fun hc => ?_) (fun hc => ?_) <;> (try simp at hc)) | (refine ww_split _ (fun hc => ?_) (fun hc => ?_) <;> (try simp at hc)) | (refine wp_drawF (by kernel_rfl) ?_) | (refine wk_yldW _ ?_) | (refine layOweF (by kernel_rfl) ?_) | (refine owe ?_ (fun ho => ?_)) | (simp (disch := first | assumption | omega | (simp; done) | (simp; omega)) [A0, A1, A2, A7, A9, A55, A56, A57, -getElem?_pos, List.getElem?_cons_zero, List.getElem?_cons_succ]))
      all_goals first | rfl | (exfalso; omega)
    · obtain ⟨j, hj⟩ : ∃ j, w.length = j + 1 := ⟨w.length - 1, by omega⟩
      have hee := endsW_end (gap := gap) (most := most) hj
      have hwo : ∀ k, k < (endsW w gap most w.length).length → _ := fun k hk => whole_of (w := w) (gap := gap) (most := most) hm1 hk
      have hel := endsW_len w gap most w.length
      generalize hE : endsW w gap most w.length = E at *
      have hE0 : ¬ E = [] := by rw [hee]; simp
      have hlast : nth E (E.length - 1) = (j : Int) + 1 := by
        rw [hee]; unfold nth; simp
      obtain ⟨q, hq⟩ : ∃ q, E.length = q + 1 := ⟨E.length - 1, by have := List.length_pos_iff.2 hE0; omega⟩
      have hlast2 : nth E q = (j : Int) + 1 := by rw [← hlast, hq]; rfl
      have hqj : ((q : Int) + 1 == 0) = ((j : Int) + 1 == 0) := by rw [beq_eq_false_iff_ne.2 (by omega), beq_eq_false_iff_ne.2 (by omega)]
      refine outS_of_wp cfg (fn := Tryd.f5) Tryd.func5 rfl (by simp [Tryd.f5]) ?_
      simp (disch := first | assumption | omega | (simp; done) | (simp; omega)) [-getElem?_pos, List.getElem?_cons_zero, List.getElem?_cons_succ, Tryd.f5, hs, hr, emptyH, hen, he, hq, hlast2, hj]
      repeat' (first | (refine wpc_split _ (fun hc => ?_) (fun hc => ?_) <;> (try simp at hc)) | (refine ww_split _ (fun hc => ?_) (fun hc => ?_) <;> (try simp at hc)) | (refine wp_drawF (by kernel_rfl) ?_) | (refine wk_yldW _ ?_) | (refine layOweF (by kernel_rfl) ?_) | (refine owe ?_ (fun ho => ?_)) | (simp (disch := first | assumption | omega | (simp; done) | (simp; omega)) [hs, hr, emptyH, hen, he, hq, hlast2, hj, eI, -getElem?_pos, List.getElem?_cons_zero, List.getElem?_cons_succ]))
      all_goals try (exfalso; omega)
      all_goals try contradiction
      refine wp_loopE cfg rfl (fun f0 h0 m fr h => ∃ k : Nat, ∃ a : Nat, fr 0 = f0 0 ∧ fr 1 = f0 1 ∧ fr 2 = f0 2 ∧ fr 7 = f0 7 ∧ fr 9 = f0 9 ∧ fr 55 = f0 55 ∧ fr 56 = f0 56 ∧ fr 57 = .int .i64 k ∧ fr 10 = .int .i64 a ∧ (k + m = E.length) ∧ (firstE E k = (a : Int))) (E.length) _ _ ⟨0, 0, rfl, rfl, rfl, rfl, rfl, rfl, rfl, by first | rfl | (simp; done) | (simp [R]; done) | simp [R], by first | rfl | (simp; done) | (simp [R]; done) | simp [R], by first | rfl | (simp; done) | omega, by rfl⟩ ?_
      rintro Am Af Ah ⟨k, a, A0, A1, A2, A7, A9, A55, A56, A57, A10, hm, hf⟩ Aih
      try simp at A0 A1 A2 A7 A9 A55 A56
      by_cases hk : k < E.length
      · obtain ⟨e, a', w1, w2, w3, w4, w5, w6, w7⟩ := hwo k hk
        have hff : a' = a := by omega
        subst hff
        repeat' (first | (refine wpc_split _ (fun hc => ?_) (fun hc => ?_) <;> (try simp at hc)) | (refine ww_split _ (fun hc => ?_) (fun hc => ?_) <;> (try simp at hc)) | (refine wp_drawF (by kernel_rfl) ?_) | (refine wk_yldW _ ?_) | (refine layOweF (by kernel_rfl) ?_) | (refine owe ?_ (fun ho => ?_)) | (simp (disch := first | assumption | omega | (simp; done) | (simp; omega)) [A0, A1, A2, A7, A9, A55, A56, A57, A10, eI, hk, w1, w3, w4, w5, -getElem?_pos, List.getElem?_cons_zero, List.getElem?_cons_succ]))
        all_goals try (exfalso; omega)
        refine wp_loopE cfg rfl (fun f0 h0 m fr h => ∃ i : Nat, fr 0 = f0 0 ∧ fr 1 = f0 1 ∧ fr 2 = f0 2 ∧ fr 7 = f0 7 ∧ fr 9 = f0 9 ∧ fr 10 = f0 10 ∧ fr 12 = f0 12 ∧ fr 55 = f0 55 ∧ fr 56 = f0 56 ∧ fr 57 = f0 57 ∧ fr 13 = .int .i64 i ∧ (i + m = e) ∧ (a' < i)) (e - (a' + 1)) _ _ ⟨a' + 1, rfl, rfl, rfl, rfl, rfl, rfl, rfl, rfl, rfl, rfl, by first | rfl | (simp; done) | (simp [R]; done) | simp [R], by first | rfl | (simp; done) | omega, by first | rfl | (simp; done) | omega⟩ ?_
        rintro Bm Bf Bh ⟨i, B0, B1, B2, B7, B9, B10, B12, B55, B56, B57, B13, hm3, hfi⟩ Bih
        try simp [A0, A1, A2, A7, A9, A55, A56, A57, A10] at B0 B1 B2 B7 B9 B10 B12 B55 B56 B57
        by_cases hi : i < e
        · have hiw : i < w.length := by omega
          obtain ⟨p, hp⟩ : ∃ p, i = p + 1 := ⟨i - 1, by omega⟩
          have hpi : i - 1 = p := by omega
          obtain ⟨v1, v2⟩ := w6 i hfi hi
          rw [hpi] at v1 v2
          obtain ⟨v3, v4⟩ := apart_no v2
          have hpw : p < w.length := by omega
          obtain ⟨y1, y2, y3, y4, y5, y6, y7⟩ := okH_of (okL_H hok hpw)
          obtain ⟨z1, z2, z3, z4, z5, z6, z7⟩ := okH_of (okL_H hok hiw)
          have hx := smXs_nth hs hpw
          have hx1 := hx.1
          have hpos := word_pos y1
          have hpt : (i : Int) - 1 = p := by omega
          obtain ⟨m1, m2, m3⟩ := mark_no v1
          have h16 := fun h => K16 (s := (nth w p).text) hx1 hpos h
          have hl1 : ((nth w p).text.length : Int) - 1 = ((nth w p).text.length - 1 : Nat) := by omega
          have hl2 : (nth w p).text.length - 1 < (nth w p).text.length := by omega
          repeat' (first | (refine wpc_split _ (fun hc => ?_) (fun hc => ?_) <;> (try simp at hc)) | (refine ww_split _ (fun hc => ?_) (fun hc => ?_) <;> (try simp at hc)) | (refine wp_drawF (by kernel_rfl) ?_) | (refine wk_yldW _ ?_) | (refine layOweF (by kernel_rfl) ?_) | (refine owe ?_ (fun ho => ?_)) | (simp (disch := first | assumption | omega | (simp; done) | (simp; omega)) [B0, B1, B2, B7, B9, B10, B12, B55, B56, B57, B13, A0, A1, A2, A7, A9, A55, A56, A57, A10, hiw, hpw, hpt, hi, v4, hpos, v1, hl1, hl2, h16, -getElem?_pos, List.getElem?_cons_zero, List.getElem?_cons_succ]))
          all_goals try (exfalso; omega)
          exact Bih (Bm - 1) _ _ (by omega) ⟨i + 1, by simp [B0, B1, B2, B7, B9, B10, B12, B55, B56, B57, B13, A0, A1, A2, A7, A9, A55, A56, A57, A10], by simp [B0, B1, B2, B7, B9, B10, B12, B55, B56, B57, B13, A0, A1, A2, A7, A9, A55, A56, A57, A10], by simp [B0, B1, B2, B7, B9, B10, B12, B55, B56, B57, B13, A0, A1, A2, A7, A9, A55, A56, A57, A10], by simp [B0, B1, B2, B7, B9, B10, B12, B55, B56, B57, B13, A0, A1, A2, A7, A9, A55, A56, A57, A10], by simp [B0, B1, B2, B7, B9, B10, B12, B55, B56, B57, B13, A0, A1, A2, A7, A9, A55, A56, A57, A10], by simp [B0, B1, B2, B7, B9, B10, B12, B55, B56, B57, B13, A0, A1, A2, A7, A9, A55, A56, A57, A10], by simp [B0, B1, B2, B7, B9, B10, B12, B55, B56, B57, B13, A0, A1, A2, A7, A9, A55, A56, A57, A10], by simp [B0, B1, B2, B7, B9, B10, B12, B55, B56, B57, B13, A0, A1, A2, A7, A9, A55, A56, A57, A10], by simp [B0, B1, B2, B7, B9, B10, B12, B55, B56, B57, B13, A0, A1, A2, A7, A9, A55, A56, A57, A10], by simp [B0, B1, B2, B7, B9, B10, B12, B55, B56, B57, B13, A0, A1, A2, A7, A9, A55, A56, A57, A10], by simp [B0, B1, B2, B7, B9, B10, B12, B55, B56, B57, B13, A0, A1, A2, A7, A9, A55, A56, A57, A10], by omega, by omega⟩
        · have hie : i = e := by omega
          subst hie
          obtain ⟨p, hp⟩ : ∃ p, i = p + 1 := ⟨i - 1, by omega⟩
          have hpi : i - 1 = p := by omega
          have hpt : (i : Int) - 1 = p := by omega
          have hpw : p < w.length := by omega
          rw [hpi] at w7
          have hnx : firstE E (k + 1) = (i : Int) := by
            unfold firstE; rw [if_neg (by omega)]; exact w1
          by_cases hiw : i < w.length
          · by_cases hsh : (i : Int) - a' < most
            · obtain ⟨y1, y2, y3, y4, y5, y6, y7⟩ := okH_of (okL_H hok hpw)
              obtain ⟨z1, z2, z3, z4, z5, z6, z7⟩ := okH_of (okL_H hok hiw)
              have hx := smXs_nth hs hpw
              have hx1 := hx.1
              have hpos := word_pos y1
              have h16 := fun h => K16 (s := (nth w p).text) hx1 hpos h
              have hl1 : ((nth w p).text.length : Int) - 1 = ((nth w p).text.length - 1 : Nat) := by omega
              have hl2 : (nth w p).text.length - 1 < (nth w p).text.length := by omega
              cases v1 : markT (nth w p).text with
              | true =>
                repeat' (first | (refine wpc_split _ (fun hc => ?_) (fun hc => ?_) <;> (try simp at hc)) | (refine ww_split _ (fun hc => ?_) (fun hc => ?_) <;> (try simp at hc)) | (refine wp_drawF (by kernel_rfl) ?_) | (refine wk_yldW _ ?_) | (refine layOweF (by kernel_rfl) ?_) | (refine owe ?_ (fun ho => ?_)) | (simp (disch := first | assumption | omega | (simp; done) | (simp; omega)) [B0, B1, B2, B7, B9, B10, B12, B55, B56, B57, B13, A0, A1, A2, A7, A9, A55, A56, A57, A10, hiw, hpw, hpt, hsh, hpos, v1, hl1, hl2, h16, -getElem?_pos, List.getElem?_cons_zero, List.getElem?_cons_succ]))
                all_goals try (exfalso; omega)
                exact Aih (Am - 1) _ _ (by omega) ⟨k + 1, i, by simp [B0, B1, B2, B7, B9, B10, B12, B55, B56, B57, B13, A0, A1, A2, A7, A9, A55, A56, A57, A10], by simp [B0, B1, B2, B7, B9, B10, B12, B55, B56, B57, B13, A0, A1, A2, A7, A9, A55, A56, A57, A10], by simp [B0, B1, B2, B7, B9, B10, B12, B55, B56, B57, B13, A0, A1, A2, A7, A9, A55, A56, A57, A10], by simp [B0, B1, B2, B7, B9, B10, B12, B55, B56, B57, B13, A0, A1, A2, A7, A9, A55, A56, A57, A10], by simp [B0, B1, B2, B7, B9, B10, B12, B55, B56, B57, B13, A0, A1, A2, A7, A9, A55, A56, A57, A10], by simp [B0, B1, B2, B7, B9, B10, B12, B55, B56, B57, B13, A0, A1, A2, A7, A9, A55, A56, A57, A10], by simp [B0, B1, B2, B7, B9, B10, B12, B55, B56, B57, B13, A0, A1, A2, A7, A9, A55, A56, A57, A10], by simp [B0, B1, B2, B7, B9, B10, B12, B55, B56, B57, B13, A0, A1, A2, A7, A9, A55, A56, A57, A10], by simp [B0, B1, B2, B7, B9, B10, B12, B55, B56, B57, B13, A0, A1, A2, A7, A9, A55, A56, A57, A10], by omega, hnx⟩
              | false =>
                obtain ⟨m1, m2, m3⟩ := mark_no v1
                have hv := apart_yes (w7 hiw hsh v1)
                by_cases hsp : (nth w i).sp = (nth w p).sp
                · have hv2 : (nth w p).til + gap ≤ (nth w i).frm := by omega
                  repeat' (first | (refine wpc_split _ (fun hc => ?_) (fun hc => ?_) <;> (try simp at hc)) | (refine ww_split _ (fun hc => ?_) (fun hc => ?_) <;> (try simp at hc)) | (refine wp_drawF (by kernel_rfl) ?_) | (refine wk_yldW _ ?_) | (refine layOweF (by kernel_rfl) ?_) | (refine owe ?_ (fun ho => ?_)) | (simp (disch := first | assumption | omega | (simp; done) | (simp; omega)) [B0, B1, B2, B7, B9, B10, B12, B55, B56, B57, B13, A0, A1, A2, A7, A9, A55, A56, A57, A10, hiw, hpw, hpt, hsh, hpos, v1, hl1, hl2, hsp, hv2, h16, -getElem?_pos, List.getElem?_cons_zero, List.getElem?_cons_succ]))
                  all_goals try (exfalso; omega)
                  exact Aih (Am - 1) _ _ (by omega) ⟨k + 1, i, by simp [B0, B1, B2, B7, B9, B10, B12, B55, B56, B57, B13, A0, A1, A2, A7, A9, A55, A56, A57, A10], by simp [B0, B1, B2, B7, B9, B10, B12, B55, B56, B57, B13, A0, A1, A2, A7, A9, A55, A56, A57, A10], by simp [B0, B1, B2, B7, B9, B10, B12, B55, B56, B57, B13, A0, A1, A2, A7, A9, A55, A56, A57, A10], by simp [B0, B1, B2, B7, B9, B10, B12, B55, B56, B57, B13, A0, A1, A2, A7, A9, A55, A56, A57, A10], by simp [B0, B1, B2, B7, B9, B10, B12, B55, B56, B57, B13, A0, A1, A2, A7, A9, A55, A56, A57, A10], by simp [B0, B1, B2, B7, B9, B10, B12, B55, B56, B57, B13, A0, A1, A2, A7, A9, A55, A56, A57, A10], by simp [B0, B1, B2, B7, B9, B10, B12, B55, B56, B57, B13, A0, A1, A2, A7, A9, A55, A56, A57, A10], by simp [B0, B1, B2, B7, B9, B10, B12, B55, B56, B57, B13, A0, A1, A2, A7, A9, A55, A56, A57, A10], by simp [B0, B1, B2, B7, B9, B10, B12, B55, B56, B57, B13, A0, A1, A2, A7, A9, A55, A56, A57, A10], by omega, hnx⟩
                ·
                  repeat' (first | (refine wpc_split _ (fun hc => ?_) (fun hc => ?_) <;> (try simp at hc)) | (refine ww_split _ (fun hc => ?_) (fun hc => ?_) <;> (try simp at hc)) | (refine wp_drawF (by kernel_rfl) ?_) | (refine wk_yldW _ ?_) | (refine layOweF (by kernel_rfl) ?_) | (refine owe ?_ (fun ho => ?_)) | (simp (disch := first | assumption | omega | (simp; done) | (simp; omega)) [B0, B1, B2, B7, B9, B10, B12, B55, B56, B57, B13, A0, A1, A2, A7, A9, A55, A56, A57, A10, hiw, hpw, hpt, hsh, hpos, v1, hl1, hl2, hsp, h16, -getElem?_pos, List.getElem?_cons_zero, List.getElem?_cons_succ]))
                  all_goals try (exfalso; omega)
                  exact Aih (Am - 1) _ _ (by omega) ⟨k + 1, i, by simp [B0, B1, B2, B7, B9, B10, B12, B55, B56, B57, B13, A0, A1, A2, A7, A9, A55, A56, A57, A10], by simp [B0, B1, B2, B7, B9, B10, B12, B55, B56, B57, B13, A0, A1, A2, A7, A9, A55, A56, A57, A10], by simp [B0, B1, B2, B7, B9, B10, B12, B55, B56, B57, B13, A0, A1, A2, A7, A9, A55, A56, A57, A10], by simp [B0, B1, B2, B7, B9, B10, B12, B55, B56, B57, B13, A0, A1, A2, A7, A9, A55, A56, A57, A10], by simp [B0, B1, B2, B7, B9, B10, B12, B55, B56, B57, B13, A0, A1, A2, A7, A9, A55, A56, A57, A10], by simp [B0, B1, B2, B7, B9, B10, B12, B55, B56, B57, B13, A0, A1, A2, A7, A9, A55, A56, A57, A10], by simp [B0, B1, B2, B7, B9, B10, B12, B55, B56, B57, B13, A0, A1, A2, A7, A9, A55, A56, A57, A10], by simp [B0, B1, B2, B7, B9, B10, B12, B55, B56, B57, B13, A0, A1, A2, A7, A9, A55, A56, A57, A10], by simp [B0, B1, B2, B7, B9, B10, B12, B55, B56, B57, B13, A0, A1, A2, A7, A9, A55, A56, A57, A10], by omega, hnx⟩
            ·
              repeat' (first | (refine wpc_split _ (fun hc => ?_) (fun hc => ?_) <;> (try simp at hc)) | (refine ww_split _ (fun hc => ?_) (fun hc => ?_) <;> (try simp at hc)) | (refine wp_drawF (by kernel_rfl) ?_) | (refine wk_yldW _ ?_) | (refine layOweF (by kernel_rfl) ?_) | (refine owe ?_ (fun ho => ?_)) | (simp (disch := first | assumption | omega | (simp; done) | (simp; omega)) [B0, B1, B2, B7, B9, B10, B12, B55, B56, B57, B13, A0, A1, A2, A7, A9, A55, A56, A57, A10, hiw, hpw, hpt, hsh, -getElem?_pos, List.getElem?_cons_zero, List.getElem?_cons_succ]))
              all_goals try (exfalso; omega)
              exact Aih (Am - 1) _ _ (by omega) ⟨k + 1, i, by simp [B0, B1, B2, B7, B9, B10, B12, B55, B56, B57, B13, A0, A1, A2, A7, A9, A55, A56, A57, A10], by simp [B0, B1, B2, B7, B9, B10, B12, B55, B56, B57, B13, A0, A1, A2, A7, A9, A55, A56, A57, A10], by simp [B0, B1, B2, B7, B9, B10, B12, B55, B56, B57, B13, A0, A1, A2, A7, A9, A55, A56, A57, A10], by simp [B0, B1, B2, B7, B9, B10, B12, B55, B56, B57, B13, A0, A1, A2, A7, A9, A55, A56, A57, A10], by simp [B0, B1, B2, B7, B9, B10, B12, B55, B56, B57, B13, A0, A1, A2, A7, A9, A55, A56, A57, A10], by simp [B0, B1, B2, B7, B9, B10, B12, B55, B56, B57, B13, A0, A1, A2, A7, A9, A55, A56, A57, A10], by simp [B0, B1, B2, B7, B9, B10, B12, B55, B56, B57, B13, A0, A1, A2, A7, A9, A55, A56, A57, A10], by simp [B0, B1, B2, B7, B9, B10, B12, B55, B56, B57, B13, A0, A1, A2, A7, A9, A55, A56, A57, A10], by simp [B0, B1, B2, B7, B9, B10, B12, B55, B56, B57, B13, A0, A1, A2, A7, A9, A55, A56, A57, A10], by omega, hnx⟩
          ·
            repeat' (first | (refine wpc_split _ (fun hc => ?_) (fun hc => ?_) <;> (try simp at hc)) | (refine ww_split _ (fun hc => ?_) (fun hc => ?_) <;> (try simp at hc)) | (refine wp_drawF (by kernel_rfl) ?_) | (refine wk_yldW _ ?_) | (refine layOweF (by kernel_rfl) ?_) | (refine owe ?_ (fun ho => ?_)) | (simp (disch := first | assumption | omega | (simp; done) | (simp; omega)) [B0, B1, B2, B7, B9, B10, B12, B55, B56, B57, B13, A0, A1, A2, A7, A9, A55, A56, A57, A10, hiw, hpw, hpt, -getElem?_pos, List.getElem?_cons_zero, List.getElem?_cons_succ]))
            all_goals try (exfalso; omega)
            exact Aih (Am - 1) _ _ (by omega) ⟨k + 1, i, by simp [B0, B1, B2, B7, B9, B10, B12, B55, B56, B57, B13, A0, A1, A2, A7, A9, A55, A56, A57, A10], by simp [B0, B1, B2, B7, B9, B10, B12, B55, B56, B57, B13, A0, A1, A2, A7, A9, A55, A56, A57, A10], by simp [B0, B1, B2, B7, B9, B10, B12, B55, B56, B57, B13, A0, A1, A2, A7, A9, A55, A56, A57, A10], by simp [B0, B1, B2, B7, B9, B10, B12, B55, B56, B57, B13, A0, A1, A2, A7, A9, A55, A56, A57, A10], by simp [B0, B1, B2, B7, B9, B10, B12, B55, B56, B57, B13, A0, A1, A2, A7, A9, A55, A56, A57, A10], by simp [B0, B1, B2, B7, B9, B10, B12, B55, B56, B57, B13, A0, A1, A2, A7, A9, A55, A56, A57, A10], by simp [B0, B1, B2, B7, B9, B10, B12, B55, B56, B57, B13, A0, A1, A2, A7, A9, A55, A56, A57, A10], by simp [B0, B1, B2, B7, B9, B10, B12, B55, B56, B57, B13, A0, A1, A2, A7, A9, A55, A56, A57, A10], by simp [B0, B1, B2, B7, B9, B10, B12, B55, B56, B57, B13, A0, A1, A2, A7, A9, A55, A56, A57, A10], by omega, hnx⟩
      · repeat' (first | (refine wpc_split _ (fun hc => ?_) (fun hc => ?_) <;> (try simp at hc)) | (refine ww_split _ (fun hc => ?_) (fun hc => ?_) <;> (try simp at hc)) | (refine wp_drawF (by kernel_rfl) ?_) | (refine wk_yldW _ ?_) | (refine layOweF (by kernel_rfl) ?_) | (refine owe ?_ (fun ho => ?_)) | (simp (disch := first | assumption | omega | (simp; done) | (simp; omega)) [A0, A1, A2, A7, A9, A55, A56, A57, A10, -getElem?_pos, List.getElem?_cons_zero, List.getElem?_cons_succ]))
        all_goals first | rfl | (exfalso; omega)
@[simp] theorem S5 (w : List Wrd) (gap most : Int) (hs : smXs w) (q1 : Fl) (hh : Heap) : Ci cfg (.func (.func 5) [] []) [R  q1 eW w, .int .i64 gap, .int .i64 most] hh = some (.ret (.bool true), hh) :=
  Ci_K cfg rfl rfl (by simp) (by simp) (C5 w gap most hs)
end Go.Ab
