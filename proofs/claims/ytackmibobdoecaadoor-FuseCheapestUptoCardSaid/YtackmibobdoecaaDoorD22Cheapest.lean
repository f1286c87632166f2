/- FuseCheapest: the law. -/
import Derived.Test.YtackmibobdoecaaDoorD22
set_option linter.unusedVariables false
set_option linter.unusedSimpArgs false
set_option linter.unusedSectionVars false
set_option linter.deprecated false
namespace Go.Ab
open Go.Proofs
set_option maxRecDepth 100000
set_option maxHeartbeats 4000000
theorem goL_okX : ∀ (l : List (List Cell)) (i : Nat) (x s : List (List Cell)), OkX i x → (∀ r ∈ l, ∀ c ∈ r, wordS c.text = true ∧ smC c) → goL i x l = (s, 0) → OkX (i + l.length) s
  | [], i, x, s, hok, _, h => by
    simp only [goL, Prod.mk.injEq, and_true] at h
    subst h; exact hok
  | r :: l, i, x, s, hok, hr, h => by
    by_cases hl : 64 < x.length
    · rw [goL_long hl] at h; simp at h
    · rw [goL_step hl] at h
      have := goL_okX l (i + 1) _ s (hok.step (hr r List.mem_cons_self)) (fun q hq => hr q (List.mem_cons_of_mem _ hq)) h
      have e : i + 1 + l.length = i + (r :: l).length := by simp; omega
      rw [← e]; exact this
theorem oddN_app (many : Nat) (a b : List (List Cell)) : oddN many (a ++ b) = oddN many a + oddN many b := by
  induction a with
  | nil => simp [oddN]
  | cons y a ih => rw [List.cons_append, oddN, oddN, ih]; omega
theorem oddN_take {many : Nat} {o : List (List Cell)} {k : Nat} (h : k < o.length) : oddN many (o.take (k + 1)) = oddN many (o.take k) + (if textS ((nth o k).take many) = (nth (nth o k) many).text then 0 else 1) := by
  rw [nth_take h, oddN_app]; try simp [oddN]
theorem oddN_le (many : Nat) (o : List (List Cell)) : oddN many o ≤ o.length := by
  induction o with
  | nil => simp [oddN]
  | cons y o ih => rw [oddN, List.length_cons]; split <;> omega
theorem oldL_app (many : Nat) (a b : List (List Cell)) : oldL many (a ++ b) = oldL many a ++ oldL many b := by unfold oldL; rw [List.map_append, List.filter_append]
theorem oldL_take {many : Nat} {o : List (List Cell)} {k : Nat} (h : k < o.length) : oldL many (o.take (k + 1)) = if textS ((nth o k).take many) = [] then oldL many (o.take k) else oldL many (o.take k) ++ [(nth o k).take many] := by
  rw [nth_take h, oldL_app, oldL_cons]
  split <;> simp [oldL]
theorem oldL_at {many : Nat} {o s : List (List Cell)} (hs : oldL many o = s) {k : Nat} (h : k < o.length) (hw : ¬ textS ((nth o k).take many) = []) : (oldL many (o.take k)).length < s.length ∧ nth s (oldL many (o.take k)).length = (nth o k).take many := by
  have h1 : o = o.take (k + 1) ++ o.drop (k + 1) := (List.take_append_drop _ _).symm
  rw [h1, oldL_app, oldL_take h, if_neg hw] at hs
  subst hs
  refine ⟨by simp, ?_⟩
  unfold nth
  simp
theorem C6 (l : List (List Cell)) (hs : smL l) : Kc cfg 6 [R fl0 (eR eC) l] (.ret (.bool true)) := by
  have hs1 := hs.1
  rcases List.eq_nil_or_concat l with hl0 | ⟨L, r, hl0⟩
  · subst hl0
    refine outS_of_wp cfg (fn := Tryd.f6) Tryd.func6 rfl (by simp [Tryd.f6]) ?_
    simp (disch := first | assumption | omega | (simp; done) | (simp; omega)) [-getElem?_pos, List.getElem?_cons_zero, List.getElem?_cons_succ, Tryd.f6, hs, emptyH]
    repeat' (first | (refine wpc_split _ (fun hc => ?_) (fun hc => ?_) <;> (try simp at hc)) | (refine ww_split _ (fun hc => ?_) (fun hc => ?_) <;> (try simp at hc)) | (refine wp_drawF (by kernel_rfl) ?_) | (refine wk_yldW _ ?_) | (refine layOwe _ (by kernel_rfl) ?_) | (refine owe ?_ (fun ho => ?_)) | (simp (disch := first | assumption | omega | (simp; done) | (simp; omega)) [hs, emptyH, -getElem?_pos, List.getElem?_cons_zero, List.getElem?_cons_succ]))
  rw [List.concat_eq_append] at hl0
  subst hl0
  have hf := fuS_sm hs
  have hsL : smL L := ⟨by simp at hs1; omega, fun y hy => hs.2 y (List.mem_append_left _ hy)⟩
  cases hr : rightL (L ++ [r]) with
  | false =>
    refine outS_of_wp cfg (fn := Tryd.f6) Tryd.func6 rfl (by simp [Tryd.f6]) ?_
    simp (disch := first | assumption | omega | (simp; done) | (simp; omega)) [-getElem?_pos, List.getElem?_cons_zero, List.getElem?_cons_succ, Tryd.f6, hs, hr, emptyH]
    repeat' (first | (refine wpc_split _ (fun hc => ?_) (fun hc => ?_) <;> (try simp at hc)) | (refine ww_split _ (fun hc => ?_) (fun hc => ?_) <;> (try simp at hc)) | (refine wp_drawF (by kernel_rfl) ?_) | (refine wk_yldW _ ?_) | (refine layOwe _ (by kernel_rfl) ?_) | (refine owe ?_ (fun ho => ?_)) | (simp (disch := first | assumption | omega | (simp; done) | (simp; omega)) [hs, hr, emptyH, -getElem?_pos, List.getElem?_cons_zero, List.getElem?_cons_succ]))
  | true =>
    obtain ⟨h5, h12, hrr⟩ := rightL_of hr
    have hL5 : L.length ≤ 4 := by simp at h5; omega
    have h12L : ∀ q ∈ L, q.length ≤ 12 := fun q hq => h12 q (List.mem_append_left _ hq)
    have hrL : ∀ q ∈ L, ∀ c ∈ q, rightC c = true := fun q hq => hrr q (List.mem_append_left _ hq)
    have h12r : r.length ≤ 12 := h12 r (by simp)
    have hrR : ∀ c ∈ r, rightC c = true := hrr r (by simp)
    have hsr : smS r := hs.2 r (by simp)
    obtain ⟨s, o, g1, S1, g2, S2, hodd, hold⟩ := goL_last hL5 h12L (fun q hq c hc => rightC_ne (hrL q hq c hc)) h12r (fun c hc => rightC_ne (hrR c hc))
    have hfL := fuS_go (l := L) (by omega) h12L hrL
    rw [g1] at hfL
    have hfl := fuS_go (l := L ++ [r]) (by omega) h12 hrr
    rw [g2] at hfl
    have few1 := S1.few
    have few2 := S2.few
    rw [List.length_append] at few2
    have ho60 : o.length ≤ 60 := by simp at few2; omega
    have hs60 : s.length ≤ 48 := by omega
    have d1 := fd_of hfL (by omega) S1.len
    have d2 := fd_of hfl (by simp at few2; omega) S2.len
    have sm1 : smL (fuS L).1 := fuS_sm hsL
    have sm1' := sm1
    rw [hfL] at sm1'
    have sm2 := hf
    rw [hfl] at sm2
    simp only at sm1' sm2
    have hokx := goL_okX L 0 [] s OkX.nil (fun q hq c hc => ⟨rightC_word (hrL q hq c hc), (hsL.2 q hq).2 c hc⟩) g1
    have hfit := hokx.fit (by omega) (by omega) (by omega) (fun c hc => ⟨rightC_word (hrR c hc), hsr.2 c hc⟩)
    have hal := hfit.al
    obtain ⟨hz0, hz1, hz2⟩ := hfit.small
    have hT : T21 (textsL s) (saidL r) 0 0 = oddN L.length o := by rw [hodd]; rfl
    have hnr : nth (L ++ [r]) L.length = r := nth_snoc_eq rfl
    refine outS_of_wp cfg (fn := Tryd.f6) Tryd.func6 rfl (by simp [Tryd.f6]) ?_
    simp (disch := first | assumption | omega | (simp; done) | (simp; omega)) [-getElem?_pos, List.getElem?_cons_zero, List.getElem?_cons_succ, Tryd.f6, hs, hsL, hr, d1, d2, sm1, hf, emptyH, hnr]
    repeat' (first | (refine wpc_split _ (fun hc => ?_) (fun hc => ?_) <;> (try simp at hc)) | (refine ww_split _ (fun hc => ?_) (fun hc => ?_) <;> (try simp at hc)) | (refine wp_drawF (by kernel_rfl) ?_) | (refine wk_yldW _ ?_) | (refine layOwe _ (by kernel_rfl) ?_) | (refine owe ?_ (fun ho => ?_)) | (simp (disch := first | assumption | omega | (simp; done) | (simp; omega)) [hs, hsL, hr, d1, d2, sm1, hf, emptyH, hnr, -getElem?_pos, List.getElem?_cons_zero, List.getElem?_cons_succ]))
    refine wp_loopE cfg rfl (fun f0 h0 m fr h => ∃ j : Nat, ∃ fl : Fl, fr 0 = f0 0 ∧ fr 3 = f0 3 ∧ fr 5 = f0 5 ∧ fr 8 = f0 8 ∧ fr 52 = f0 52 ∧ fr 53 = f0 53 ∧ fr 7 = R fl eS (textsL (s.take j)) ∧ fr 54 = .int .i64 j ∧ h.bs = h0.bs ∧ (App h.ts 1 fl) ∧ (j + m = s.length)) (s.length) _ _ ⟨0, (true, true, none), rfl, rfl, rfl, rfl, rfl, rfl, by simp [R, textsL], by first | rfl | (simp; done) | (simp [R]; done) | simp [R], rfl, App.nil _ _ _, by first | rfl | (simp; done) | omega⟩ ?_
    rintro Am Af Ah ⟨j, fl, A0, A3, A5, A8, A52, A53, A7, A54, Abs, hap, hm⟩ Aih
    try simp at A0 A3 A5 A8 A52 A53 Abs
    by_cases hj : j < s.length
    · have hsj := smL_nth sm1' hj
      have hst := textsL_take hj
      have hll : (textsL (s.take j)).length ≤ j := by unfold textsL; simp; omega
      repeat' (first | (refine wpc_split _ (fun hc => ?_) (fun hc => ?_) <;> (try simp at hc)) | (refine ww_split _ (fun hc => ?_) (fun hc => ?_) <;> (try simp at hc)) | (refine wp_drawF (by kernel_rfl) ?_) | (refine wk_yldW _ ?_) | (refine layOwe _ (by kernel_rfl) ?_) | (refine owe ?_ (fun ho => ?_)) | (simp (disch := first | assumption | omega | (simp; done) | (simp; omega)) [A0, A3, A5, A8, A52, A53, A7, A54, Abs, eR, hsj, fold_S1, -getElem?_pos, List.getElem?_cons_zero, List.getElem?_cons_succ]))
      exact Aih (Am - 1) _ _ (by omega) ⟨j + 1, _, by simp [A0, A3, A5, A8, A52, A53, A7, A54, Abs, hst], by simp [A0, A3, A5, A8, A52, A53, A7, A54, Abs, hst], by simp [A0, A3, A5, A8, A52, A53, A7, A54, Abs, hst], by simp [A0, A3, A5, A8, A52, A53, A7, A54, Abs, hst], by simp [A0, A3, A5, A8, A52, A53, A7, A54, Abs, hst], by simp [A0, A3, A5, A8, A52, A53, A7, A54, Abs, hst], by simp [A0, A3, A5, A8, A52, A53, A7, A54, Abs, hst], by simp [A0, A3, A5, A8, A52, A53, A7, A54, Abs, hst], by simp [A0, A3, A5, A8, A52, A53, A7, A54, Abs, hst], App.new _ _ _, by omega⟩
    · have h1 : s.take j = s := List.take_of_length_le (by omega)
      rw [h1] at A7
      repeat' (first | (refine wpc_split _ (fun hc => ?_) (fun hc => ?_) <;> (try simp at hc)) | (refine ww_split _ (fun hc => ?_) (fun hc => ?_) <;> (try simp at hc)) | (refine wp_drawF (by kernel_rfl) ?_) | (refine wk_yldW _ ?_) | (refine layOwe _ (by kernel_rfl) ?_) | (refine owe ?_ (fun ho => ?_)) | (simp (disch := first | assumption | omega | (simp; done) | (simp; omega)) [A0, A3, A5, A8, A52, A53, A7, A54, Abs, hnr, eR, -getElem?_pos, List.getElem?_cons_zero, List.getElem?_cons_succ]))
      refine wp_loopE cfg rfl (fun f0 h0 m fr h => ∃ k : Nat, ∃ fl3 : Fl, ∃ BX : List Blk, fr 0 = f0 0 ∧ fr 3 = f0 3 ∧ fr 5 = f0 5 ∧ fr 7 = f0 7 ∧ fr 69 = f0 69 ∧ fr 70 = f0 70 ∧ fr 8 = R fl3 eS (saidL (r.take k)) ∧ fr 71 = .int .i64 k ∧ h.bs = h0.bs ++ BX ∧ (App h.ts 1 fl3) ∧ (k + m = r.length)) (r.length) _ _ ⟨0, (true, true, none), [], rfl, rfl, rfl, rfl, rfl, rfl, by simp [A8, R, saidL], by first | rfl | (simp; done) | (simp [R]; done) | simp [R], by simp, App.nil _ _ _, by first | rfl | (simp; done) | omega⟩ ?_
      rintro Bm Bf Bh ⟨k, fl3, BX, B0, B3, B5, B7, B69, B70, B8, B71, Bbs, hap3, hm3⟩ Bih
      try simp [A0, A3, A5, A8, A52, A53, A7, A54, Abs] at B0 B3 B5 B7 B69 B70 Bbs
      by_cases hk : k < r.length
      · have hst := saidL_take hk
        have hll : (saidL (r.take k)).length ≤ k := by unfold saidL; simp; omega
        repeat' (first | (refine wpc_split _ (fun hc => ?_) (fun hc => ?_) <;> (try simp at hc)) | (refine ww_split _ (fun hc => ?_) (fun hc => ?_) <;> (try simp at hc)) | (refine wp_drawF (by kernel_rfl) ?_) | (refine wk_yldW _ ?_) | (refine layOwe _ (by kernel_rfl) ?_) | (refine owe ?_ (fun ho => ?_)) | (simp (disch := first | assumption | omega | (simp; done) | (simp; omega)) [B0, B3, B5, B7, B69, B70, B8, B71, Bbs, A0, A3, A5, A8, A52, A53, A7, A54, Abs, eR, fold_S1, -getElem?_pos, List.getElem?_cons_zero, List.getElem?_cons_succ]))
        exact Bih (Bm - 1) _ _ (by omega) ⟨k + 1, _, BX ++ [.cells (eC (nth r k))], by simp [B0, B3, B5, B7, B69, B70, B8, B71, Bbs, A0, A3, A5, A8, A52, A53, A7, A54, Abs, hst], by simp [B0, B3, B5, B7, B69, B70, B8, B71, Bbs, A0, A3, A5, A8, A52, A53, A7, A54, Abs, hst], by simp [B0, B3, B5, B7, B69, B70, B8, B71, Bbs, A0, A3, A5, A8, A52, A53, A7, A54, Abs, hst], by simp [B0, B3, B5, B7, B69, B70, B8, B71, Bbs, A0, A3, A5, A8, A52, A53, A7, A54, Abs, hst], by simp [B0, B3, B5, B7, B69, B70, B8, B71, Bbs, A0, A3, A5, A8, A52, A53, A7, A54, Abs, hst], by simp [B0, B3, B5, B7, B69, B70, B8, B71, Bbs, A0, A3, A5, A8, A52, A53, A7, A54, Abs, hst], by simp [B0, B3, B5, B7, B69, B70, B8, B71, Bbs, A0, A3, A5, A8, A52, A53, A7, A54, Abs, hst], by simp [B0, B3, B5, B7, B69, B70, B8, B71, Bbs, A0, A3, A5, A8, A52, A53, A7, A54, Abs, hst], by simp [B0, B3, B5, B7, B69, B70, B8, B71, Bbs, A0, A3, A5, A8, A52, A53, A7, A54, Abs, hst], App.new _ _ _, by omega⟩
      · have h1 : r.take k = r := List.take_of_length_le (by omega)
        rw [h1] at B8
        repeat' (first | (refine wpc_split _ (fun hc => ?_) (fun hc => ?_) <;> (try simp at hc)) | (refine ww_split _ (fun hc => ?_) (fun hc => ?_) <;> (try simp at hc)) | (refine wp_drawF (by kernel_rfl) ?_) | (refine wk_yldW _ ?_) | (refine layOwe _ (by kernel_rfl) ?_) | (refine owe ?_ (fun ho => ?_)) | (simp (disch := first | assumption | omega | (simp; done) | (simp; omega)) [B0, B3, B5, B7, B69, B70, B8, B71, Bbs, A0, A3, A5, A8, A52, A53, A7, A54, Abs, -getElem?_pos, List.getElem?_cons_zero, List.getElem?_cons_succ]))
        refine wp_loopE cfg rfl (fun f0 h0 m fr h => ∃ n : Nat, fr 3 = f0 3 ∧ fr 5 = f0 5 ∧ fr 7 = f0 7 ∧ fr 8 = f0 8 ∧ fr 81 = f0 81 ∧ fr 82 = f0 82 ∧ fr 13 = .int .i64 (oddN L.length (o.take n)) ∧ fr 14 = .int .i64 (oldL L.length (o.take n)).length ∧ fr 83 = .int .i64 n ∧ (n + m = o.length)) (o.length) _ _ ⟨0, rfl, rfl, rfl, rfl, rfl, rfl, by first | rfl | (simp; done) | (simp [R]; done) | simp [R], by first | rfl | (simp; done) | (simp [R]; done) | simp [R], by first | rfl | (simp; done) | (simp [R]; done) | simp [R], by first | rfl | (simp; done) | omega⟩ ?_
        rintro Cm Cf Ch ⟨n, C3, C5, C7, C8, C81, C82, C13, C14, C83, hm4⟩ Cih
        try simp [B0, B3, B5, B7, B69, B70, B8, B71, Bbs, A0, A3, A5, A8, A52, A53, A7, A54, Abs] at C3 C5 C7 C8 C81 C82
        by_cases hn : n < o.length
        · have hsn := smL_nth sm2 hn
          have hlen : (nth o n).length = L.length + 1 := by have := S2.len _ (nth_mem hn); simpa using this
          have hsnt : smS ((nth o n).take L.length) := ⟨by simp; omega, fun c hc => hsn.2 c (List.mem_of_mem_take hc)⟩
          have hot := oddN_take (many := L.length) hn
          have hdt := oldL_take (many := L.length) hn
          have hol := oddN_le L.length (o.take n)
          have holl : (o.take n).length ≤ n := by simp; omega
          have hll : (oldL L.length (o.take n)).length ≤ n := by
            unfold oldL
            have := List.length_filter_le (fun y => decide (textS y ≠ [])) ((o.take n).map fun y => y.take L.length)
            simp at this ⊢; omega
          by_cases e1 : textS ((nth o n).take L.length) = []
          · rw [if_pos e1] at hdt
            by_cases e2 : (nth (nth o n) L.length).text = []
            · rw [e1, e2, if_pos rfl] at hot
              repeat' (first | (refine wpc_split _ (fun hc => ?_) (fun hc => ?_) <;> (try simp at hc)) | (refine ww_split _ (fun hc => ?_) (fun hc => ?_) <;> (try simp at hc)) | (refine wp_drawF (by kernel_rfl) ?_) | (refine wk_yldW _ ?_) | (refine layOwe _ (by kernel_rfl) ?_) | (refine owe ?_ (fun ho => ?_)) | (simp (disch := first | assumption | omega | (simp; done) | (simp; omega)) [C3, C5, C7, C8, C81, C82, C13, C14, C83, eR, hlen, hsnt, e1, e2, -getElem?_pos, List.getElem?_cons_zero, List.getElem?_cons_succ]))
              exact Cih (Cm - 1) _ _ (by omega) ⟨n + 1, by simp [C3, C5, C7, C8, C81, C82, C13, C14, C83, B0, B3, B5, B7, B69, B70, B8, B71, Bbs, A0, A3, A5, A8, A52, A53, A7, A54, Abs, hot, hdt], by simp [C3, C5, C7, C8, C81, C82, C13, C14, C83, B0, B3, B5, B7, B69, B70, B8, B71, Bbs, A0, A3, A5, A8, A52, A53, A7, A54, Abs, hot, hdt], by simp [C3, C5, C7, C8, C81, C82, C13, C14, C83, B0, B3, B5, B7, B69, B70, B8, B71, Bbs, A0, A3, A5, A8, A52, A53, A7, A54, Abs, hot, hdt], by simp [C3, C5, C7, C8, C81, C82, C13, C14, C83, B0, B3, B5, B7, B69, B70, B8, B71, Bbs, A0, A3, A5, A8, A52, A53, A7, A54, Abs, hot, hdt], by simp [C3, C5, C7, C8, C81, C82, C13, C14, C83, B0, B3, B5, B7, B69, B70, B8, B71, Bbs, A0, A3, A5, A8, A52, A53, A7, A54, Abs, hot, hdt], by simp [C3, C5, C7, C8, C81, C82, C13, C14, C83, B0, B3, B5, B7, B69, B70, B8, B71, Bbs, A0, A3, A5, A8, A52, A53, A7, A54, Abs, hot, hdt], by simp [C3, C5, C7, C8, C81, C82, C13, C14, C83, B0, B3, B5, B7, B69, B70, B8, B71, Bbs, A0, A3, A5, A8, A52, A53, A7, A54, Abs, hot, hdt], by simp [C3, C5, C7, C8, C81, C82, C13, C14, C83, B0, B3, B5, B7, B69, B70, B8, B71, Bbs, A0, A3, A5, A8, A52, A53, A7, A54, Abs, hot, hdt], by simp [C3, C5, C7, C8, C81, C82, C13, C14, C83, B0, B3, B5, B7, B69, B70, B8, B71, Bbs, A0, A3, A5, A8, A52, A53, A7, A54, Abs, hot, hdt], by omega⟩
            · have e3 : ¬ ([] : Wd) = (nth (nth o n) L.length).text := fun e => e2 e.symm
              rw [e1, if_neg e3] at hot
              repeat' (first | (refine wpc_split _ (fun hc => ?_) (fun hc => ?_) <;> (try simp at hc)) | (refine ww_split _ (fun hc => ?_) (fun hc => ?_) <;> (try simp at hc)) | (refine wp_drawF (by kernel_rfl) ?_) | (refine wk_yldW _ ?_) | (refine layOwe _ (by kernel_rfl) ?_) | (refine owe ?_ (fun ho => ?_)) | (simp (disch := first | assumption | omega | (simp; done) | (simp; omega)) [C3, C5, C7, C8, C81, C82, C13, C14, C83, eR, hlen, hsnt, e1, e2, e3, -getElem?_pos, List.getElem?_cons_zero, List.getElem?_cons_succ]))
              exact Cih (Cm - 1) _ _ (by omega) ⟨n + 1, by simp [C3, C5, C7, C8, C81, C82, C13, C14, C83, B0, B3, B5, B7, B69, B70, B8, B71, Bbs, A0, A3, A5, A8, A52, A53, A7, A54, Abs, hot, hdt], by simp [C3, C5, C7, C8, C81, C82, C13, C14, C83, B0, B3, B5, B7, B69, B70, B8, B71, Bbs, A0, A3, A5, A8, A52, A53, A7, A54, Abs, hot, hdt], by simp [C3, C5, C7, C8, C81, C82, C13, C14, C83, B0, B3, B5, B7, B69, B70, B8, B71, Bbs, A0, A3, A5, A8, A52, A53, A7, A54, Abs, hot, hdt], by simp [C3, C5, C7, C8, C81, C82, C13, C14, C83, B0, B3, B5, B7, B69, B70, B8, B71, Bbs, A0, A3, A5, A8, A52, A53, A7, A54, Abs, hot, hdt], by simp [C3, C5, C7, C8, C81, C82, C13, C14, C83, B0, B3, B5, B7, B69, B70, B8, B71, Bbs, A0, A3, A5, A8, A52, A53, A7, A54, Abs, hot, hdt], by simp [C3, C5, C7, C8, C81, C82, C13, C14, C83, B0, B3, B5, B7, B69, B70, B8, B71, Bbs, A0, A3, A5, A8, A52, A53, A7, A54, Abs, hot, hdt], by simp [C3, C5, C7, C8, C81, C82, C13, C14, C83, B0, B3, B5, B7, B69, B70, B8, B71, Bbs, A0, A3, A5, A8, A52, A53, A7, A54, Abs, hot, hdt], by simp [C3, C5, C7, C8, C81, C82, C13, C14, C83, B0, B3, B5, B7, B69, B70, B8, B71, Bbs, A0, A3, A5, A8, A52, A53, A7, A54, Abs, hot, hdt], by simp [C3, C5, C7, C8, C81, C82, C13, C14, C83, B0, B3, B5, B7, B69, B70, B8, B71, Bbs, A0, A3, A5, A8, A52, A53, A7, A54, Abs, hot, hdt], by omega⟩
          · rw [if_neg e1] at hdt
            obtain ⟨at1, at2⟩ := oldL_at hold hn e1
            by_cases e2 : textS ((nth o n).take L.length) = (nth (nth o n) L.length).text
            · rw [if_pos e2] at hot
              have e1' := e1
              rw [e2] at e1'
              repeat' (first | (refine wpc_split _ (fun hc => ?_) (fun hc => ?_) <;> (try simp at hc)) | (refine ww_split _ (fun hc => ?_) (fun hc => ?_) <;> (try simp at hc)) | (refine wp_drawF (by kernel_rfl) ?_) | (refine wk_yldW _ ?_) | (refine layOwe _ (by kernel_rfl) ?_) | (refine owe ?_ (fun ho => ?_)) | (simp (disch := first | assumption | omega | (simp; done) | (simp; omega)) [C3, C5, C7, C8, C81, C82, C13, C14, C83, eR, hlen, hsnt, e1, e1', e2, at1, at2, -getElem?_pos, List.getElem?_cons_zero, List.getElem?_cons_succ]))
              all_goals try (exfalso; omega)
              exact Cih (Cm - 1) _ _ (by omega) ⟨n + 1, by simp [C3, C5, C7, C8, C81, C82, C13, C14, C83, B0, B3, B5, B7, B69, B70, B8, B71, Bbs, A0, A3, A5, A8, A52, A53, A7, A54, Abs, hot, hdt], by simp [C3, C5, C7, C8, C81, C82, C13, C14, C83, B0, B3, B5, B7, B69, B70, B8, B71, Bbs, A0, A3, A5, A8, A52, A53, A7, A54, Abs, hot, hdt], by simp [C3, C5, C7, C8, C81, C82, C13, C14, C83, B0, B3, B5, B7, B69, B70, B8, B71, Bbs, A0, A3, A5, A8, A52, A53, A7, A54, Abs, hot, hdt], by simp [C3, C5, C7, C8, C81, C82, C13, C14, C83, B0, B3, B5, B7, B69, B70, B8, B71, Bbs, A0, A3, A5, A8, A52, A53, A7, A54, Abs, hot, hdt], by simp [C3, C5, C7, C8, C81, C82, C13, C14, C83, B0, B3, B5, B7, B69, B70, B8, B71, Bbs, A0, A3, A5, A8, A52, A53, A7, A54, Abs, hot, hdt], by simp [C3, C5, C7, C8, C81, C82, C13, C14, C83, B0, B3, B5, B7, B69, B70, B8, B71, Bbs, A0, A3, A5, A8, A52, A53, A7, A54, Abs, hot, hdt], by simp [C3, C5, C7, C8, C81, C82, C13, C14, C83, B0, B3, B5, B7, B69, B70, B8, B71, Bbs, A0, A3, A5, A8, A52, A53, A7, A54, Abs, hot, hdt], by simp [C3, C5, C7, C8, C81, C82, C13, C14, C83, B0, B3, B5, B7, B69, B70, B8, B71, Bbs, A0, A3, A5, A8, A52, A53, A7, A54, Abs, hot, hdt], by simp [C3, C5, C7, C8, C81, C82, C13, C14, C83, B0, B3, B5, B7, B69, B70, B8, B71, Bbs, A0, A3, A5, A8, A52, A53, A7, A54, Abs, hot, hdt], by omega⟩
            · rw [if_neg e2] at hot
              repeat' (first | (refine wpc_split _ (fun hc => ?_) (fun hc => ?_) <;> (try simp at hc)) | (refine ww_split _ (fun hc => ?_) (fun hc => ?_) <;> (try simp at hc)) | (refine wp_drawF (by kernel_rfl) ?_) | (refine wk_yldW _ ?_) | (refine layOwe _ (by kernel_rfl) ?_) | (refine owe ?_ (fun ho => ?_)) | (simp (disch := first | assumption | omega | (simp; done) | (simp; omega)) [C3, C5, C7, C8, C81, C82, C13, C14, C83, eR, hlen, hsnt, e1, e2, at1, at2, -getElem?_pos, List.getElem?_cons_zero, List.getElem?_cons_succ]))
              all_goals try (exfalso; omega)
              exact Cih (Cm - 1) _ _ (by omega) ⟨n + 1, by simp [C3, C5, C7, C8, C81, C82, C13, C14, C83, B0, B3, B5, B7, B69, B70, B8, B71, Bbs, A0, A3, A5, A8, A52, A53, A7, A54, Abs, hot, hdt], by simp [C3, C5, C7, C8, C81, C82, C13, C14, C83, B0, B3, B5, B7, B69, B70, B8, B71, Bbs, A0, A3, A5, A8, A52, A53, A7, A54, Abs, hot, hdt], by simp [C3, C5, C7, C8, C81, C82, C13, C14, C83, B0, B3, B5, B7, B69, B70, B8, B71, Bbs, A0, A3, A5, A8, A52, A53, A7, A54, Abs, hot, hdt], by simp [C3, C5, C7, C8, C81, C82, C13, C14, C83, B0, B3, B5, B7, B69, B70, B8, B71, Bbs, A0, A3, A5, A8, A52, A53, A7, A54, Abs, hot, hdt], by simp [C3, C5, C7, C8, C81, C82, C13, C14, C83, B0, B3, B5, B7, B69, B70, B8, B71, Bbs, A0, A3, A5, A8, A52, A53, A7, A54, Abs, hot, hdt], by simp [C3, C5, C7, C8, C81, C82, C13, C14, C83, B0, B3, B5, B7, B69, B70, B8, B71, Bbs, A0, A3, A5, A8, A52, A53, A7, A54, Abs, hot, hdt], by simp [C3, C5, C7, C8, C81, C82, C13, C14, C83, B0, B3, B5, B7, B69, B70, B8, B71, Bbs, A0, A3, A5, A8, A52, A53, A7, A54, Abs, hot, hdt], by simp [C3, C5, C7, C8, C81, C82, C13, C14, C83, B0, B3, B5, B7, B69, B70, B8, B71, Bbs, A0, A3, A5, A8, A52, A53, A7, A54, Abs, hot, hdt], by simp [C3, C5, C7, C8, C81, C82, C13, C14, C83, B0, B3, B5, B7, B69, B70, B8, B71, Bbs, A0, A3, A5, A8, A52, A53, A7, A54, Abs, hot, hdt], by omega⟩
        · have h1 : o.take n = o := List.take_of_length_le (by omega)
          rw [h1] at C13 C14
          rw [hold] at C14
          repeat' (first | (refine wpc_split _ (fun hc => ?_) (fun hc => ?_) <;> (try simp at hc)) | (refine ww_split _ (fun hc => ?_) (fun hc => ?_) <;> (try simp at hc)) | (refine wp_drawF (by kernel_rfl) ?_) | (refine wk_yldW _ ?_) | (refine layOwe _ (by kernel_rfl) ?_) | (refine owe ?_ (fun ho => ?_)) | (simp (disch := first | assumption | omega | (simp; done) | (simp; omega)) [C3, C5, C7, C8, C81, C82, C13, C14, C83, B0, B3, B5, B7, B69, B70, B8, B71, Bbs, A0, A3, A5, A8, A52, A53, A7, A54, Abs, hal, hz0, hz1, hz2, hT, -getElem?_pos, List.getElem?_cons_zero, List.getElem?_cons_succ]))
@[simp] theorem S6 (l : List (List Cell)) (hs : smL l) (q1 : Fl) (hh : Heap) : Ci cfg (.func (.func 6) [] []) [R  q1 (eR eC) l] hh = some (.ret (.bool true), hh) :=
  Ci_K cfg rfl rfl (by simp) (by simp) (C6 l hs)
end Go.Ab
