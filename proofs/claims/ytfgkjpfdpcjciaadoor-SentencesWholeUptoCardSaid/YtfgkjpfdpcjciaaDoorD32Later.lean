/- SentencesLater: the law. -/
import Derived.Test.YtfgkjpfdpcjciaaDoorS32
set_option linter.unusedVariables false
set_option linter.unusedSimpArgs false
set_option linter.unusedSectionVars false
set_option linter.deprecated false
namespace Go.Ab
open Go.Proofs
set_option maxRecDepth 100000
set_option maxHeartbeats 4000000
def rgW (w : List Wrd) (gap most : Int) : Bool := decide (w.length ≤ 60) && decide (erS w gap most = 0)
theorem C15 (w : List Wrd) (gap most : Int) (hs : smXs w) : Kc cfg 15 [R fl0 eW w, .int .i64 gap, .int .i64 most] (.ret (.bool (rgW w gap most))) := by
  have hd : rgW w gap most = (decide (w.length ≤ 60) && decide (erS w gap most = 0)) := rfl
  have hs1 := hs.1
  rw [hd]
  by_cases g : w.length ≤ 60
  · rw [decide_eq_true g]
    by_cases e : erS w gap most = 0
    · rw [decide_eq_true e]
      refine outS_of_wp cfg (fn := Tryd.f15) Tryd.func15 rfl (by simp [Tryd.f15]) ?_
      simp (disch := first | assumption | omega | (simp; done) | (simp; omega)) [-getElem?_pos, List.getElem?_cons_zero, List.getElem?_cons_succ, Tryd.f15, hs, e, emptyH]
      repeat' (first | (refine wpc_split _ (fun hc => ?_) (fun hc => ?_) <;> (try simp at hc)) | (refine ww_split _ (fun hc => ?_) (fun hc => ?_) <;> (try simp at hc)) | (refine wp_drawF (by kernel_rfl) ?_) | (refine wk_yldW _ ?_) | (refine layOwe _ (by kernel_rfl) ?_) | (refine owe ?_ (fun ho => ?_)) | (simp (disch := first | assumption | omega | (simp; done) | (simp; omega)) [hs, e, emptyH, -getElem?_pos, List.getElem?_cons_zero, List.getElem?_cons_succ]))
      all_goals first | rfl | (exfalso; omega)
    · rw [decide_eq_false e]
      refine outS_of_wp cfg (fn := Tryd.f15) Tryd.func15 rfl (by simp [Tryd.f15]) ?_
      simp (disch := first | assumption | omega | (simp; done) | (simp; omega)) [-getElem?_pos, List.getElem?_cons_zero, List.getElem?_cons_succ, Tryd.f15, hs, e, emptyH]
      repeat' (first | (refine wpc_split _ (fun hc => ?_) (fun hc => ?_) <;> (try simp at hc)) | (refine ww_split _ (fun hc => ?_) (fun hc => ?_) <;> (try simp at hc)) | (refine wp_drawF (by kernel_rfl) ?_) | (refine wk_yldW _ ?_) | (refine layOwe _ (by kernel_rfl) ?_) | (refine owe ?_ (fun ho => ?_)) | (simp (disch := first | assumption | omega | (simp; done) | (simp; omega)) [hs, e, emptyH, -getElem?_pos, List.getElem?_cons_zero, List.getElem?_cons_succ]))
      all_goals first | rfl | (exfalso; omega)
  · rw [decide_eq_false g]
    refine outS_of_wp cfg (fn := Tryd.f15) Tryd.func15 rfl (by simp [Tryd.f15]) ?_
    simp (disch := first | assumption | omega | (simp; done) | (simp; omega)) [-getElem?_pos, List.getElem?_cons_zero, List.getElem?_cons_succ, Tryd.f15, hs, emptyH]
    repeat' (first | (refine wpc_split _ (fun hc => ?_) (fun hc => ?_) <;> (try simp at hc)) | (refine ww_split _ (fun hc => ?_) (fun hc => ?_) <;> (try simp at hc)) | (refine wp_drawF (by kernel_rfl) ?_) | (refine wk_yldW _ ?_) | (refine layOwe _ (by kernel_rfl) ?_) | (refine owe ?_ (fun ho => ?_)) | (simp (disch := first | assumption | omega | (simp; done) | (simp; omega)) [hs, emptyH, -getElem?_pos, List.getElem?_cons_zero, List.getElem?_cons_succ]))
    all_goals first | rfl | (exfalso; omega)
@[simp] theorem S15 (w : List Wrd) (gap most : Int) (hs : smXs w) (q1 : Fl) (hh : Heap) : Ci cfg (.func (.func 15) [] []) [R  q1 eW w, .int .i64 gap, .int .i64 most] hh = some (.ret (.bool (rgW w gap most)), hh) :=
  Ci_K cfg rfl rfl (by simp) (by simp) (C15 w gap most hs)
theorem rgW_of {w : List Wrd} {gap most : Int} (h : rgW w gap most = true) : w.length ≤ 60 ∧ erS w gap most = 0 := by
  unfold rgW at h
  simpa using h
theorem C7 (w : List Wrd) (gap most t u : Int) (hs : smXs w) : Kc cfg 7 [R fl0 eW w, .int .i64 gap, .int .i64 most, .int .i64 t, .int .i64 u] (.ret (.bool true)) := by
  have hs1 := hs.1
  cases hr : rgW w gap most with
  | false =>
    refine outS_of_wp cfg (fn := Tryd.f7) Tryd.func7 rfl (by simp [Tryd.f7]) ?_
    simp (disch := first | assumption | omega | (simp; done) | (simp; omega)) [-getElem?_pos, List.getElem?_cons_zero, List.getElem?_cons_succ, Tryd.f7, hs, hr, emptyH]
    repeat' (first | (refine wpc_split _ (fun hc => ?_) (fun hc => ?_) <;> (try simp at hc)) | (refine ww_split _ (fun hc => ?_) (fun hc => ?_) <;> (try simp at hc)) | (refine wp_drawF (by kernel_rfl) ?_) | (refine wk_yldW _ ?_) | (refine layOwe _ (by kernel_rfl) ?_) | (refine owe ?_ (fun ho => ?_)) | (simp (disch := first | assumption | omega | (simp; done) | (simp; omega)) [hs, hr, emptyH, -getElem?_pos, List.getElem?_cons_zero, List.getElem?_cons_succ]))
    all_goals first | rfl | (exfalso; omega)
  | true =>
    obtain ⟨h60, he⟩ := rgW_of hr
    obtain ⟨hl, hok, hg1, hg2, hm1, hm2⟩ := erS_zero he
    by_cases ht : 0 ≤ t ∧ t ≤ u ∧ u < 1099511627776
    · obtain ⟨t1, t2, t3⟩ := ht
      have ha := clS_ok he ⟨t1, by omega⟩
      have hb := clS_ok he ⟨by omega, t3⟩
      have hen := enS_ok he
      by_cases h0 : w.length = 0
      · have hw0 : w = [] := List.length_eq_zero_iff.1 h0
        subst hw0
        have c1 : ∀ t, cntF [] gap most t ([] : List Wrd).length = 0 := fun t => rfl
        rw [c1] at ha hb
        have hen0 : enS [] gap most = [] := by rw [hen]; rfl
        refine outS_of_wp cfg (fn := Tryd.f7) Tryd.func7 rfl (by simp [Tryd.f7]) ?_
        simp (disch := first | assumption | omega | (simp; done) | (simp; omega)) [-getElem?_pos, List.getElem?_cons_zero, List.getElem?_cons_succ, Tryd.f7, hs, hr, emptyH, t1, t2, t3, ha, hb, hen0, he]
        repeat' (first | (refine wpc_split _ (fun hc => ?_) (fun hc => ?_) <;> (try simp at hc)) | (refine ww_split _ (fun hc => ?_) (fun hc => ?_) <;> (try simp at hc)) | (refine wp_drawF (by kernel_rfl) ?_) | (refine wk_yldW _ ?_) | (refine layOwe _ (by kernel_rfl) ?_) | (refine owe ?_ (fun ho => ?_)) | (simp (disch := first | assumption | omega | (simp; done) | (simp; omega)) [hs, hr, emptyH, t1, t2, t3, ha, hb, hen0, he, -getElem?_pos, List.getElem?_cons_zero, List.getElem?_cons_succ]))
        all_goals first | rfl | (exfalso; omega)
      · obtain ⟨k, hk⟩ : ∃ k, w.length = k + 1 := ⟨w.length - 1, by omega⟩
        have hki : k < w.length := by omega
        have hwn : ¬ w = [] := fun e => by rw [e] at hk; simp at hk
        obtain ⟨w1, w2, w3, w4, w5, w6, w7⟩ := okH_of (okL_H hok hki)
        have ca := cntF_end (gap := gap) (most := most) (t := t) hk
        have cb := cntF_end (gap := gap) (most := most) (t := u) hk
        have hee := endsW_end (gap := gap) (most := most) hk
        have hel := endsW_len w gap most k
        rw [hee] at hen
        generalize hL : endsW w gap most k = L at *
        generalize hA : cntF w gap most t w.length = A at *
        generalize hB : cntF w gap most u w.length = B at *
        have hEl : (enS w gap most).length = L.length + 1 := by rw [hen]; simp
        generalize hE : enS w gap most = E at *
        generalize hn : L.length = n at *
        have hAB : n ≤ A ∧ A ≤ B ∧ B ≤ n + 1 := by
          revert ca cb
          split
          · intro ca
            split
            · intro cb; omega
            · rename_i h1 h2
              intro cb
              exact absurd (h1.imp id (fun x => by omega)) h2
          · intro ca
            split <;> intro cb <;> omega
        have hu : (nth w k).til + gap ≤ u → B = n + 1 := fun h => by rw [cb, if_pos (.inr h)]
        obtain ⟨b1, b2, b3⟩ := hAB
        by_cases hq : (nth w k).til + gap ≤ u
        · have hB1 := hu hq
          refine outS_of_wp cfg (fn := Tryd.f7) Tryd.func7 rfl (by simp [Tryd.f7]) ?_
          simp (disch := first | assumption | omega | (simp; done) | (simp; omega)) [-getElem?_pos, List.getElem?_cons_zero, List.getElem?_cons_succ, Tryd.f7, hs, hr, emptyH, t1, t2, t3, ha, hb, hE, he]
          repeat' (first | (refine wpc_split _ (fun hc => ?_) (fun hc => ?_) <;> (try simp at hc)) | (refine ww_split _ (fun hc => ?_) (fun hc => ?_) <;> (try simp at hc)) | (refine wp_drawF (by kernel_rfl) ?_) | (refine wk_yldW _ ?_) | (refine layOwe _ (by kernel_rfl) ?_) | (refine owe ?_ (fun ho => ?_)) | (simp (disch := first | assumption | omega | (simp; done) | (simp; omega)) [hs, hr, emptyH, t1, t2, t3, ha, hb, hE, he, hEl, hk, hki, hwn, hq, hB1, -getElem?_pos, List.getElem?_cons_zero, List.getElem?_cons_succ]))
          all_goals first | rfl | (exfalso; omega) | omega
        · have hq2 : u < (nth w k).til + gap := by omega
          have hwl : w.length - 1 = k := by omega
          have hwr : IntKind.i64.wrap ((nth w (w.length - 1)).til + gap) = (nth w k).til + gap := by
            rw [hwl]
            exact IntWalk.i64_in _ (by omega)
          refine outS_of_wp cfg (fn := Tryd.f7) Tryd.func7 rfl (by simp [Tryd.f7]) ?_
          simp (disch := first | assumption | omega | (simp; done) | (simp; omega)) [-getElem?_pos, List.getElem?_cons_zero, List.getElem?_cons_succ, Tryd.f7, hs, hr, emptyH, t1, t2, t3, ha, hb, hE, he]
          repeat' (first | (refine wpc_split _ (fun hc => ?_) (fun hc => ?_) <;> (try simp at hc)) | (refine ww_split _ (fun hc => ?_) (fun hc => ?_) <;> (try simp at hc)) | (refine wp_drawF (by kernel_rfl) ?_) | (refine wk_yldW _ ?_) | (refine layOwe _ (by kernel_rfl) ?_) | (refine owe ?_ (fun ho => ?_)) | (simp (disch := first | assumption | omega | (simp; done) | (simp; omega)) [hs, hr, emptyH, t1, t2, t3, ha, hb, hE, he, hEl, hk, hki, hwn, hwl, hq, hq2, -getElem?_pos, List.getElem?_cons_zero, List.getElem?_cons_succ]))
          all_goals first | rfl | (exfalso; omega) | omega
    · skip
      refine outS_of_wp cfg (fn := Tryd.f7) Tryd.func7 rfl (by simp [Tryd.f7]) ?_
      simp (disch := first | assumption | omega | (simp; done) | (simp; omega)) [-getElem?_pos, List.getElem?_cons_zero, List.getElem?_cons_succ, Tryd.f7, hs, hr, emptyH]
      repeat' (first | (refine wpc_split _ (fun hc => ?_) (fun hc => ?_) <;> (try simp at hc)) | (refine ww_split _ (fun hc => ?_) (fun hc => ?_) <;> (try simp at hc)) | (refine wp_drawF (by kernel_rfl) ?_) | (refine wk_yldW _ ?_) | (refine layOwe _ (by kernel_rfl) ?_) | (refine owe ?_ (fun ho => ?_)) | (simp (disch := first | assumption | omega | (simp; done) | (simp; omega)) [hs, hr, emptyH, -getElem?_pos, List.getElem?_cons_zero, List.getElem?_cons_succ]))
      all_goals first | rfl | (exfalso; omega)
@[simp] theorem S7 (w : List Wrd) (gap most t u : Int) (hs : smXs w) (q1 : Fl) (hh : Heap) : Ci cfg (.func (.func 7) [] []) [R  q1 eW w, .int .i64 gap, .int .i64 most, .int .i64 t, .int .i64 u] hh = some (.ret (.bool true), hh) :=
  Ci_K cfg rfl rfl (by simp) (by simp) (C7 w gap most t u hs)
end Go.Ab
