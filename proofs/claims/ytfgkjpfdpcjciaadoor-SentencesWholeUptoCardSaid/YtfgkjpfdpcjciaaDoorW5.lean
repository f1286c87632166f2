/- Layer 32 (sentences): the specification's Ends and Closed. -/
import Derived.Test.YtfgkjpfdpcjciaaDoorW4
set_option linter.unusedVariables false
set_option linter.unusedSimpArgs false
set_option linter.unusedSectionVars false
set_option linter.deprecated false
namespace Go.Ab
open Go.Proofs
set_option maxRecDepth 100000
set_option maxHeartbeats 4000000
theorem word_pos {t : Wd} (h : wordS t = true) : 0 < t.length := by
  unfold wordS at h
  rw [Bool.and_eq_true] at h
  exact (of_decide_eq_true h.1).1
theorem okL_H {w : List Wrd} (h : okL w = true) {k : Nat} (hk : k < w.length) : okH (nth w k) = true := okW_H (okI_W (okL_at h hk))
theorem endW_last {w : List Wrd} {gap most : Int} {i : Nat} {n : Int} (h : i + 1 = w.length) : endW w gap most i n = true := by unfold endW; rw [decide_eq_true h]; rfl
theorem endW_in {w : List Wrd} {gap most : Int} {i : Nat} {n : Int} (h : ¬ i + 1 = w.length) : endW w gap most i n = (ownW (nth w i) n most || apartW (nth w i) (nth w (i + 1)) gap) := by unfold endW; rw [decide_eq_false h]; rfl
theorem numW_step {w : List Wrd} {gap most : Int} {i : Nat} : numW w gap most (i + 1) = if endW w gap most i (numW w gap most i + 1 : Nat) = true then 0 else numW w gap most i + 1 := rfl
theorem endsW_step {w : List Wrd} {gap most : Int} {i : Nat} : endsW w gap most (i + 1) = if endW w gap most i (numW w gap most i + 1 : Nat) = true then endsW w gap most i ++ [((i + 1 : Nat) : Int)] else endsW w gap most i := rfl
def enS (w : List Wrd) (gap most : Int) : List Int := if erS w gap most = 0 then endsW w gap most w.length else []
theorem enS_ok {w : List Wrd} {gap most : Int} (h : erS w gap most = 0) : enS w gap most = endsW w gap most w.length := if_pos h
theorem enS_no {w : List Wrd} {gap most : Int} (h : ¬ erS w gap most = 0) : enS w gap most = [] := if_neg h
theorem C11 (w : List Wrd) (gap most : Int) (hs : smXs w) : Kc cfg 11 [R fl0 eW w, .int .i64 gap, .int .i64 most] (.ret (.tuple [R fl0 eI (enS w gap most), .int .i64 (erS w gap most)])) := by
  have hs1 := hs.1
  by_cases he : erS w gap most = 0
  · rw [enS_ok he, he]
    obtain ⟨hl, hok, hg1, hg2, hm1, hm2⟩ := erS_zero he
    refine outS_of_wp cfg (fn := Tryd.f11) Tryd.func11 rfl (by simp [Tryd.f11]) ?_
    simp (disch := first | assumption | omega | (simp; done) | (simp; omega)) [-getElem?_pos, List.getElem?_cons_zero, List.getElem?_cons_succ, Tryd.f11, hs, he, emptyH]
    repeat' (first | (refine wpc_split _ (fun hc => ?_) (fun hc => ?_) <;> (try simp at hc)) | (refine ww_split _ (fun hc => ?_) (fun hc => ?_) <;> (try simp at hc)) | (refine wp_drawF (by kernel_rfl) ?_) | (refine wk_yldW _ ?_) | (refine layOwe _ (by kernel_rfl) ?_) | (refine owe ?_ (fun ho => ?_)) | (simp (disch := first | assumption | omega | (simp; done) | (simp; omega)) [hs, he, emptyH, -getElem?_pos, List.getElem?_cons_zero, List.getElem?_cons_succ]))
    all_goals try (exfalso; omega)
    refine wp_loopE cfg rfl (fun f0 h0 m fr h => ∃ i : Nat, ∃ fl : Fl, fr 0 = f0 0 ∧ fr 1 = f0 1 ∧ fr 2 = f0 2 ∧ fr 9 = R fl eI (endsW w gap most i) ∧ fr 10 = .int .i64 (numW w gap most i) ∧ fr 11 = .int .i64 i ∧ (App h.ts 1 fl) ∧ (i + m = w.length)) (w.length) _ _ ⟨0, (false, true, none), rfl, rfl, rfl, by simp [endsW, R], by first | rfl | (simp; done) | (simp [R]; done) | simp [R], by first | rfl | (simp; done) | (simp [R]; done) | simp [R], App.full _ _ _, by first | rfl | (simp; done) | omega⟩ ?_
    rintro Am Af Ah ⟨i, fl, A0, A1, A2, A9, A10, A11, hap, hm⟩ Aih
    try simp at A0 A1 A2
    by_cases hi : i < w.length
    · have hx := smXs_nth hs hi
      have hx1 := hx.1
      obtain ⟨w1, w2, w3, w4, w5, w6, w7⟩ := okH_of (okL_H hok hi)
      have hpos := word_pos w1
      have hel := endsW_len w gap most i
      have hnl := numW_le w gap most i
      have hns := numW_step (w := w) (gap := gap) (most := most) (i := i)
      have hes := endsW_step (w := w) (gap := gap) (most := most) (i := i)
      have ho : ownW ⟨(nth w i).text, (nth w i).frm, (nth w i).til, (nth w i).sp, (nth w i).alts⟩ ((numW w gap most i : Int) + 1) most = ownW (nth w i) (numW w gap most i + 1 : Nat) most := rfl
      by_cases g1 : i + 1 = w.length
      · have hg := endW_last (gap := gap) (most := most) (n := ((numW w gap most i + 1 : Nat) : Int)) g1
        rw [if_pos hg] at hns hes
        have g1' : (i : Int) + 1 = (w.length : Int) := by omega
        repeat' (first | (refine wpc_split _ (fun hc => ?_) (fun hc => ?_) <;> (try simp at hc)) | (refine ww_split _ (fun hc => ?_) (fun hc => ?_) <;> (try simp at hc)) | (refine wp_drawF (by kernel_rfl) ?_) | (refine wk_yldW _ ?_) | (refine layOwe _ (by kernel_rfl) ?_) | (refine owe ?_ (fun ho => ?_)) | (simp (disch := first | assumption | omega | (simp; done) | (simp; omega)) [A0, A1, A2, A9, A10, A11, hx, g1, g1', fold_I1, -getElem?_pos, List.getElem?_cons_zero, List.getElem?_cons_succ]))
        all_goals try (exfalso; omega)
        exact Aih (Am - 1) _ _ (by omega) ⟨i + 1, _, by simp [A0, A1, A2, A9, A10, A11, hns, hes, g1'], by simp [A0, A1, A2, A9, A10, A11, hns, hes, g1'], by simp [A0, A1, A2, A9, A10, A11, hns, hes, g1'], by simp [A0, A1, A2, A9, A10, A11, hns, hes, g1'], by simp [A0, A1, A2, A9, A10, A11, hns, hes, g1'], by simp [A0, A1, A2, A9, A10, A11, hns, hes, g1'], App.new _ _ _, by omega⟩
      · have hi2 : i + 1 < w.length := by omega
        have hx2 := smXs_nth hs hi2
        have g1' : ¬ (i : Int) + 1 = (w.length : Int) := by omega
        have hg := endW_in (gap := gap) (most := most) (n := ((numW w gap most i + 1 : Nat) : Int)) g1
        have ha : apartW ⟨(nth w i).text, (nth w i).frm, (nth w i).til, (nth w i).sp, (nth w i).alts⟩ ⟨(nth w (i + 1)).text, (nth w (i + 1)).frm, (nth w (i + 1)).til, (nth w (i + 1)).sp, (nth w (i + 1)).alts⟩ gap = apartW (nth w i) (nth w (i + 1)) gap := rfl
        cases g2 : ownW (nth w i) (numW w gap most i + 1 : Nat) most with
        | true =>
          rw [g2, Bool.true_or] at hg
          rw [if_pos hg] at hns hes
          rw [g2] at ho
          repeat' (first | (refine wpc_split _ (fun hc => ?_) (fun hc => ?_) <;> (try simp at hc)) | (refine ww_split _ (fun hc => ?_) (fun hc => ?_) <;> (try simp at hc)) | (refine wp_drawF (by kernel_rfl) ?_) | (refine wk_yldW _ ?_) | (refine layOwe _ (by kernel_rfl) ?_) | (refine owe ?_ (fun ho => ?_)) | (simp (disch := first | assumption | omega | (simp; done) | (simp; omega)) [A0, A1, A2, A9, A10, A11, hx, g1, g1', ho, fold_I1, hpos, -getElem?_pos, List.getElem?_cons_zero, List.getElem?_cons_succ]))
          all_goals try (exfalso; omega)
          exact Aih (Am - 1) _ _ (by omega) ⟨i + 1, _, by simp [A0, A1, A2, A9, A10, A11, hns, hes], by simp [A0, A1, A2, A9, A10, A11, hns, hes], by simp [A0, A1, A2, A9, A10, A11, hns, hes], by simp [A0, A1, A2, A9, A10, A11, hns, hes], by simp [A0, A1, A2, A9, A10, A11, hns, hes], by simp [A0, A1, A2, A9, A10, A11, hns, hes], App.new _ _ _, by omega⟩
        | false =>
          rw [g2, Bool.false_or] at hg
          rw [g2] at ho
          cases g3 : apartW (nth w i) (nth w (i + 1)) gap with
          | true =>
            rw [g3] at hg ha
            rw [if_pos hg] at hns hes
            repeat' (first | (refine wpc_split _ (fun hc => ?_) (fun hc => ?_) <;> (try simp at hc)) | (refine ww_split _ (fun hc => ?_) (fun hc => ?_) <;> (try simp at hc)) | (refine wp_drawF (by kernel_rfl) ?_) | (refine wk_yldW _ ?_) | (refine layOwe _ (by kernel_rfl) ?_) | (refine owe ?_ (fun ho => ?_)) | (simp (disch := first | assumption | omega | (simp; done) | (simp; omega)) [A0, A1, A2, A9, A10, A11, hx, hx2, g1, g1', ho, ha, hi2, fold_I1, hpos, -getElem?_pos, List.getElem?_cons_zero, List.getElem?_cons_succ]))
            all_goals try (exfalso; omega)
            exact Aih (Am - 1) _ _ (by omega) ⟨i + 1, _, by simp [A0, A1, A2, A9, A10, A11, hns, hes], by simp [A0, A1, A2, A9, A10, A11, hns, hes], by simp [A0, A1, A2, A9, A10, A11, hns, hes], by simp [A0, A1, A2, A9, A10, A11, hns, hes], by simp [A0, A1, A2, A9, A10, A11, hns, hes], by simp [A0, A1, A2, A9, A10, A11, hns, hes], App.new _ _ _, by omega⟩
          | false =>
            rw [g3] at hg ha
            rw [if_neg (by rw [hg]; simp)] at hns hes
            repeat' (first | (refine wpc_split _ (fun hc => ?_) (fun hc => ?_) <;> (try simp at hc)) | (refine ww_split _ (fun hc => ?_) (fun hc => ?_) <;> (try simp at hc)) | (refine wp_drawF (by kernel_rfl) ?_) | (refine wk_yldW _ ?_) | (refine layOwe _ (by kernel_rfl) ?_) | (refine owe ?_ (fun ho => ?_)) | (simp (disch := first | assumption | omega | (simp; done) | (simp; omega)) [A0, A1, A2, A9, A10, A11, hx, hx2, g1, g1', ho, ha, hi2, fold_I1, hpos, -getElem?_pos, List.getElem?_cons_zero, List.getElem?_cons_succ]))
            all_goals try (exfalso; omega)
            exact Aih (Am - 1) _ _ (by omega) ⟨i + 1, fl, by simp [A0, A1, A2, A9, A10, A11, hns, hes], by simp [A0, A1, A2, A9, A10, A11, hns, hes], by simp [A0, A1, A2, A9, A10, A11, hns, hes], by simp [A0, A1, A2, A9, A10, A11, hns, hes], by simp [A0, A1, A2, A9, A10, A11, hns, hes], by simp [A0, A1, A2, A9, A10, A11, hns, hes], hap, by omega⟩
    · have hil : i = w.length := by omega
      subst hil
      repeat' (first | (refine wpc_split _ (fun hc => ?_) (fun hc => ?_) <;> (try simp at hc)) | (refine ww_split _ (fun hc => ?_) (fun hc => ?_) <;> (try simp at hc)) | (refine wp_drawF (by kernel_rfl) ?_) | (refine wk_yldW _ ?_) | (refine layOwe _ (by kernel_rfl) ?_) | (refine owe ?_ (fun ho => ?_)) | (simp (disch := first | assumption | omega | (simp; done) | (simp; omega)) [A0, A1, A2, A9, A10, A11, -getElem?_pos, List.getElem?_cons_zero, List.getElem?_cons_succ]))
  · rw [enS_no he]
    generalize hE : erS w gap most = E at *
    refine outS_of_wp cfg (fn := Tryd.f11) Tryd.func11 rfl (by simp [Tryd.f11]) ?_
    simp (disch := first | assumption | omega | (simp; done) | (simp; omega)) [-getElem?_pos, List.getElem?_cons_zero, List.getElem?_cons_succ, Tryd.f11, hs, he, hE, emptyH]
    repeat' (first | (refine wpc_split _ (fun hc => ?_) (fun hc => ?_) <;> (try simp at hc)) | (refine ww_split _ (fun hc => ?_) (fun hc => ?_) <;> (try simp at hc)) | (refine wp_drawF (by kernel_rfl) ?_) | (refine wk_yldW _ ?_) | (refine layOwe _ (by kernel_rfl) ?_) | (refine owe ?_ (fun ho => ?_)) | (simp (disch := first | assumption | omega | (simp; done) | (simp; omega)) [hs, he, hE, emptyH, -getElem?_pos, List.getElem?_cons_zero, List.getElem?_cons_succ]))
    all_goals first | rfl | exact ⟨rfl, rfl⟩ | (exfalso; omega)
@[simp] theorem S11 (w : List Wrd) (gap most : Int) (hs : smXs w) (q1 : Fl) (hh : Heap) : Ci cfg (.func (.func 11) [] []) [R  q1 eW w, .int .i64 gap, .int .i64 most] hh = some (.ret (.tuple [R fl0 eI (enS w gap most), .int .i64 (erS w gap most)]), hh) :=
  Ci_K cfg rfl rfl (by simp) (by simp) (C11 w gap most hs)
/-- how many sentences are closed -/
def cntF (w : List Wrd) (gap most t : Int) : Nat → Nat
  | 0 => 0
  | i + 1 => if endW w gap most i (numW w gap most i + 1 : Nat) = true ∧ (i + 1 < w.length ∨ ownW (nth w i) (numW w gap most i + 1 : Nat) most = true ∨ (nth w i).til + gap ≤ t) then cntF w gap most t i + 1 else cntF w gap most t i
def clS (w : List Wrd) (gap most t : Int) : Nat × Int := if erS w gap most = 0 then (if 0 ≤ t ∧ t < 1099511627776 then (cntF w gap most t w.length, 0) else (0, 1)) else (0, erS w gap most)
theorem clS_no {w : List Wrd} {gap most t : Int} (h : ¬ erS w gap most = 0) : clS w gap most t = (0, erS w gap most) := if_neg h
theorem clS_t {w : List Wrd} {gap most t : Int} (h : erS w gap most = 0) (ht : ¬ (0 ≤ t ∧ t < 1099511627776)) : clS w gap most t = (0, 1) := by unfold clS; rw [if_pos h, if_neg ht]
theorem clS_ok {w : List Wrd} {gap most t : Int} (h : erS w gap most = 0) (ht : 0 ≤ t ∧ t < 1099511627776) : clS w gap most t = (cntF w gap most t w.length, 0) := by unfold clS; rw [if_pos h, if_pos ht]
theorem cntF_le (w : List Wrd) (gap most t : Int) (i : Nat) : cntF w gap most t i ≤ i := by
  induction i with
  | zero => simp [cntF]
  | succ i ih => rw [cntF]; split <;> omega
/-- all sentences but the last one are closed -/
theorem cntF_in {w : List Wrd} {gap most t : Int} {i : Nat} (h : i < w.length) : cntF w gap most t i = (endsW w gap most i).length := by
  induction i with
  | zero => rfl
  | succ i ih =>
    have ih := ih (by omega)
    rw [cntF, endsW_step]
    by_cases e : endW w gap most i (numW w gap most i + 1 : Nat) = true
    · rw [if_pos ⟨e, .inl (by omega)⟩, if_pos e, List.length_append, ih]; rfl
    · rw [if_neg (fun x => e x.1), if_neg e, ih]
theorem cntF_end {w : List Wrd} {gap most t : Int} {k : Nat} (h : w.length = k + 1) : cntF w gap most t w.length = if ownW (nth w k) (numW w gap most k + 1 : Nat) most = true ∨ (nth w k).til + gap ≤ t then (endsW w gap most k).length + 1 else (endsW w gap most k).length := by
  have he : endW w gap most k (numW w gap most k + 1 : Nat) = true := endW_last h.symm
  rw [h, cntF, cntF_in (by omega)]
  by_cases e : ownW (nth w k) (numW w gap most k + 1 : Nat) most = true ∨ (nth w k).til + gap ≤ t
  · rw [if_pos ⟨he, .inr e⟩, if_pos e]
  · rw [if_neg (fun x => e (x.2.resolve_left (by omega))), if_neg e]
theorem endsW_end {w : List Wrd} {gap most : Int} {k : Nat} (h : w.length = k + 1) : endsW w gap most w.length = endsW w gap most k ++ [((k + 1 : Nat) : Int)] := by
  rw [h, endsW_step, if_pos (endW_last h.symm)]
/-- where the sentence of word i begins -/
def lastE (l : List Int) : Int := if l = [] then 0 else nth l (l.length - 1)
theorem numW_at (w : List Wrd) (gap most : Int) (i : Nat) : (numW w gap most i : Int) = i - lastE (endsW w gap most i) := by
  induction i with
  | zero => rfl
  | succ i ih =>
    rw [numW_step, endsW_step]
    by_cases e : endW w gap most i (numW w gap most i + 1 : Nat) = true
    · rw [if_pos e, if_pos e]
      have : lastE (endsW w gap most i ++ [((i + 1 : Nat) : Int)]) = ((i + 1 : Nat) : Int) := by
        unfold lastE
        rw [if_neg (by simp)]
        unfold nth
        simp
      rw [this]; simp
    · rw [if_neg e, if_neg e]; omega
end Go.Ab
