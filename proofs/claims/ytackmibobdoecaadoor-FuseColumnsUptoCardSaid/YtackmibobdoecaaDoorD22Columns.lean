/- FuseColumns: the law. -/
import Derived.Test.YtackmibobdoecaaDoorD22
set_option linter.unusedVariables false
set_option linter.unusedSimpArgs false
set_option linter.unusedSectionVars false
set_option linter.deprecated false
namespace Go.Ab
open Go.Proofs
set_option maxRecDepth 100000
set_option maxHeartbeats 4000000
theorem C5 (l : List (List Cell)) (hs : smL l) : Kc cfg 5 [R fl0 (eR eC) l] (.ret (.bool true)) := by
  have hs1 := hs.1
  have hf := fuS_sm hs
  cases hr : rightL l with
  | false =>
    refine outS_of_wp cfg (fn := Tryd.f5) Tryd.func5 rfl (by simp [Tryd.f5]) ?_
    simp (disch := first | assumption | omega | (simp; done) | (simp; omega)) [-getElem?_pos, List.getElem?_cons_zero, List.getElem?_cons_succ, Tryd.f5, hs, hr, emptyH]
    repeat' (first | (refine wpc_split _ (fun hc => ?_) (fun hc => ?_) <;> (try simp at hc)) | (refine ww_split _ (fun hc => ?_) (fun hc => ?_) <;> (try simp at hc)) | (refine wp_drawF (by kernel_rfl) ?_) | (refine wk_yldW _ ?_) | (refine layOwe _ (by kernel_rfl) ?_) | (refine owe ?_ (fun ho => ?_)) | (simp (disch := first | assumption | omega | (simp; done) | (simp; omega)) [hs, hr, emptyH, -getElem?_pos, List.getElem?_cons_zero, List.getElem?_cons_succ]))
  | true =>
    obtain ⟨s, e1, e2, hS⟩ := fd_right hr
    rw [e1] at hf
    have h5 := (rightL_of hr).1
    have hfew := hS.few
    have hf2 : smL (fuS l).1 := by rw [e1]; exact hf
    simp only at hf
    refine outS_of_wp cfg (fn := Tryd.f5) Tryd.func5 rfl (by simp [Tryd.f5]) ?_
    simp (disch := first | assumption | omega | (simp; done) | (simp; omega)) [-getElem?_pos, List.getElem?_cons_zero, List.getElem?_cons_succ, Tryd.f5, hs, hr, e2, hf2, emptyH]
    repeat' (first | (refine wpc_split _ (fun hc => ?_) (fun hc => ?_) <;> (try simp at hc)) | (refine ww_split _ (fun hc => ?_) (fun hc => ?_) <;> (try simp at hc)) | (refine wp_drawF (by kernel_rfl) ?_) | (refine wk_yldW _ ?_) | (refine layOwe _ (by kernel_rfl) ?_) | (refine owe ?_ (fun ho => ?_)) | (simp (disch := first | assumption | omega | (simp; done) | (simp; omega)) [hs, hr, e2, hf2, emptyH, -getElem?_pos, List.getElem?_cons_zero, List.getElem?_cons_succ]))
    refine wp_loopE cfg rfl (fun f0 h0 m fr h => ∃ i : Nat, fr 0 = f0 0 ∧ fr 3 = f0 3 ∧ fr 24 = f0 24 ∧ fr 25 = f0 25 ∧ fr 26 = .int .i64 i ∧ (i + m = l.length)) (l.length) _ _ ⟨0, rfl, rfl, rfl, rfl, by first | rfl | (simp; done) | (simp [R]; done) | simp [R], by first | rfl | (simp; done) | omega⟩ ?_
    rintro Am Af Ah ⟨i, A0, A3, A24, A25, A26, hm⟩ Aih
    try simp at A0 A3 A24 A25
    by_cases hi : i < l.length
    · have hcol := hS.col i hi
      have hsi := smL_nth hs hi
      repeat' (first | (refine wpc_split _ (fun hc => ?_) (fun hc => ?_) <;> (try simp at hc)) | (refine ww_split _ (fun hc => ?_) (fun hc => ?_) <;> (try simp at hc)) | (refine wp_drawF (by kernel_rfl) ?_) | (refine wk_yldW _ ?_) | (refine layOwe _ (by kernel_rfl) ?_) | (refine owe ?_ (fun ho => ?_)) | (simp (disch := first | assumption | omega | (simp; done) | (simp; omega)) [A0, A3, A24, A25, A26, eR, -getElem?_pos, List.getElem?_cons_zero, List.getElem?_cons_succ]))
      refine wp_loopE cfg rfl (fun f0 h0 m fr h => ∃ j : Nat, ∃ fl : Fl, fr 0 = f0 0 ∧ fr 3 = f0 3 ∧ fr 5 = f0 5 ∧ fr 6 = f0 6 ∧ fr 24 = f0 24 ∧ fr 25 = f0 25 ∧ fr 26 = f0 26 ∧ fr 31 = f0 31 ∧ fr 32 = f0 32 ∧ fr 7 = R fl eC (colL (s.take j) i) ∧ fr 33 = .int .i64 j ∧ (App h.ts 2 fl) ∧ (j + m = s.length)) (s.length) _ _ ⟨0, (true, true, none), rfl, rfl, rfl, rfl, rfl, rfl, rfl, rfl, rfl, by simp [R, colL], by first | rfl | (simp; done) | (simp [R]; done) | simp [R], App.nil _ _ _, by first | rfl | (simp; done) | omega⟩ ?_
      rintro Bm Bf Bh ⟨j, fl, B0, B3, B5, B6, B24, B25, B26, B31, B32, B7, B33, hap, hm2⟩ Bih
      try simp [A0, A3, A24, A25, A26] at B0 B3 B5 B6 B24 B25 B26 B31 B32
      by_cases hj : j < s.length
      · have hlj : (nth s j).length = l.length := hS.len _ (nth_mem hj)
        have hij : i < (nth s j).length := by omega
        have hct := colL_take hj i
        have hcl := colL_le (s.take j) i
        have hll : (s.take j).length ≤ j := by simp; omega
        have hem : emptyC ⟨(nth (nth s j) i).text, (nth (nth s j) i).alts⟩ = decide (nth (nth s j) i = c0) := emptyC_eq _
        by_cases he : nth (nth s j) i = c0
        · rw [if_pos he] at hct
          rw [decide_eq_true he] at hem
          repeat' (first | (refine wpc_split _ (fun hc => ?_) (fun hc => ?_) <;> (try simp at hc)) | (refine ww_split _ (fun hc => ?_) (fun hc => ?_) <;> (try simp at hc)) | (refine wp_drawF (by kernel_rfl) ?_) | (refine wk_yldW _ ?_) | (refine layOwe _ (by kernel_rfl) ?_) | (refine owe ?_ (fun ho => ?_)) | (simp (disch := first | assumption | omega | (simp; done) | (simp; omega)) [B0, B3, B5, B6, B24, B25, B26, B31, B32, B7, B33, A0, A3, A24, A25, A26, eR, hem, hij, -getElem?_pos, List.getElem?_cons_zero, List.getElem?_cons_succ]))
          exact Bih (Bm - 1) _ _ (by omega) ⟨j + 1, fl, by simp [B0, B3, B5, B6, B24, B25, B26, B31, B32, B7, B33, A0, A3, A24, A25, A26, hct], by simp [B0, B3, B5, B6, B24, B25, B26, B31, B32, B7, B33, A0, A3, A24, A25, A26, hct], by simp [B0, B3, B5, B6, B24, B25, B26, B31, B32, B7, B33, A0, A3, A24, A25, A26, hct], by simp [B0, B3, B5, B6, B24, B25, B26, B31, B32, B7, B33, A0, A3, A24, A25, A26, hct], by simp [B0, B3, B5, B6, B24, B25, B26, B31, B32, B7, B33, A0, A3, A24, A25, A26, hct], by simp [B0, B3, B5, B6, B24, B25, B26, B31, B32, B7, B33, A0, A3, A24, A25, A26, hct], by simp [B0, B3, B5, B6, B24, B25, B26, B31, B32, B7, B33, A0, A3, A24, A25, A26, hct], by simp [B0, B3, B5, B6, B24, B25, B26, B31, B32, B7, B33, A0, A3, A24, A25, A26, hct], by simp [B0, B3, B5, B6, B24, B25, B26, B31, B32, B7, B33, A0, A3, A24, A25, A26, hct], by simp [B0, B3, B5, B6, B24, B25, B26, B31, B32, B7, B33, A0, A3, A24, A25, A26, hct], by simp [B0, B3, B5, B6, B24, B25, B26, B31, B32, B7, B33, A0, A3, A24, A25, A26, hct], hap, by omega⟩
        · rw [if_neg he] at hct
          rw [decide_eq_false he] at hem
          repeat' (first | (refine wpc_split _ (fun hc => ?_) (fun hc => ?_) <;> (try simp at hc)) | (refine ww_split _ (fun hc => ?_) (fun hc => ?_) <;> (try simp at hc)) | (refine wp_drawF (by kernel_rfl) ?_) | (refine wk_yldW _ ?_) | (refine layOwe _ (by kernel_rfl) ?_) | (refine owe ?_ (fun ho => ?_)) | (simp (disch := first | assumption | omega | (simp; done) | (simp; omega)) [B0, B3, B5, B6, B24, B25, B26, B31, B32, B7, B33, A0, A3, A24, A25, A26, eR, hem, hij, -getElem?_pos, List.getElem?_cons_zero, List.getElem?_cons_succ]))
          exact Bih (Bm - 1) _ _ (by omega) ⟨j + 1, _, by simp [B0, B3, B5, B6, B24, B25, B26, B31, B32, B7, B33, A0, A3, A24, A25, A26, hct], by simp [B0, B3, B5, B6, B24, B25, B26, B31, B32, B7, B33, A0, A3, A24, A25, A26, hct], by simp [B0, B3, B5, B6, B24, B25, B26, B31, B32, B7, B33, A0, A3, A24, A25, A26, hct], by simp [B0, B3, B5, B6, B24, B25, B26, B31, B32, B7, B33, A0, A3, A24, A25, A26, hct], by simp [B0, B3, B5, B6, B24, B25, B26, B31, B32, B7, B33, A0, A3, A24, A25, A26, hct], by simp [B0, B3, B5, B6, B24, B25, B26, B31, B32, B7, B33, A0, A3, A24, A25, A26, hct], by simp [B0, B3, B5, B6, B24, B25, B26, B31, B32, B7, B33, A0, A3, A24, A25, A26, hct], by simp [B0, B3, B5, B6, B24, B25, B26, B31, B32, B7, B33, A0, A3, A24, A25, A26, hct], by simp [B0, B3, B5, B6, B24, B25, B26, B31, B32, B7, B33, A0, A3, A24, A25, A26, hct], by simp [B0, B3, B5, B6, B24, B25, B26, B31, B32, B7, B33, A0, A3, A24, A25, A26, hct], by simp [B0, B3, B5, B6, B24, B25, B26, B31, B32, B7, B33, A0, A3, A24, A25, A26, hct], App.new _ _ _, by omega⟩
      · have h1 : s.take j = s := List.take_of_length_le (by omega)
        rw [h1, hcol] at B7
        repeat' (first | (refine wpc_split _ (fun hc => ?_) (fun hc => ?_) <;> (try simp at hc)) | (refine ww_split _ (fun hc => ?_) (fun hc => ?_) <;> (try simp at hc)) | (refine wp_drawF (by kernel_rfl) ?_) | (refine wk_yldW _ ?_) | (refine layOwe _ (by kernel_rfl) ?_) | (refine owe ?_ (fun ho => ?_)) | (simp (disch := first | assumption | omega | (simp; done) | (simp; omega)) [B0, B3, B5, B6, B24, B25, B26, B31, B32, B7, B33, A0, A3, A24, A25, A26, hsi, -getElem?_pos, List.getElem?_cons_zero, List.getElem?_cons_succ]))
        exact Aih (Am - 1) _ _ (by omega) ⟨i + 1, by simp [B0, B3, B5, B6, B24, B25, B26, B31, B32, B7, B33, A0, A3, A24, A25, A26], by simp [B0, B3, B5, B6, B24, B25, B26, B31, B32, B7, B33, A0, A3, A24, A25, A26], by simp [B0, B3, B5, B6, B24, B25, B26, B31, B32, B7, B33, A0, A3, A24, A25, A26], by simp [B0, B3, B5, B6, B24, B25, B26, B31, B32, B7, B33, A0, A3, A24, A25, A26], by simp [B0, B3, B5, B6, B24, B25, B26, B31, B32, B7, B33, A0, A3, A24, A25, A26], by omega⟩
    · repeat' (first | (refine wpc_split _ (fun hc => ?_) (fun hc => ?_) <;> (try simp at hc)) | (refine ww_split _ (fun hc => ?_) (fun hc => ?_) <;> (try simp at hc)) | (refine wp_drawF (by kernel_rfl) ?_) | (refine wk_yldW _ ?_) | (refine layOwe _ (by kernel_rfl) ?_) | (refine owe ?_ (fun ho => ?_)) | (simp (disch := first | assumption | omega | (simp; done) | (simp; omega)) [A0, A3, A24, A25, A26, -getElem?_pos, List.getElem?_cons_zero, List.getElem?_cons_succ]))
      refine wp_loopE cfg rfl (fun f0 h0 m fr h => ∃ j : Nat, fr 56 = f0 56 ∧ fr 57 = f0 57 ∧ fr 58 = .int .i64 j ∧ (j + m = s.length)) (s.length) _ _ ⟨0, rfl, rfl, by first | rfl | (simp; done) | (simp [R]; done) | simp [R], by first | rfl | (simp; done) | omega⟩ ?_
      rintro Cm Cf Ch ⟨j, C56, C57, C58, hm2⟩ Cih
      try simp at C56 C57
      by_cases hj : j < s.length
      · have hsj := smL_nth hf hj
        have hw := hS.word _ (nth_mem hj)
        repeat' (first | (refine wpc_split _ (fun hc => ?_) (fun hc => ?_) <;> (try simp at hc)) | (refine ww_split _ (fun hc => ?_) (fun hc => ?_) <;> (try simp at hc)) | (refine wp_drawF (by kernel_rfl) ?_) | (refine wk_yldW _ ?_) | (refine layOwe _ (by kernel_rfl) ?_) | (refine owe ?_ (fun ho => ?_)) | (simp (disch := first | assumption | omega | (simp; done) | (simp; omega)) [C56, C57, C58, eR, hsj, hw, -getElem?_pos, List.getElem?_cons_zero, List.getElem?_cons_succ]))
        exact Cih (Cm - 1) _ _ (by omega) ⟨j + 1, by simp [C56, C57, C58], by simp [C56, C57, C58], by simp [C56, C57, C58], by omega⟩
      · repeat' (first | (refine wpc_split _ (fun hc => ?_) (fun hc => ?_) <;> (try simp at hc)) | (refine ww_split _ (fun hc => ?_) (fun hc => ?_) <;> (try simp at hc)) | (refine wp_drawF (by kernel_rfl) ?_) | (refine wk_yldW _ ?_) | (refine layOwe _ (by kernel_rfl) ?_) | (refine owe ?_ (fun ho => ?_)) | (simp (disch := first | assumption | omega | (simp; done) | (simp; omega)) [C56, C57, C58, -getElem?_pos, List.getElem?_cons_zero, List.getElem?_cons_succ]))
@[simp] theorem S5 (l : List (List Cell)) (hs : smL l) (q1 : Fl) (hh : Heap) : Ci cfg (.func (.func 5) [] []) [R  q1 (eR eC) l] hh = some (.ret (.bool true), hh) :=
  Ci_K cfg rfl rfl (by simp) (by simp) (C5 l hs)
end Go.Ab
