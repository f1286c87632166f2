/- Layer 21 (align): the laws' own functions. -/
import Derived.Test.YtdgdefemmjngnaaDoorA6
import Derived.Test.YtdgdefemmjngnaaDoorT9
import Derived.Test.YtdgdefemmjngnaaDoorA5
set_option linter.unusedVariables false
set_option linter.unusedSimpArgs false
set_option linter.unusedSectionVars false
set_option linter.deprecated false
namespace Go.Ab
open Go.Proofs
set_option maxRecDepth 100000
set_option maxHeartbeats 4000000
theorem alF_len (a b : List Wd) : (alignF a b).length ≤ a.length + b.length := by
  refine alF_ind (P := fun a b => (alignF a b).length ≤ a.length + b.length) ?_ ?_ ?_ ?_ a b
  · rw [alF_nn]; simp
  · intro x a ih; rw [alF_cn]; simp at ih ⊢; omega
  · intro y b ih; rw [alF_nc]; simp at ih ⊢; omega
  · intro x a y b i1 i2 i3
    rw [alF_cc]
    split
    · simp at i1 ⊢; omega
    · split
      · simp at i1 ⊢; omega
      · split
        · simp at i2 ⊢; omega
        · simp at i3 ⊢; omega
theorem alS_len (a b : List Wd) : (alS a b).1.length ≤ 128 := by
  unfold alS
  split
  · rename_i h
    have := alF_len a b
    have := errS_ok h
    simp; omega
  · simp
/-- few words, and right ones -/
def wordsL (ls : List (List Wd)) : Bool := allTo ls.length (fun i => decide ((nth ls i).length ≤ 20) && decide (errS (nth ls i) [] = 0))
theorem C22 (ls : List (List (List UInt8))) (hs : ls.length < 1099511627776) (hl : ∀ l ∈ ls, l.length < 1099511627776 ∧ ∀ x ∈ l, x.length < 1099511627776) : Kc cfg 22 [R fl0 (eR eS) ls] (.ret (.bool (wordsL ls))) := by
  have hsu := fun i => allTo_succ i (fun i => decide ((nth ls i).length ≤ 20) && decide (errS (nth ls i) [] = 0))
  have hnil : V.row true true [] 0 none = R (true, true, none) eS [] := rfl
  generalize hF : wordsL ls = F
  refine outS_of_wp cfg (fn := Tryd.f22) Tryd.func22 rfl (by simp [Tryd.f22]) ?_
  simp (disch := first | assumption | omega | (simp; done) | (simp; omega)) [-getElem?_pos, List.getElem?_cons_zero, List.getElem?_cons_succ, Tryd.f22]
  repeat' (first | (refine wpc_split _ (fun hc => ?_) (fun hc => ?_) <;> (try simp at hc)) | (refine ww_split _ (fun hc => ?_) (fun hc => ?_) <;> (try simp at hc)) | (refine wp_drawF (by kernel_rfl) ?_) | (refine wk_yldW _ ?_) | (refine layOwe _ (by kernel_rfl) ?_) | (refine owe ?_ (fun ho => ?_)) | (simp (disch := first | assumption | omega | (simp; done) | (simp; omega)) [-getElem?_pos, List.getElem?_cons_zero, List.getElem?_cons_succ]))
  refine wp_loopE cfg rfl (fun f0 h0 m fr h => ∃ i : Nat, fr 5 = f0 5 ∧ fr 6 = f0 6 ∧ fr 7 = .int .i64 i ∧ (i + m = ls.length) ∧ (allTo i (fun i => decide ((nth ls i).length ≤ 20) && decide (errS (nth ls i) [] = 0)) = true)) (ls.length) _ _ ⟨0, rfl, rfl, by first | rfl | (simp; done) | (simp [R]; done) | simp [R], by first | rfl | (simp; done) | omega, rfl⟩ ?_
  rintro Am Af Ah ⟨i, A5, A6, A7, hm, ht⟩ Aih
  try simp at A5 A6
  by_cases hi : i < ls.length
  · have hx := hl _ (nth_mem hi)
    have hx0 : (nth ls i).length < 1099511627776 ∧ ([] : List (List UInt8)).length < 1099511627776 := ⟨hx.1, by simp⟩
    have hx1 := hx.2
    have hx2 : ∀ x ∈ ([] : List (List UInt8)), x.length < 1099511627776 := by simp
    have hE := S32 (nth ls i) [] hx0 hx1 hx2
    by_cases h1 : (nth ls i).length ≤ 20
    · by_cases h2 : errS (nth ls i) [] = 0
      · repeat' (first | (refine wpc_split _ (fun hc => ?_) (fun hc => ?_) <;> (try simp at hc)) | (refine ww_split _ (fun hc => ?_) (fun hc => ?_) <;> (try simp at hc)) | (refine wp_drawF (by kernel_rfl) ?_) | (refine wk_yldW _ ?_) | (refine layOwe _ (by kernel_rfl) ?_) | (refine owe ?_ (fun ho => ?_)) | (simp (disch := first | assumption | omega | (simp; done) | (simp; omega)) [A5, A6, A7, eR, hnil, hE, h2, -getElem?_pos, List.getElem?_cons_zero, List.getElem?_cons_succ]))
        all_goals first
          | (exfalso; omega)
          | exact Aih (Am - 1) _ _ (by omega) ⟨i + 1, by simp [A5, A6, A7], by simp [A5, A6, A7], by simp [A5, A6, A7], by omega, (by rw [hsu, ht, decide_eq_true h1, decide_eq_true h2]; rfl)⟩
      · have hF2 : F = false := by rw [← hF]; exact allTo_false i hi (by rw [decide_eq_false h2, Bool.and_false])
        repeat' (first | (refine wpc_split _ (fun hc => ?_) (fun hc => ?_) <;> (try simp at hc)) | (refine ww_split _ (fun hc => ?_) (fun hc => ?_) <;> (try simp at hc)) | (refine wp_drawF (by kernel_rfl) ?_) | (refine wk_yldW _ ?_) | (refine layOwe _ (by kernel_rfl) ?_) | (refine owe ?_ (fun ho => ?_)) | (simp (disch := first | assumption | omega | (simp; done) | (simp; omega)) [A5, A6, A7, eR, hnil, hE, h2, -getElem?_pos, List.getElem?_cons_zero, List.getElem?_cons_succ]))
        all_goals first
          | (exfalso; omega)
          | rw [hF2]
    · have hF2 : F = false := by rw [← hF]; exact allTo_false i hi (by rw [decide_eq_false h1, Bool.false_and])
      repeat' (first | (refine wpc_split _ (fun hc => ?_) (fun hc => ?_) <;> (try simp at hc)) | (refine ww_split _ (fun hc => ?_) (fun hc => ?_) <;> (try simp at hc)) | (refine wp_drawF (by kernel_rfl) ?_) | (refine wk_yldW _ ?_) | (refine layOwe _ (by kernel_rfl) ?_) | (refine owe ?_ (fun ho => ?_)) | (simp (disch := first | assumption | omega | (simp; done) | (simp; omega)) [A5, A6, A7, eR, hnil, hE, -getElem?_pos, List.getElem?_cons_zero, List.getElem?_cons_succ]))
      all_goals first
        | (exfalso; omega)
        | rw [hF2]
  · have hF2 : F = true := by rw [← hF]; unfold wordsL; rw [← ht]; congr 1; omega
    repeat' (first | (refine wpc_split _ (fun hc => ?_) (fun hc => ?_) <;> (try simp at hc)) | (refine ww_split _ (fun hc => ?_) (fun hc => ?_) <;> (try simp at hc)) | (refine wp_drawF (by kernel_rfl) ?_) | (refine wk_yldW _ ?_) | (refine layOwe _ (by kernel_rfl) ?_) | (refine owe ?_ (fun ho => ?_)) | (simp (disch := first | assumption | omega | (simp; done) | (simp; omega)) [A5, A6, A7, -getElem?_pos, List.getElem?_cons_zero, List.getElem?_cons_succ]))
    rw [hF2]
@[simp] theorem S22 (ls : List (List (List UInt8))) (hs : ls.length < 1099511627776) (hl : ∀ l ∈ ls, l.length < 1099511627776 ∧ ∀ x ∈ l, x.length < 1099511627776) (q1 : Fl) (hh : Heap) : Ci cfg (.func (.func 22) [] []) [R  q1 (eR eS) ls] hh = some (.ret (.bool (wordsL ls)), hh) :=
  Ci_K cfg rfl rfl (by simp) (by simp) (C22 ls hs hl)
theorem wordsL_mem {ls : List (List Wd)} (h : wordsL ls = true) {l : List Wd} (hl : l ∈ ls) : l.length ≤ 20 ∧ l.all wordS = true := by
  obtain ⟨i, hi, rfl⟩ := List.mem_iff_getElem.1 hl
  have := allTo_iff.1 h i hi
  rw [nth_eq hi] at this
  simp only [Bool.and_eq_true, decide_eq_true_eq] at this
  refine ⟨this.1, ?_⟩
  have h2 := this.2
  unfold errS at h2
  split at h2
  · omega
  · split at h2
    · rename_i h3; exact h3.1
    · omega
theorem errS_zero {a b : List Wd} (ha : a.length ≤ 64 ∧ a.all wordS = true) (hb : b.length ≤ 64 ∧ b.all wordS = true) : errS a b = 0 := by
  unfold errS
  rw [if_neg (by omega), if_pos ⟨ha.2, hb.2⟩]
theorem T21_lev (a b : List Wd) : T21 a b 0 0 = lev a b := rfl
def costL (a b : List Wd) : Int := if errS a b = 0 then lev a b else -1
theorem C23 (a b : List (List UInt8)) (hs : a.length < 1099511627776 ∧ b.length < 1099511627776) (ha : ∀ x ∈ a, x.length < 1099511627776) (hb : ∀ x ∈ b, x.length < 1099511627776) : Kc cfg 23 [R fl0 eS a, R fl0 eS b] (.ret (.int .i64 (costL a b))) := by
  by_cases he : errS a b = 0
  · have hA : alS a b = (alignF a b, T21 a b 0 0, 0) := by unfold alS; rw [if_pos he]
    have hc : costL a b = lev a b := by unfold costL; rw [if_pos he]
    rw [hc]
    refine outS_of_wp cfg (fn := Tryd.f23) Tryd.func23 rfl (by simp [Tryd.f23]) ?_
    simp (disch := first | assumption | omega | (simp; done) | (simp; omega)) [-getElem?_pos, List.getElem?_cons_zero, List.getElem?_cons_succ, Tryd.f23, hA]
    repeat' (first | (refine wpc_split _ (fun hc => ?_) (fun hc => ?_) <;> (try simp at hc)) | (refine ww_split _ (fun hc => ?_) (fun hc => ?_) <;> (try simp at hc)) | (refine wp_drawF (by kernel_rfl) ?_) | (refine wk_yldW _ ?_) | (refine layOwe _ (by kernel_rfl) ?_) | (refine owe ?_ (fun ho => ?_)) | (simp (disch := first | assumption | omega | (simp; done) | (simp; omega)) [hA, T21_lev, -getElem?_pos, List.getElem?_cons_zero, List.getElem?_cons_succ]))
  · have hA : alS a b = ([], 0, errS a b) := by unfold alS; rw [if_neg he]
    have hc : costL a b = -1 := by unfold costL; rw [if_neg he]
    rw [hc]
    generalize hE : errS a b = E at *
    refine outS_of_wp cfg (fn := Tryd.f23) Tryd.func23 rfl (by simp [Tryd.f23]) ?_
    simp (disch := first | assumption | omega | (simp; done) | (simp; omega)) [-getElem?_pos, List.getElem?_cons_zero, List.getElem?_cons_succ, Tryd.f23, hA]
    repeat' (first | (refine wpc_split _ (fun hc => ?_) (fun hc => ?_) <;> (try simp at hc)) | (refine ww_split _ (fun hc => ?_) (fun hc => ?_) <;> (try simp at hc)) | (refine wp_drawF (by kernel_rfl) ?_) | (refine wk_yldW _ ?_) | (refine layOwe _ (by kernel_rfl) ?_) | (refine owe ?_ (fun ho => ?_)) | (simp (disch := first | assumption | omega | (simp; done) | (simp; omega)) [hA, he, -getElem?_pos, List.getElem?_cons_zero, List.getElem?_cons_succ]))
@[simp] theorem S23 (a b : List (List UInt8)) (hs : a.length < 1099511627776 ∧ b.length < 1099511627776) (ha : ∀ x ∈ a, x.length < 1099511627776) (hb : ∀ x ∈ b, x.length < 1099511627776) (q1 q2 : Fl) (hh : Heap) : Ci cfg (.func (.func 23) [] []) [R  q1 eS a, R  q2 eS b] hh = some (.ret (.int .i64 (costL a b)), hh) :=
  Ci_K cfg rfl rfl (by simp) (by simp) (C23 a b hs ha hb)
end Go.Ab
