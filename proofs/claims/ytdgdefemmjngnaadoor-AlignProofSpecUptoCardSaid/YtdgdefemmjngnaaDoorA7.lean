/- Layer 21 (align): what is accepted. -/
import Derived.Test.YtdgdefemmjngnaaDoorA4
set_option linter.unusedVariables false
set_option linter.unusedSimpArgs false
set_option linter.unusedSectionVars false
set_option linter.deprecated false
namespace Go.Ab
open Go.Proofs
set_option maxRecDepth 100000
set_option maxHeartbeats 4000000
/-! ### Following steps -/
/-- where steps lead, and their cost -/
def folF (a b : List (List UInt8)) : List Int → Nat → Nat → Int → Nat × Nat × Int × Bool
  | [], i, k, c => (i, k, c, true)
  | s :: r, i, k, c => if stO a b i k s = true then folF a b r (stI i s).toNat (stK k s).toNat (c + stC s) else (i, k, 0, false)
theorem folF_cost (a b : List (List UInt8)) : ∀ (l : List Int) (i k : Nat) (c : Int), costF a b l i k c = if (folF a b l i k c).2.2.2 = true then ((folF a b l i k c).2.2.1, decide ((folF a b l i k c).1 = a.length ∧ (folF a b l i k c).2.1 = b.length)) else (0, false)
  | [], i, k, c => by simp only [folF, costF, if_true]; congr
  | s :: r, i, k, c => by
    simp only [folF, costF]
    split
    · exact folF_cost a b r _ _ _
    · simp
theorem folF_in {a b : List (List UInt8)} : ∀ {l : List Int} {i k : Nat} {c : Int}, i ≤ a.length → k ≤ b.length → (folF a b l i k c).1 ≤ a.length ∧ (folF a b l i k c).2.1 ≤ b.length
  | [], i, k, c, hi, hk => ⟨hi, hk⟩
  | s :: r, i, k, c, hi, hk => by
    simp only [folF]
    split
    · rename_i h
      obtain ⟨i', k', e1, e2, e3, e4, _⟩ := st_bound h hi hk
      rw [e1, e2]
      simp only [Int.toNat_natCast]
      exact folF_in e3 e4
    · exact ⟨hi, hk⟩
theorem C35 (a b : List (List UInt8)) (st : List Int) (hs : a.length < 1099511627776 ∧ b.length < 1099511627776 ∧ st.length < 1099511627776) : Kc cfg 35 [.agg [R fl0 eS a, R fl0 eS b], R fl0 eI st] (.ret (.tuple [.agg [.int .i64 (folF a b st 0 0 0).1, .int .i64 (folF a b st 0 0 0).2.1], .int .i64 (folF a b st 0 0 0).2.2.1, .bool (folF a b st 0 0 0).2.2.2])) := by
  have hs2 : a.length < 1099511627776 ∧ b.length < 1099511627776 := ⟨hs.1, hs.2.1⟩
  generalize hF : folF a b st 0 0 0 = F
  refine outS_of_wp cfg (fn := Tryd.f35) Tryd.func35 rfl (by simp [Tryd.f35]) ?_
  simp (disch := first | assumption | omega | (simp; done) | (simp; omega)) [-getElem?_pos, List.getElem?_cons_zero, List.getElem?_cons_succ, Tryd.f35]
  repeat' (first | (refine wpc_split _ (fun hc => ?_) (fun hc => ?_) <;> (try simp at hc)) | (refine ww_split _ (fun hc => ?_) (fun hc => ?_) <;> (try simp at hc)) | (refine wp_drawF (by kernel_rfl) ?_) | (refine wk_yldW _ ?_) | (refine layOwe _ (by kernel_rfl) ?_) | (refine owe ?_ (fun ho => ?_)) | (simp (disch := first | assumption | omega | (simp; done) | (simp; omega)) [-getElem?_pos, List.getElem?_cons_zero, List.getElem?_cons_succ]))
  refine wp_loopE cfg rfl (fun f0 h0 m fr h => ∃ j : Nat, ∃ i : Nat, ∃ k : Nat, ∃ c : Int, ∃ X : List Blk, fr 1 = f0 1 ∧ fr 2 = f0 2 ∧ fr 4 = f0 4 ∧ fr 7 = f0 7 ∧ fr 14 = f0 14 ∧ fr 15 = f0 15 ∧ fr 16 = .int .i64 j ∧ fr 5 = .int .i64 c ∧ (h.bs = [.cells [R fl0 eS a, R fl0 eS b], .cells [.int .i64 i, .int .i64 k]] ++ X) ∧ (j + m = st.length) ∧ (i ≤ a.length ∧ k ≤ b.length ∧ 0 ≤ c ∧ c ≤ j) ∧ (folF a b (st.drop j) i k c = F)) (st.length) _ _ ⟨0, 0, 0, 0, [], rfl, rfl, rfl, rfl, rfl, rfl, by first | rfl | (simp; done) | (simp [R]; done) | simp [R], by first | rfl | (simp; done) | (simp [R]; done) | simp [R], by simp, by first | rfl | (simp; done) | omega, by simp, hF⟩ ?_
  rintro Am Af Ah ⟨j, i, k, c, X, A1, A2, A4, A7, A14, A15, A16, A5, hb, hm, hik, ht⟩ Aih
  try simp at A1 A2 A4 A7 A14 A15
  simp at hb
  by_cases hj : j < st.length
  · rw [nth_drop hj] at ht
    simp only [folF] at ht
    generalize hsg : nth st j = s at *
    by_cases hr : 1 ≤ s ∧ s ≤ 4
    · cases ho : stO a b i k s with
      | false =>
        rw [ho] at ht
        simp at ht
        have hrs : s = 1 ∨ s = 2 ∨ s = 3 ∨ s = 4 := by omega
        rcases hrs with rfl | rfl | rfl | rfl
        · have hdec : (decide (i < a.length) && (decide (k < b.length) && decide (nth a i = nth b k))) = false := by rw [← ho]; simp [stO]
          repeat' (first | (refine wpc_split _ (fun hc => ?_) (fun hc => ?_) <;> (try simp at hc)) | (refine ww_split _ (fun hc => ?_) (fun hc => ?_) <;> (try simp at hc)) | (refine wp_drawF (by kernel_rfl) ?_) | (refine wk_yldW _ ?_) | (refine layOwe _ (by kernel_rfl) ?_) | (refine owe ?_ (fun ho => ?_)) | (simp (disch := first | assumption | omega | (simp; done) | (simp; omega)) [A1, A2, A4, A7, A14, A15, A16, A5, hb, eI, hsg, hdec, -getElem?_pos, List.getElem?_cons_zero, List.getElem?_cons_succ]))
          rw [← ht]; simp
        · have hdec : (decide (i < a.length) && (decide (k < b.length) && !decide (nth a i = nth b k))) = false := by rw [← ho]; simp [stO]
          repeat' (first | (refine wpc_split _ (fun hc => ?_) (fun hc => ?_) <;> (try simp at hc)) | (refine ww_split _ (fun hc => ?_) (fun hc => ?_) <;> (try simp at hc)) | (refine wp_drawF (by kernel_rfl) ?_) | (refine wk_yldW _ ?_) | (refine layOwe _ (by kernel_rfl) ?_) | (refine owe ?_ (fun ho => ?_)) | (simp (disch := first | assumption | omega | (simp; done) | (simp; omega)) [A1, A2, A4, A7, A14, A15, A16, A5, hb, eI, hsg, hdec, -getElem?_pos, List.getElem?_cons_zero, List.getElem?_cons_succ]))
          rw [← ht]; simp
        · have hdec : decide (i < a.length) = false := by rw [← ho]; simp [stO]
          repeat' (first | (refine wpc_split _ (fun hc => ?_) (fun hc => ?_) <;> (try simp at hc)) | (refine ww_split _ (fun hc => ?_) (fun hc => ?_) <;> (try simp at hc)) | (refine wp_drawF (by kernel_rfl) ?_) | (refine wk_yldW _ ?_) | (refine layOwe _ (by kernel_rfl) ?_) | (refine owe ?_ (fun ho => ?_)) | (simp (disch := first | assumption | omega | (simp; done) | (simp; omega)) [A1, A2, A4, A7, A14, A15, A16, A5, hb, eI, hsg, hdec, -getElem?_pos, List.getElem?_cons_zero, List.getElem?_cons_succ]))
          rw [← ht]; simp
        · have hdec : decide (k < b.length) = false := by rw [← ho]; simp [stO]
          repeat' (first | (refine wpc_split _ (fun hc => ?_) (fun hc => ?_) <;> (try simp at hc)) | (refine ww_split _ (fun hc => ?_) (fun hc => ?_) <;> (try simp at hc)) | (refine wp_drawF (by kernel_rfl) ?_) | (refine wk_yldW _ ?_) | (refine layOwe _ (by kernel_rfl) ?_) | (refine owe ?_ (fun ho => ?_)) | (simp (disch := first | assumption | omega | (simp; done) | (simp; omega)) [A1, A2, A4, A7, A14, A15, A16, A5, hb, eI, hsg, hdec, -getElem?_pos, List.getElem?_cons_zero, List.getElem?_cons_succ]))
          rw [← ht]; simp
      | true =>
        rw [ho, if_pos rfl] at ht
        obtain ⟨i', k', e1, e2, e3, e4, e5, e6⟩ := st_bound ho hik.1 hik.2.1
        rw [e1, e2] at ht
        simp only [Int.toNat_natCast] at ht
        have hrs : s = 1 ∨ s = 2 ∨ s = 3 ∨ s = 4 := by omega
        rcases hrs with rfl | rfl | rfl | rfl
        · have hdec : (decide (i < a.length) && (decide (k < b.length) && decide (nth a i = nth b k))) = true := by rw [← ho]; simp [stO]
          simp [stI] at e1
          simp [stK] at e2
          obtain rfl : i' = i + 1 := by omega
          obtain rfl : k' = k + 1 := by omega
          have hc0 : stC 1 = 0 := by simp [stC]
          rw [hc0] at ht
          repeat' (first | (refine wpc_split _ (fun hc => ?_) (fun hc => ?_) <;> (try simp at hc)) | (refine ww_split _ (fun hc => ?_) (fun hc => ?_) <;> (try simp at hc)) | (refine wp_drawF (by kernel_rfl) ?_) | (refine wk_yldW _ ?_) | (refine layOwe _ (by kernel_rfl) ?_) | (refine owe ?_ (fun ho => ?_)) | (simp (disch := first | assumption | omega | (simp; done) | (simp; omega)) [A1, A2, A4, A7, A14, A15, A16, A5, hb, eI, hsg, hdec, -getElem?_pos, List.getElem?_cons_zero, List.getElem?_cons_succ]))
          exact Aih (Am - 1) _ _ (by omega) ⟨j + 1, i + 1, k + 1, c + 0, X ++ [.cells [.int .i64 (i + 1), .int .i64 (k + 1)]], by simp [A1, A2, A4, A7, A14, A15, A16, A5], by simp [A1, A2, A4, A7, A14, A15, A16, A5], by simp [A1, A2, A4, A7, A14, A15, A16, A5], by simp [A1, A2, A4, A7, A14, A15, A16, A5], by simp [A1, A2, A4, A7, A14, A15, A16, A5], by simp [A1, A2, A4, A7, A14, A15, A16, A5], by simp [A1, A2, A4, A7, A14, A15, A16, A5], by simp [A1, A2, A4, A7, A14, A15, A16, A5], (by simp), by omega, by omega, ht⟩
        · have hdec : (decide (i < a.length) && (decide (k < b.length) && !decide (nth a i = nth b k))) = true := by rw [← ho]; simp [stO]
          simp [stI] at e1
          simp [stK] at e2
          obtain rfl : i' = i + 1 := by omega
          obtain rfl : k' = k + 1 := by omega
          have hc0 : stC 2 = 1 := by simp [stC]
          rw [hc0] at ht
          repeat' (first | (refine wpc_split _ (fun hc => ?_) (fun hc => ?_) <;> (try simp at hc)) | (refine ww_split _ (fun hc => ?_) (fun hc => ?_) <;> (try simp at hc)) | (refine wp_drawF (by kernel_rfl) ?_) | (refine wk_yldW _ ?_) | (refine layOwe _ (by kernel_rfl) ?_) | (refine owe ?_ (fun ho => ?_)) | (simp (disch := first | assumption | omega | (simp; done) | (simp; omega)) [A1, A2, A4, A7, A14, A15, A16, A5, hb, eI, hsg, hdec, -getElem?_pos, List.getElem?_cons_zero, List.getElem?_cons_succ]))
          exact Aih (Am - 1) _ _ (by omega) ⟨j + 1, i + 1, k + 1, c + 1, X ++ [.cells [.int .i64 (i + 1), .int .i64 (k + 1)]], by simp [A1, A2, A4, A7, A14, A15, A16, A5], by simp [A1, A2, A4, A7, A14, A15, A16, A5], by simp [A1, A2, A4, A7, A14, A15, A16, A5], by simp [A1, A2, A4, A7, A14, A15, A16, A5], by simp [A1, A2, A4, A7, A14, A15, A16, A5], by simp [A1, A2, A4, A7, A14, A15, A16, A5], by simp [A1, A2, A4, A7, A14, A15, A16, A5], by simp [A1, A2, A4, A7, A14, A15, A16, A5], (by simp), by omega, by omega, ht⟩
        · have hdec : decide (i < a.length) = true := by rw [← ho]; simp [stO]
          simp [stI] at e1
          simp [stK] at e2
          obtain rfl : i' = i + 1 := by omega
          obtain rfl : k = k' := by omega
          have hc0 : stC 3 = 1 := by simp [stC]
          rw [hc0] at ht
          repeat' (first | (refine wpc_split _ (fun hc => ?_) (fun hc => ?_) <;> (try simp at hc)) | (refine ww_split _ (fun hc => ?_) (fun hc => ?_) <;> (try simp at hc)) | (refine wp_drawF (by kernel_rfl) ?_) | (refine wk_yldW _ ?_) | (refine layOwe _ (by kernel_rfl) ?_) | (refine owe ?_ (fun ho => ?_)) | (simp (disch := first | assumption | omega | (simp; done) | (simp; omega)) [A1, A2, A4, A7, A14, A15, A16, A5, hb, eI, hsg, hdec, -getElem?_pos, List.getElem?_cons_zero, List.getElem?_cons_succ]))
          exact Aih (Am - 1) _ _ (by omega) ⟨j + 1, i + 1, k, c + 1, X ++ [.cells [.int .i64 (i + 1), .int .i64 k]], by simp [A1, A2, A4, A7, A14, A15, A16, A5], by simp [A1, A2, A4, A7, A14, A15, A16, A5], by simp [A1, A2, A4, A7, A14, A15, A16, A5], by simp [A1, A2, A4, A7, A14, A15, A16, A5], by simp [A1, A2, A4, A7, A14, A15, A16, A5], by simp [A1, A2, A4, A7, A14, A15, A16, A5], by simp [A1, A2, A4, A7, A14, A15, A16, A5], by simp [A1, A2, A4, A7, A14, A15, A16, A5], (by simp), by omega, by omega, ht⟩
        · have hdec : decide (k < b.length) = true := by rw [← ho]; simp [stO]
          simp [stI] at e1
          simp [stK] at e2
          obtain rfl : i = i' := by omega
          obtain rfl : k' = k + 1 := by omega
          have hc0 : stC 4 = 1 := by simp [stC]
          rw [hc0] at ht
          repeat' (first | (refine wpc_split _ (fun hc => ?_) (fun hc => ?_) <;> (try simp at hc)) | (refine ww_split _ (fun hc => ?_) (fun hc => ?_) <;> (try simp at hc)) | (refine wp_drawF (by kernel_rfl) ?_) | (refine wk_yldW _ ?_) | (refine layOwe _ (by kernel_rfl) ?_) | (refine owe ?_ (fun ho => ?_)) | (simp (disch := first | assumption | omega | (simp; done) | (simp; omega)) [A1, A2, A4, A7, A14, A15, A16, A5, hb, eI, hsg, hdec, -getElem?_pos, List.getElem?_cons_zero, List.getElem?_cons_succ]))
          exact Aih (Am - 1) _ _ (by omega) ⟨j + 1, i, k + 1, c + 1, X ++ [.cells [.int .i64 i, .int .i64 (k + 1)]], by simp [A1, A2, A4, A7, A14, A15, A16, A5], by simp [A1, A2, A4, A7, A14, A15, A16, A5], by simp [A1, A2, A4, A7, A14, A15, A16, A5], by simp [A1, A2, A4, A7, A14, A15, A16, A5], by simp [A1, A2, A4, A7, A14, A15, A16, A5], by simp [A1, A2, A4, A7, A14, A15, A16, A5], by simp [A1, A2, A4, A7, A14, A15, A16, A5], by simp [A1, A2, A4, A7, A14, A15, A16, A5], (by simp), by omega, by omega, ht⟩
    · have ho : stO a b i k s = false := by
        unfold stO
        rw [if_neg (by omega), if_neg (by omega), if_neg (by omega), if_neg (by omega)]
      rw [ho] at ht
      simp at ht
      repeat' (first | (refine wpc_split _ (fun hc => ?_) (fun hc => ?_) <;> (try simp at hc)) | (refine ww_split _ (fun hc => ?_) (fun hc => ?_) <;> (try simp at hc)) | (refine wp_drawF (by kernel_rfl) ?_) | (refine wk_yldW _ ?_) | (refine layOwe _ (by kernel_rfl) ?_) | (refine owe ?_ (fun ho => ?_)) | (simp (disch := first | assumption | omega | (simp; done) | (simp; omega)) [A1, A2, A4, A7, A14, A15, A16, A5, hb, eI, hsg, -getElem?_pos, List.getElem?_cons_zero, List.getElem?_cons_succ]))
      all_goals first
        | (exfalso; omega)
        | (rw [← ht]; simp)
  · rw [List.drop_of_length_le (by omega)] at ht
    simp only [folF] at ht
    repeat' (first | (refine wpc_split _ (fun hc => ?_) (fun hc => ?_) <;> (try simp at hc)) | (refine ww_split _ (fun hc => ?_) (fun hc => ?_) <;> (try simp at hc)) | (refine wp_drawF (by kernel_rfl) ?_) | (refine wk_yldW _ ?_) | (refine layOwe _ (by kernel_rfl) ?_) | (refine owe ?_ (fun ho => ?_)) | (simp (disch := first | assumption | omega | (simp; done) | (simp; omega)) [A1, A2, A4, A7, A14, A15, A16, A5, hb, -getElem?_pos, List.getElem?_cons_zero, List.getElem?_cons_succ]))
    rw [← ht]; simp
@[simp] theorem S35 (a b : List (List UInt8)) (st : List Int) (hs : a.length < 1099511627776 ∧ b.length < 1099511627776 ∧ st.length < 1099511627776) (q1 q2 q3 : Fl) (hh : Heap) : Ci cfg (.func (.func 35) [] []) [.agg [R  q1 eS a, R  q2 eS b], R  q3 eI st] hh = some (.ret (.tuple [.agg [.int .i64 (folF a b st 0 0 0).1, .int .i64 (folF a b st 0 0 0).2.1], .int .i64 (folF a b st 0 0 0).2.2.1, .bool (folF a b st 0 0 0).2.2.2]), hh) :=
  Ci_K cfg rfl rfl (by simp) (by simp) (C35 a b st hs)
end Go.Ab
