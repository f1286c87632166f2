/- AlignTurned: the law. -/
import Derived.Test.YtdgdefemmjngnaaDoorD21
import Derived.Test.YtdgdefemmjngnaaDoorS21
import Derived.Test.YtdgdefemmjngnaaDoorA9
set_option linter.unusedVariables false
set_option linter.unusedSimpArgs false
set_option linter.unusedSectionVars false
set_option linter.deprecated false
namespace Go.Ab
open Go.Proofs
set_option maxRecDepth 100000
set_option maxHeartbeats 4000000
theorem rev_step {l : List Wd} {q : Nat} (h : q < l.length) : (l.drop q).reverse = (l.drop (q + 1)).reverse ++ [nth l q] := by rw [nth_drop h, List.reverse_cons]
theorem C8 (a b : List (List UInt8)) (hs : a.length < 1099511627776 ∧ b.length < 1099511627776) (ha : ∀ x ∈ a, x.length < 1099511627776) (hb : ∀ x ∈ b, x.length < 1099511627776) : Kc cfg 8 [R fl0 eS a, R fl0 eS b] (.ret (.bool true)) := by
  have hf : ∀ (p q : Bool) (tok : Option Nat), V.row p q [R fl0 eS a, R fl0 eS b] 2 tok = R (p, q, tok) (eR eS) [a, b] := fun _ _ _ => rfl
  have hl : ∀ l ∈ [a, b], l.length < 1099511627776 ∧ ∀ x ∈ l, x.length < 1099511627776 := by
    intro l hl
    simp at hl
    rcases hl with rfl | rfl
    · exact ⟨hs.1, ha⟩
    · exact ⟨hs.2, hb⟩
  have hW := S22 [a, b] (by simp) hl
  cases hw : wordsL [a, b] with
  | false =>
    refine outS_of_wp cfg (fn := Tryd.f8) Tryd.func8 rfl (by simp [Tryd.f8]) ?_
    simp (disch := first | assumption | omega | (simp; done) | (simp; omega)) [-getElem?_pos, List.getElem?_cons_zero, List.getElem?_cons_succ, Tryd.f8, hf, hW, hw]
    repeat' (first | (refine wpc_split _ (fun hc => ?_) (fun hc => ?_) <;> (try simp at hc)) | (refine ww_split _ (fun hc => ?_) (fun hc => ?_) <;> (try simp at hc)) | (refine wp_drawF (by kernel_rfl) ?_) | (refine wk_yldW _ ?_) | (refine layOwe _ (by kernel_rfl) ?_) | (refine owe ?_ (fun ho => ?_)) | (simp (disch := first | assumption | omega | (simp; done) | (simp; omega)) [hf, hW, hw, -getElem?_pos, List.getElem?_cons_zero, List.getElem?_cons_succ]))
  | true =>
    obtain ⟨a1, a2⟩ := wordsL_mem hw (show a ∈ [a, b] by simp)
    obtain ⟨b1, b2⟩ := wordsL_mem hw (show b ∈ [a, b] by simp)
    have he := errS_zero (a := a) (b := b) ⟨by omega, a2⟩ ⟨by omega, b2⟩
    have hA : alS a b = (alignF a b, lev a b, 0) := by unfold alS; rw [if_pos he]; rfl
    have hcr : costL a.reverse b.reverse = lev a b := by
      unfold costL
      rw [if_pos (errS_zero ⟨by simp; omega, by rw [List.all_reverse]; exact a2⟩ ⟨by simp; omega, by rw [List.all_reverse]; exact b2⟩), lev_rev]
    have hsr : a.reverse.length < 1099511627776 ∧ b.reverse.length < 1099511627776 := by simp; omega
    have har : ∀ x ∈ a.reverse, x.length < 1099511627776 := fun x hx => ha x (by simpa using hx)
    have hbr : ∀ x ∈ b.reverse, x.length < 1099511627776 := fun x hx => hb x (by simpa using hx)
    have hCr := S23 a.reverse b.reverse hsr har hbr
    have hs4 : a.length < 4294967296 := by omega
    have hs5 : b.length < 4294967296 := by omega
    have hp := pathC_turn (alF_path a b)
    have hln := alF_len a b
    have hn0 := lev_nonneg a b
    have hn1 := lev_max a b
    generalize hF : alignF a b = F at *
    generalize hn : lev a b = n at *
    have hco := costF_of hp
    refine outS_of_wp cfg (fn := Tryd.f8) Tryd.func8 rfl (by simp [Tryd.f8]) ?_
    simp (disch := first | assumption | omega | (simp; done) | (simp; omega)) [-getElem?_pos, List.getElem?_cons_zero, List.getElem?_cons_succ, Tryd.f8, hf, hW, hw, hA, hCr, hcr]
    repeat' (first | (refine wpc_split _ (fun hc => ?_) (fun hc => ?_) <;> (try simp at hc)) | (refine ww_split _ (fun hc => ?_) (fun hc => ?_) <;> (try simp at hc)) | (refine wp_drawF (by kernel_rfl) ?_) | (refine wk_yldW _ ?_) | (refine layOwe _ (by kernel_rfl) ?_) | (refine owe ?_ (fun ho => ?_)) | (simp (disch := first | assumption | omega | (simp; done) | (simp; omega)) [hf, hW, hw, hA, hCr, hcr, Tryd.f26, -getElem?_pos, List.getElem?_cons_zero, List.getElem?_cons_succ]))
    refine wp_loopE cfg rfl (fun f0 h0 m fr h => ∃ q : Nat, ∃ fl : Fl, fr 0 = f0 0 ∧ fr 3 = .int .i64 ((q : Int) - 1) ∧ fr 2 = R fl eS (a.drop q).reverse ∧ (App h.ts 1 fl) ∧ (m = q) ∧ (q ≤ a.length)) (a.length) _ _ ⟨a.length, (true, true, none), rfl, by first | rfl | (simp; done) | (simp [R]; done) | simp [R], by first | rfl | (simp; done) | (simp [R]; done) | simp [R], App.nil _ _ _, by first | rfl | (simp; done) | omega, by first | rfl | (simp; done) | omega⟩ ?_
    rintro Am Af Ah ⟨q, fl, A0, A3, A2, hap, hm, hq⟩ Aih
    try simp at A0
    by_cases hq0 : 0 < q
    · obtain ⟨k, rfl⟩ : ∃ k, q = k + 1 := ⟨q - 1, by omega⟩
      have hst := rev_step (l := a) (q := k) (by omega)
      repeat' (first | (refine wpc_split _ (fun hc => ?_) (fun hc => ?_) <;> (try simp at hc)) | (refine ww_split _ (fun hc => ?_) (fun hc => ?_) <;> (try simp at hc)) | (refine wp_drawF (by kernel_rfl) ?_) | (refine wk_yldW _ ?_) | (refine layOwe _ (by kernel_rfl) ?_) | (refine owe ?_ (fun ho => ?_)) | (simp (disch := first | assumption | omega | (simp; done) | (simp; omega)) [A0, A3, A2, eS, fold_S1, -getElem?_pos, List.getElem?_cons_zero, List.getElem?_cons_succ]))
      exact Aih (Am - 1) _ _ (by omega) ⟨k, _, by simp [A0, A3, A2, hst], by simp [A0, A3, A2, hst], by simp [A0, A3, A2, hst], App.new _ _ _, by omega, by omega⟩
    obtain rfl : q = 0 := by omega
    rw [List.drop_zero] at A2
    clear hq0 hq hm hap Aih
    repeat' (first | (refine wpc_split _ (fun hc => ?_) (fun hc => ?_) <;> (try simp at hc)) | (refine ww_split _ (fun hc => ?_) (fun hc => ?_) <;> (try simp at hc)) | (refine wp_drawF (by kernel_rfl) ?_) | (refine wk_yldW _ ?_) | (refine layOwe _ (by kernel_rfl) ?_) | (refine owe ?_ (fun ho => ?_)) | (simp (disch := first | assumption | omega | (simp; done) | (simp; omega)) [A0, A3, A2, hf, hA, hCr, hcr, Tryd.f26, -getElem?_pos, List.getElem?_cons_zero, List.getElem?_cons_succ]))
    refine wp_loopE cfg rfl (fun f0 h0 m fr h => ∃ q : Nat, ∃ fl : Fl, fr 0 = f0 0 ∧ fr 3 = .int .i64 ((q : Int) - 1) ∧ fr 2 = R fl eS (b.drop q).reverse ∧ (App h.ts 1 fl) ∧ (m = q) ∧ (q ≤ b.length)) (b.length) _ _ ⟨b.length, (true, true, none), rfl, by first | rfl | (simp; done) | (simp [R]; done) | simp [R], by first | rfl | (simp; done) | (simp [R]; done) | simp [R], App.nil _ _ _, by first | rfl | (simp; done) | omega, by first | rfl | (simp; done) | omega⟩ ?_
    rintro Bm Bf Bh ⟨q, fl, B0, B3, B2, hap, hm, hq⟩ Bih
    try simp at B0
    by_cases hq0 : 0 < q
    · obtain ⟨k, rfl⟩ : ∃ k, q = k + 1 := ⟨q - 1, by omega⟩
      have hst := rev_step (l := b) (q := k) (by omega)
      repeat' (first | (refine wpc_split _ (fun hc => ?_) (fun hc => ?_) <;> (try simp at hc)) | (refine ww_split _ (fun hc => ?_) (fun hc => ?_) <;> (try simp at hc)) | (refine wp_drawF (by kernel_rfl) ?_) | (refine wk_yldW _ ?_) | (refine layOwe _ (by kernel_rfl) ?_) | (refine owe ?_ (fun ho => ?_)) | (simp (disch := first | assumption | omega | (simp; done) | (simp; omega)) [B0, B3, B2, eS, fold_S1, -getElem?_pos, List.getElem?_cons_zero, List.getElem?_cons_succ]))
      exact Bih (Bm - 1) _ _ (by omega) ⟨k, _, by simp [B0, B3, B2, hst], by simp [B0, B3, B2, hst], by simp [B0, B3, B2, hst], App.new _ _ _, by omega, by omega⟩
    obtain rfl : q = 0 := by omega
    rw [List.drop_zero] at B2
    clear hq0 hq hm hap Bih
    repeat' (first | (refine wpc_split _ (fun hc => ?_) (fun hc => ?_) <;> (try simp at hc)) | (refine ww_split _ (fun hc => ?_) (fun hc => ?_) <;> (try simp at hc)) | (refine wp_drawF (by kernel_rfl) ?_) | (refine wk_yldW _ ?_) | (refine layOwe _ (by kernel_rfl) ?_) | (refine owe ?_ (fun ho => ?_)) | (simp (disch := first | assumption | omega | (simp; done) | (simp; omega)) [B0, B3, B2, hf, hA, hCr, hcr, -getElem?_pos, List.getElem?_cons_zero, List.getElem?_cons_succ]))
    refine wp_loopE cfg rfl (fun f0 h0 m fr h => ∃ j : Nat, ∃ fl : Fl, fr 0 = f0 0 ∧ fr 1 = f0 1 ∧ fr 7 = f0 7 ∧ fr 41 = f0 41 ∧ fr 42 = f0 42 ∧ fr 43 = .int .i64 j ∧ fr 9 = R fl eI ((F.take j).map turnS) ∧ (App h.ts 1 fl) ∧ (j + m = F.length)) (F.length) _ _ ⟨0, (true, true, none), rfl, rfl, rfl, rfl, rfl, by first | rfl | (simp; done) | (simp [R]; done) | simp [R], by first | rfl | (simp; done) | (simp [R]; done) | simp [R], App.nil _ _ _, by first | rfl | (simp; done) | omega⟩ ?_
    rintro Cm Cf Ch ⟨j, fl, C0, C1, C7, C41, C42, C43, C9, hap, hm⟩ Cih
    try simp at C0 C1 C7 C41 C42
    by_cases hj : j < F.length
    · have htk : (F.take (j + 1)).map turnS = (F.take j).map turnS ++ [turnS (nth F j)] := by rw [nth_take hj]; simp
      have hlt : ((F.take j).map turnS).length ≤ j := by simp; omega
      by_cases c3 : nth F j = 3
      · have hT : turnS (nth F j) = 4 := by unfold turnS; rw [if_pos c3]
        rw [hT] at htk
        repeat' (first | (refine wpc_split _ (fun hc => ?_) (fun hc => ?_) <;> (try simp at hc)) | (refine ww_split _ (fun hc => ?_) (fun hc => ?_) <;> (try simp at hc)) | (refine wp_drawF (by kernel_rfl) ?_) | (refine wk_yldW _ ?_) | (refine layOwe _ (by kernel_rfl) ?_) | (refine owe ?_ (fun ho => ?_)) | (simp (disch := first | assumption | omega | (simp; done) | (simp; omega)) [C0, C1, C7, C41, C42, C43, C9, eI, c3, fold_I1, -getElem?_pos, List.getElem?_cons_zero, List.getElem?_cons_succ]))
        exact Cih (Cm - 1) _ _ (by omega) ⟨j + 1, _, by simp [C0, C1, C7, C41, C42, C43, C9, htk], by simp [C0, C1, C7, C41, C42, C43, C9, htk], by simp [C0, C1, C7, C41, C42, C43, C9, htk], by simp [C0, C1, C7, C41, C42, C43, C9, htk], by simp [C0, C1, C7, C41, C42, C43, C9, htk], by simp [C0, C1, C7, C41, C42, C43, C9, htk], by simp [C0, C1, C7, C41, C42, C43, C9, htk], App.new _ _ _, by omega⟩
      · by_cases c4 : nth F j = 4
        · have hT : turnS (nth F j) = 3 := by unfold turnS; rw [if_neg c3, if_pos c4]
          rw [hT] at htk
          repeat' (first | (refine wpc_split _ (fun hc => ?_) (fun hc => ?_) <;> (try simp at hc)) | (refine ww_split _ (fun hc => ?_) (fun hc => ?_) <;> (try simp at hc)) | (refine wp_drawF (by kernel_rfl) ?_) | (refine wk_yldW _ ?_) | (refine layOwe _ (by kernel_rfl) ?_) | (refine owe ?_ (fun ho => ?_)) | (simp (disch := first | assumption | omega | (simp; done) | (simp; omega)) [C0, C1, C7, C41, C42, C43, C9, eI, c4, fold_I1, -getElem?_pos, List.getElem?_cons_zero, List.getElem?_cons_succ]))
          exact Cih (Cm - 1) _ _ (by omega) ⟨j + 1, _, by simp [C0, C1, C7, C41, C42, C43, C9, htk], by simp [C0, C1, C7, C41, C42, C43, C9, htk], by simp [C0, C1, C7, C41, C42, C43, C9, htk], by simp [C0, C1, C7, C41, C42, C43, C9, htk], by simp [C0, C1, C7, C41, C42, C43, C9, htk], by simp [C0, C1, C7, C41, C42, C43, C9, htk], by simp [C0, C1, C7, C41, C42, C43, C9, htk], App.new _ _ _, by omega⟩
        · have hT : turnS (nth F j) = nth F j := by unfold turnS; rw [if_neg c3, if_neg c4]
          rw [hT] at htk
          repeat' (first | (refine wpc_split _ (fun hc => ?_) (fun hc => ?_) <;> (try simp at hc)) | (refine ww_split _ (fun hc => ?_) (fun hc => ?_) <;> (try simp at hc)) | (refine wp_drawF (by kernel_rfl) ?_) | (refine wk_yldW _ ?_) | (refine layOwe _ (by kernel_rfl) ?_) | (refine owe ?_ (fun ho => ?_)) | (simp (disch := first | assumption | omega | (simp; done) | (simp; omega)) [C0, C1, C7, C41, C42, C43, C9, eI, c3, c4, fold_I1, -getElem?_pos, List.getElem?_cons_zero, List.getElem?_cons_succ]))
          exact Cih (Cm - 1) _ _ (by omega) ⟨j + 1, _, by simp [C0, C1, C7, C41, C42, C43, C9, htk], by simp [C0, C1, C7, C41, C42, C43, C9, htk], by simp [C0, C1, C7, C41, C42, C43, C9, htk], by simp [C0, C1, C7, C41, C42, C43, C9, htk], by simp [C0, C1, C7, C41, C42, C43, C9, htk], by simp [C0, C1, C7, C41, C42, C43, C9, htk], by simp [C0, C1, C7, C41, C42, C43, C9, htk], App.new _ _ _, by omega⟩
    · obtain rfl : j = F.length := by omega
      rw [List.take_length] at C9
      have hlm : (F.map turnS).length ≤ 128 := by simp; omega
      repeat' (first | (refine wpc_split _ (fun hc => ?_) (fun hc => ?_) <;> (try simp at hc)) | (refine ww_split _ (fun hc => ?_) (fun hc => ?_) <;> (try simp at hc)) | (refine wp_drawF (by kernel_rfl) ?_) | (refine wk_yldW _ ?_) | (refine layOwe _ (by kernel_rfl) ?_) | (refine owe ?_ (fun ho => ?_)) | (simp (disch := first | assumption | omega | (simp; done) | (simp; omega)) [C0, C1, C7, C41, C42, C43, C9, hco, -getElem?_pos, List.getElem?_cons_zero, List.getElem?_cons_succ]))
@[simp] theorem S8 (a b : List (List UInt8)) (hs : a.length < 1099511627776 ∧ b.length < 1099511627776) (ha : ∀ x ∈ a, x.length < 1099511627776) (hb : ∀ x ∈ b, x.length < 1099511627776) (q1 q2 : Fl) (hh : Heap) : Ci cfg (.func (.func 8) [] []) [R  q1 eS a, R  q2 eS b] hh = some (.ret (.bool true), hh) :=
  Ci_K cfg rfl rfl (by simp) (by simp) (C8 a b hs ha hb)
end Go.Ab
