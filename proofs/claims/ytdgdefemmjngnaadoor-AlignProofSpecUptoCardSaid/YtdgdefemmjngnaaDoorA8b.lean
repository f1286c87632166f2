/- Layer 21 (align): the program's own check of a proof. -/
import Derived.Test.YtdgdefemmjngnaaDoorA8
set_option linter.unusedVariables false
set_option linter.unusedSimpArgs false
set_option linter.unusedSectionVars false
set_option linter.deprecated false
namespace Go.Ab
open Go.Proofs
set_option maxRecDepth 100000
set_option maxHeartbeats 4000000
theorem hb9 {c0 c1 c2 c3 c4 c5 c6 c7 y : Blk} {Y L : List Blk} {j : Nat} : (c0 :: c1 :: c2 :: c3 :: c4 :: c5 :: c6 :: c7 :: (Y ++ y :: L))[Y.length + (j + 9)]? = L[j]? := by
  rw [show Y.length + (j + 9) = Y.length + (j + 1) + 8 by omega]
  simp only [List.getElem?_cons_succ, app_at]
theorem hs9 {c0 c1 c2 c3 c4 c5 c6 c7 y x : Blk} {Y L : List Blk} {j : Nat} : (c0 :: c1 :: c2 :: c3 :: c4 :: c5 :: c6 :: c7 :: (Y ++ y :: L)).set (Y.length + (j + 9)) x = c0 :: c1 :: c2 :: c3 :: c4 :: c5 :: c6 :: c7 :: (Y ++ y :: L.set j x) := by
  rw [show Y.length + (j + 9) = Y.length + (j + 1) + 8 by omega]
  simp only [List.set_cons_succ, app_set]
theorem C36 (a b : List (List UInt8)) (p : List (List Int)) (hs : a.length ≤ 64 ∧ b.length ≤ 64 ∧ p.length < 1099511627776) (hl : ∀ r ∈ p, r.length < 1099511627776) : Kc cfg 36 [.agg [R fl0 eS a, R fl0 eS b], R fl0 (eR eI) p] (.ret (.bool (holdsS a b p))) := by
  have hs2 : a.length < 1099511627776 ∧ b.length < 1099511627776 := by omega
  generalize hF : holdsS a b p = F
  by_cases hpl : p.length = a.length + 1
  · have hpi : ((p.length : Int) == (a.length : Int) + 1) = true := by simp; omega
    refine outS_of_wp cfg (fn := Tryd.f36) Tryd.func36 rfl (by simp [Tryd.f36]) ?_
    simp (disch := first | assumption | omega | (simp; done) | (simp; omega)) [-getElem?_pos, List.getElem?_cons_zero, List.getElem?_cons_succ, Tryd.f36, hpi, emptyH]
    repeat' (first | (refine wpc_split _ (fun hc => ?_) (fun hc => ?_) <;> (try simp at hc)) | (refine ww_split _ (fun hc => ?_) (fun hc => ?_) <;> (try simp at hc)) | (refine wp_drawF (by kernel_rfl) ?_) | (refine wk_yldW _ ?_) | (refine layOwe _ (by kernel_rfl) ?_) | (refine owe ?_ (fun ho => ?_)) | (simp (disch := first | assumption | omega | (simp; done) | (simp; omega)) [hpi, emptyH, Tryd.f53, Tryd.f61, -getElem?_pos, List.getElem?_cons_zero, List.getElem?_cons_succ]))
    refine wp_loopE cfg rfl (fun f0 h0 m fr h => ∃ i : Nat, fr 0 = f0 0 ∧ fr 1 = f0 1 ∧ fr 7 = f0 7 ∧ fr 8 = .int .i64 i ∧ h.bs = h0.bs ∧ (i + m = p.length) ∧ (∀ j, j < i → rowOk (b.length + 1) (nth p j) = true)) (p.length) _ _ ⟨0, rfl, rfl, rfl, by first | rfl | (simp; done) | (simp [R]; done) | simp [R], rfl, by first | rfl | (simp; done) | omega, fun j hj => by omega⟩ ?_
    rintro Am Af Ah ⟨i, A0, A1, A7, A8, Abs, hm, ht⟩ Aih
    try simp at A0 A1 A7 Abs
    by_cases hi : i < p.length
    · have hx := hl _ (nth_mem hi)
      by_cases hw : (nth p i).length = b.length + 1
      · have hwi : (((nth p i).length : Int) == (b.length : Int) + 1) = true := by simp; omega
        repeat' (first | (refine wpc_split _ (fun hc => ?_) (fun hc => ?_) <;> (try simp at hc)) | (refine ww_split _ (fun hc => ?_) (fun hc => ?_) <;> (try simp at hc)) | (refine wp_drawF (by kernel_rfl) ?_) | (refine wk_yldW _ ?_) | (refine layOwe _ (by kernel_rfl) ?_) | (refine owe ?_ (fun ho => ?_)) | (simp (disch := first | assumption | omega | (simp; done) | (simp; omega)) [A0, A1, A7, A8, Abs, eR, hwi, Tryd.f51, Tryd.f52, Tryd.f60, -getElem?_pos, List.getElem?_cons_zero, List.getElem?_cons_succ]))
        refine wp_loopE cfg rfl (fun f0 h0 m fr h => ∃ k : Nat, fr 0 = f0 0 ∧ fr 1 = f0 1 ∧ fr 7 = f0 7 ∧ fr 8 = .int .i64 k ∧ h.bs = h0.bs ∧ (k + m = (nth p i).length) ∧ (allTo k (fun k => decide (0 ≤ nth (nth p i) k ∧ nth (nth p i) k ≤ 128)) = true)) ((nth p i).length) _ _ ⟨0, rfl, rfl, rfl, by first | rfl | (simp; done) | (simp [R]; done) | simp [R], rfl, by first | rfl | (simp; done) | omega, rfl⟩ ?_
        rintro Bm Bf Bh ⟨k, B0, B1, B7, B8, Bbs, hm2, ht2⟩ Bih
        try simp [A0, A1, A7, A8, Abs] at B0 B1 B7 Bbs
        by_cases hk : k < (nth p i).length
        · by_cases hq : 0 ≤ nth (nth p i) k ∧ nth (nth p i) k ≤ 128
          · repeat' (first | (refine wpc_split _ (fun hc => ?_) (fun hc => ?_) <;> (try simp at hc)) | (refine ww_split _ (fun hc => ?_) (fun hc => ?_) <;> (try simp at hc)) | (refine wp_drawF (by kernel_rfl) ?_) | (refine wk_yldW _ ?_) | (refine layOwe _ (by kernel_rfl) ?_) | (refine owe ?_ (fun ho => ?_)) | (simp (disch := first | assumption | omega | (simp; done) | (simp; omega)) [A0, A1, A7, A8, Abs, B0, B1, B7, B8, Bbs, eI, Tryd.f50, -getElem?_pos, List.getElem?_cons_zero, List.getElem?_cons_succ]))
            all_goals first
              | (exfalso; omega)
              | exact Bih (Bm - 1) _ _ (by omega) ⟨k + 1, by simp [B0, B1, B7, B8, Bbs, A0, A1, A7, A8, Abs], by simp [B0, B1, B7, B8, Bbs, A0, A1, A7, A8, Abs], by simp [B0, B1, B7, B8, Bbs, A0, A1, A7, A8, Abs], by simp [B0, B1, B7, B8, Bbs, A0, A1, A7, A8, Abs], by simp [B0, B1, B7, B8, Bbs, A0, A1, A7, A8, Abs], by omega, (by rw [allTo_succ, ht2, decide_eq_true hq]; rfl)⟩
          · have hF2 : F = false := by
              rw [← hF]
              refine holds_shape ?_
              unfold shapeOk
              rw [allTo_false (p := fun i => rowOk (b.length + 1) (nth p i)) i hi, Bool.and_false]
              unfold rowOk
              rw [allTo_false k hk (decide_eq_false hq), Bool.and_false]
            repeat' (first | (refine wpc_split _ (fun hc => ?_) (fun hc => ?_) <;> (try simp at hc)) | (refine ww_split _ (fun hc => ?_) (fun hc => ?_) <;> (try simp at hc)) | (refine wp_drawF (by kernel_rfl) ?_) | (refine wk_yldW _ ?_) | (refine layOwe _ (by kernel_rfl) ?_) | (refine owe ?_ (fun ho => ?_)) | (simp (disch := first | assumption | omega | (simp; done) | (simp; omega)) [A0, A1, A7, A8, Abs, B0, B1, B7, B8, Bbs, eI, Tryd.f50, -getElem?_pos, List.getElem?_cons_zero, List.getElem?_cons_succ]))
            all_goals first
              | (exfalso; omega)
              | rw [hF2]
        · have hro : rowOk (b.length + 1) (nth p i) = true := by
            unfold rowOk
            rw [decide_eq_true hw, Bool.true_and, ← ht2]
            congr 1; omega
          repeat' (first | (refine wpc_split _ (fun hc => ?_) (fun hc => ?_) <;> (try simp at hc)) | (refine ww_split _ (fun hc => ?_) (fun hc => ?_) <;> (try simp at hc)) | (refine wp_drawF (by kernel_rfl) ?_) | (refine wk_yldW _ ?_) | (refine layOwe _ (by kernel_rfl) ?_) | (refine owe ?_ (fun ho => ?_)) | (simp (disch := first | assumption | omega | (simp; done) | (simp; omega)) [A0, A1, A7, A8, Abs, B0, B1, B7, B8, Bbs, -getElem?_pos, List.getElem?_cons_zero, List.getElem?_cons_succ]))
          all_goals first
            | (exfalso; omega)
            | exact Aih (Am - 1) _ _ (by omega) ⟨i + 1, by simp [B0, B1, B7, B8, Bbs, A0, A1, A7, A8, Abs], by simp [B0, B1, B7, B8, Bbs, A0, A1, A7, A8, Abs], by simp [B0, B1, B7, B8, Bbs, A0, A1, A7, A8, Abs], by simp [B0, B1, B7, B8, Bbs, A0, A1, A7, A8, Abs], by simp [B0, B1, B7, B8, Bbs, A0, A1, A7, A8, Abs], by omega, fun j hj => by (by_cases e : j = i; (subst e; exact hro); exact ht j (by omega))⟩
      · have hwi : (((nth p i).length : Int) == (b.length : Int) + 1) = false := by simp; omega
        have hF2 : F = false := by
          rw [← hF]
          refine holds_shape ?_
          unfold shapeOk
          rw [allTo_false (p := fun i => rowOk (b.length + 1) (nth p i)) i hi, Bool.and_false]
          unfold rowOk
          rw [decide_eq_false hw]; rfl
        repeat' (first | (refine wpc_split _ (fun hc => ?_) (fun hc => ?_) <;> (try simp at hc)) | (refine ww_split _ (fun hc => ?_) (fun hc => ?_) <;> (try simp at hc)) | (refine wp_drawF (by kernel_rfl) ?_) | (refine wk_yldW _ ?_) | (refine layOwe _ (by kernel_rfl) ?_) | (refine owe ?_ (fun ho => ?_)) | (simp (disch := first | assumption | omega | (simp; done) | (simp; omega)) [A0, A1, A7, A8, Abs, eR, hwi, Tryd.f51, -getElem?_pos, List.getElem?_cons_zero, List.getElem?_cons_succ]))
        all_goals first
          | (exfalso; omega)
          | rw [hF2]
    · have hsh : shapeOk (a.length + 1) (b.length + 1) p = true := by
        unfold shapeOk
        rw [decide_eq_true hpl, Bool.true_and]
        exact allTo_iff.2 fun j hj => ht j (by omega)
      obtain ⟨-, hrw⟩ := shape_row hsh
      repeat' (first | (refine wpc_split _ (fun hc => ?_) (fun hc => ?_) <;> (try simp at hc)) | (refine ww_split _ (fun hc => ?_) (fun hc => ?_) <;> (try simp at hc)) | (refine wp_drawF (by kernel_rfl) ?_) | (refine wk_yldW _ ?_) | (refine layOwe _ (by kernel_rfl) ?_) | (refine owe ?_ (fun ho => ?_)) | (simp (disch := first | assumption | omega | (simp; done) | (simp; omega)) [A0, A1, A7, A8, Abs, Tryd.f44, Tryd.f57, -getElem?_pos, List.getElem?_cons_zero, List.getElem?_cons_succ]))
      refine wp_loopE cfg rfl (fun f0 h0 m fr h => ∃ j : Nat, ∃ X : List Blk, fr 0 = f0 0 ∧ fr 1 = f0 1 ∧ fr 3 = .int .i64 ((j : Int) - 1) ∧ (h.bs = h0.bs.take 8 ++ X) ∧ (m = j) ∧ (j ≤ a.length + 1) ∧ (∀ i k, j ≤ i → i ≤ a.length → k ≤ b.length → plcOk a b p i k = true)) (a.length + 1) _ _ ⟨a.length + 1, [], rfl, rfl, by simp, by simp, by first | rfl | (simp; done) | omega, by first | rfl | (simp; done) | omega, fun i k h1 h2 => by omega⟩ ?_
      rintro Cm Cf Ch ⟨j, X, C0, C1, C3, hb, hm3, hj, ht3⟩ Cih
      try simp [A0, A1, A7, A8, Abs] at C0 C1
      simp at hb
      by_cases hj0 : 0 < j
      · obtain ⟨i, rfl⟩ : ∃ i, j = i + 1 := ⟨j - 1, by omega⟩
        have hi3 : i ≤ a.length := by omega
        repeat' (first | (refine wpc_split _ (fun hc => ?_) (fun hc => ?_) <;> (try simp at hc)) | (refine ww_split _ (fun hc => ?_) (fun hc => ?_) <;> (try simp at hc)) | (refine wp_drawF (by kernel_rfl) ?_) | (refine wk_yldW _ ?_) | (refine layOwe _ (by kernel_rfl) ?_) | (refine owe ?_ (fun ho => ?_)) | (simp (disch := first | assumption | omega | (simp; done) | (simp; omega)) [C0, C1, C3, hb, -getElem?_pos, List.getElem?_cons_zero, List.getElem?_cons_succ]))
        refine wp_loopE cfg rfl (fun f0 h0 m fr h => ∃ q : Nat, ∃ Y : List Blk, fr 0 = f0 0 ∧ fr 1 = f0 1 ∧ fr 3 = f0 3 ∧ fr 4 = .int .i64 ((q : Int) - 1) ∧ (h.bs = h0.bs.take 8 ++ Y) ∧ (m = q) ∧ (q ≤ b.length + 1) ∧ (∀ k', q ≤ k' → k' ≤ b.length → plcOk a b p i k' = true)) (b.length + 1) _ _ ⟨b.length + 1, X, rfl, rfl, rfl, by simp, by simp [hb], by first | rfl | (simp; done) | omega, by first | rfl | (simp; done) | omega, fun k' h1 => by omega⟩ ?_
        rintro Dm Df Dh ⟨q, Y, D0, D1, D3, D4, hb2, hm4, hq, ht4⟩ Dih
        try simp [C0, C1, C3, A0, A1, A7, A8, Abs] at D0 D1 D3
        simp [hb] at hb2
        by_cases hq0 : 0 < q
        · obtain ⟨k, rfl⟩ : ∃ k, q = k + 1 := ⟨q - 1, by omega⟩
          have hk4 : k ≤ b.length := by omega
          obtain ⟨r1, r2⟩ := hrw i (by omega)
          have v1 := r2 k (by omega)
          repeat' (first | (refine wpc_split _ (fun hc => ?_) (fun hc => ?_) <;> (try simp at hc)) | (refine ww_split _ (fun hc => ?_) (fun hc => ?_) <;> (try simp at hc)) | (refine wp_drawF (by kernel_rfl) ?_) | (refine wk_yldW _ ?_) | (refine layOwe _ (by kernel_rfl) ?_) | (refine owe ?_ (fun ho => ?_)) | (simp (disch := first | assumption | omega | (simp; done) | (simp; omega)) [D0, D1, D3, D4, hb2, app_at, app_at0, app_set, app_set0, -getElem?_pos, List.getElem?_cons_zero, List.getElem?_cons_succ]))
          refine wp_loopE cfg rfl (fun f0 h0 m fr h => ∃ t : Nat, ∃ Z : List Blk, fr 2 = f0 2 ∧ fr 3 = f0 3 ∧ fr 4 = f0 4 ∧ fr 8 = f0 8 ∧ fr 31 = f0 31 ∧ fr 32 = f0 32 ∧ fr 33 = .int .i64 t ∧ (h.bs = h0.bs ++ Z) ∧ (t + m = 4) ∧ (allTo t (fun t => stpOk a b p i k ((t : Int) + 1)) = true)) (4) _ _ ⟨0, [], rfl, rfl, rfl, rfl, rfl, rfl, by first | rfl | (simp; done) | (simp [R]; done) | simp [R], by simp, by first | rfl | (simp; done) | omega, rfl⟩ ?_
          rintro Em Ef Eh ⟨t, Z, E2, E3, E4, E8, E31, E32, E33, hb3, hm5, ht5⟩ Eih
          try simp [D0, D1, D3, D4, C0, C1, C3, A0, A1, A7, A8, Abs] at E2 E3 E4 E8 E31 E32
          simp [hb2] at hb3
          have hcs : t = 0 ∨ t = 1 ∨ t = 2 ∨ t = 3 ∨ t = 4 := by omega
          rcases hcs with rfl | rfl | rfl | rfl | rfl
          · cases ho : stO a b i k 1 with
            | false =>
              have hdec : (decide (i < a.length) && (decide (k < b.length) && decide (nth a i = nth b k))) = false := by rw [← ho]; simp [stO]
              repeat' (first | (refine wpc_split _ (fun hc => ?_) (fun hc => ?_) <;> (try simp at hc)) | (refine ww_split _ (fun hc => ?_) (fun hc => ?_) <;> (try simp at hc)) | (refine wp_drawF (by kernel_rfl) ?_) | (refine wk_yldW _ ?_) | (refine layOwe _ (by kernel_rfl) ?_) | (refine owe ?_ (fun ho => ?_)) | (simp (config := { maxSteps := 2000000 }) (disch := first | assumption | omega | (simp; done) | (simp; omega)) [D0, D1, D3, D4, E2, E3, E4, E8, E31, E32, E33, hb3, hdec, hb9, hs9, app_at, app_at0, app_set, app_set0, Nat.add_assoc, -getElem?_pos, List.getElem?_cons_zero, List.getElem?_cons_succ]))
              exact Eih (Em - 1) _ _ (by omega) ⟨1, Z ++ [.cells [.int .i64 (i + 1), .int .i64 (k + 1)]], by simp [E2, E3, E4, E8, E31, E32, E33, D0, D1, D3, D4, C0, C1, C3, A0, A1, A7, A8, Abs, hb2, hb3, Nat.add_assoc], by simp [E2, E3, E4, E8, E31, E32, E33, D0, D1, D3, D4, C0, C1, C3, A0, A1, A7, A8, Abs, hb2, hb3, Nat.add_assoc], by simp [E2, E3, E4, E8, E31, E32, E33, D0, D1, D3, D4, C0, C1, C3, A0, A1, A7, A8, Abs, hb2, hb3, Nat.add_assoc], by simp [E2, E3, E4, E8, E31, E32, E33, D0, D1, D3, D4, C0, C1, C3, A0, A1, A7, A8, Abs, hb2, hb3, Nat.add_assoc], by simp [E2, E3, E4, E8, E31, E32, E33, D0, D1, D3, D4, C0, C1, C3, A0, A1, A7, A8, Abs, hb2, hb3, Nat.add_assoc], by simp [E2, E3, E4, E8, E31, E32, E33, D0, D1, D3, D4, C0, C1, C3, A0, A1, A7, A8, Abs, hb2, hb3, Nat.add_assoc], by simp [E2, E3, E4, E8, E31, E32, E33, D0, D1, D3, D4, C0, C1, C3, A0, A1, A7, A8, Abs, hb2, hb3, Nat.add_assoc], (by simp [hb2, hb3]), by omega, (by rw [allTo_succ, ht5]; simp [stpOk, ho])⟩
            | true =>
              obtain ⟨i2, k2, e1, e2, e3, e4, e5, e6⟩ := st_bound ho hi3 hk4
              simp [stI] at e1
              simp [stK] at e2
              obtain rfl : i2 = i + 1 := by omega
              obtain rfl : k2 = k + 1 := by omega
              obtain ⟨r3, r4⟩ := hrw (i + 1) (by omega)
              have v2 := r4 (k + 1) (by omega)
              have hdec : (decide (i < a.length) && (decide (k < b.length) && decide (nth a i = nth b k))) = true := by rw [← ho]; simp [stO]
              by_cases hq : nth (nth p i) k ≤ nth (nth p (i + 1)) (k + 1)
              · repeat' (first | (refine wpc_split _ (fun hc => ?_) (fun hc => ?_) <;> (try simp at hc)) | (refine ww_split _ (fun hc => ?_) (fun hc => ?_) <;> (try simp at hc)) | (refine wp_drawF (by kernel_rfl) ?_) | (refine wk_yldW _ ?_) | (refine layOwe _ (by kernel_rfl) ?_) | (refine owe ?_ (fun ho => ?_)) | (simp (config := { maxSteps := 2000000 }) (disch := first | assumption | omega | (simp; done) | (simp; omega)) [D0, D1, D3, D4, E2, E3, E4, E8, E31, E32, E33, hb3, hdec, hb9, hs9, eR, eI, r1, r3, app_at, app_at0, app_set, app_set0, Nat.add_assoc, -getElem?_pos, List.getElem?_cons_zero, List.getElem?_cons_succ]))
                all_goals first
                  | (exfalso; omega)
                  | exact Eih (Em - 1) _ _ (by omega) ⟨1, Z ++ [.cells [.int .i64 (i + 1), .int .i64 (k + 1)]], by simp [E2, E3, E4, E8, E31, E32, E33, D0, D1, D3, D4, C0, C1, C3, A0, A1, A7, A8, Abs, hb2, hb3, Nat.add_assoc], by simp [E2, E3, E4, E8, E31, E32, E33, D0, D1, D3, D4, C0, C1, C3, A0, A1, A7, A8, Abs, hb2, hb3, Nat.add_assoc], by simp [E2, E3, E4, E8, E31, E32, E33, D0, D1, D3, D4, C0, C1, C3, A0, A1, A7, A8, Abs, hb2, hb3, Nat.add_assoc], by simp [E2, E3, E4, E8, E31, E32, E33, D0, D1, D3, D4, C0, C1, C3, A0, A1, A7, A8, Abs, hb2, hb3, Nat.add_assoc], by simp [E2, E3, E4, E8, E31, E32, E33, D0, D1, D3, D4, C0, C1, C3, A0, A1, A7, A8, Abs, hb2, hb3, Nat.add_assoc], by simp [E2, E3, E4, E8, E31, E32, E33, D0, D1, D3, D4, C0, C1, C3, A0, A1, A7, A8, Abs, hb2, hb3, Nat.add_assoc], by simp [E2, E3, E4, E8, E31, E32, E33, D0, D1, D3, D4, C0, C1, C3, A0, A1, A7, A8, Abs, hb2, hb3, Nat.add_assoc], (by simp [hb2, hb3]), by omega, (by rw [allTo_succ, ht5]; simp [stpOk, ho, stI, stK, stC]; omega)⟩
              · have hF2 : F = false := by
                  rw [← hF]
                  refine holds_false hi3 hk4 (plc_false 0 (by omega) ?_)
                  simp [stpOk, ho, stI, stK, stC]; omega
                repeat' (first | (refine wpc_split _ (fun hc => ?_) (fun hc => ?_) <;> (try simp at hc)) | (refine ww_split _ (fun hc => ?_) (fun hc => ?_) <;> (try simp at hc)) | (refine wp_drawF (by kernel_rfl) ?_) | (refine wk_yldW _ ?_) | (refine layOwe _ (by kernel_rfl) ?_) | (refine owe ?_ (fun ho => ?_)) | (simp (config := { maxSteps := 2000000 }) (disch := first | assumption | omega | (simp; done) | (simp; omega)) [A0, A1, A7, A8, Abs, C0, C1, C3, D0, D1, D3, D4, E2, E3, E4, E8, E31, E32, E33, hb3, hdec, hb9, hs9, eR, eI, r1, r3, app_at, app_at0, app_set, app_set0, Nat.add_assoc, -getElem?_pos, List.getElem?_cons_zero, List.getElem?_cons_succ]))
                all_goals first
                  | (exfalso; omega)
                  | rw [hF2]
          · cases ho : stO a b i k 2 with
            | false =>
              have hdec : (decide (i < a.length) && (decide (k < b.length) && !decide (nth a i = nth b k))) = false := by rw [← ho]; simp [stO]
              repeat' (first | (refine wpc_split _ (fun hc => ?_) (fun hc => ?_) <;> (try simp at hc)) | (refine ww_split _ (fun hc => ?_) (fun hc => ?_) <;> (try simp at hc)) | (refine wp_drawF (by kernel_rfl) ?_) | (refine wk_yldW _ ?_) | (refine layOwe _ (by kernel_rfl) ?_) | (refine owe ?_ (fun ho => ?_)) | (simp (config := { maxSteps := 2000000 }) (disch := first | assumption | omega | (simp; done) | (simp; omega)) [D0, D1, D3, D4, E2, E3, E4, E8, E31, E32, E33, hb3, hdec, hb9, hs9, app_at, app_at0, app_set, app_set0, Nat.add_assoc, -getElem?_pos, List.getElem?_cons_zero, List.getElem?_cons_succ]))
              exact Eih (Em - 1) _ _ (by omega) ⟨2, Z ++ [.cells [.int .i64 (i + 1), .int .i64 (k + 1)]], by simp [E2, E3, E4, E8, E31, E32, E33, D0, D1, D3, D4, C0, C1, C3, A0, A1, A7, A8, Abs, hb2, hb3, Nat.add_assoc], by simp [E2, E3, E4, E8, E31, E32, E33, D0, D1, D3, D4, C0, C1, C3, A0, A1, A7, A8, Abs, hb2, hb3, Nat.add_assoc], by simp [E2, E3, E4, E8, E31, E32, E33, D0, D1, D3, D4, C0, C1, C3, A0, A1, A7, A8, Abs, hb2, hb3, Nat.add_assoc], by simp [E2, E3, E4, E8, E31, E32, E33, D0, D1, D3, D4, C0, C1, C3, A0, A1, A7, A8, Abs, hb2, hb3, Nat.add_assoc], by simp [E2, E3, E4, E8, E31, E32, E33, D0, D1, D3, D4, C0, C1, C3, A0, A1, A7, A8, Abs, hb2, hb3, Nat.add_assoc], by simp [E2, E3, E4, E8, E31, E32, E33, D0, D1, D3, D4, C0, C1, C3, A0, A1, A7, A8, Abs, hb2, hb3, Nat.add_assoc], by simp [E2, E3, E4, E8, E31, E32, E33, D0, D1, D3, D4, C0, C1, C3, A0, A1, A7, A8, Abs, hb2, hb3, Nat.add_assoc], (by simp [hb2, hb3]), by omega, (by rw [allTo_succ, ht5]; simp [stpOk, ho])⟩
            | true =>
              obtain ⟨i2, k2, e1, e2, e3, e4, e5, e6⟩ := st_bound ho hi3 hk4
              simp [stI] at e1
              simp [stK] at e2
              obtain rfl : i2 = i + 1 := by omega
              obtain rfl : k2 = k + 1 := by omega
              obtain ⟨r3, r4⟩ := hrw (i + 1) (by omega)
              have v2 := r4 (k + 1) (by omega)
              have hdec : (decide (i < a.length) && (decide (k < b.length) && !decide (nth a i = nth b k))) = true := by rw [← ho]; simp [stO]
              by_cases hq : nth (nth p i) k ≤ 1 + nth (nth p (i + 1)) (k + 1)
              · repeat' (first | (refine wpc_split _ (fun hc => ?_) (fun hc => ?_) <;> (try simp at hc)) | (refine ww_split _ (fun hc => ?_) (fun hc => ?_) <;> (try simp at hc)) | (refine wp_drawF (by kernel_rfl) ?_) | (refine wk_yldW _ ?_) | (refine layOwe _ (by kernel_rfl) ?_) | (refine owe ?_ (fun ho => ?_)) | (simp (config := { maxSteps := 2000000 }) (disch := first | assumption | omega | (simp; done) | (simp; omega)) [D0, D1, D3, D4, E2, E3, E4, E8, E31, E32, E33, hb3, hdec, hb9, hs9, eR, eI, r1, r3, app_at, app_at0, app_set, app_set0, Nat.add_assoc, -getElem?_pos, List.getElem?_cons_zero, List.getElem?_cons_succ]))
                all_goals first
                  | (exfalso; omega)
                  | exact Eih (Em - 1) _ _ (by omega) ⟨2, Z ++ [.cells [.int .i64 (i + 1), .int .i64 (k + 1)]], by simp [E2, E3, E4, E8, E31, E32, E33, D0, D1, D3, D4, C0, C1, C3, A0, A1, A7, A8, Abs, hb2, hb3, Nat.add_assoc], by simp [E2, E3, E4, E8, E31, E32, E33, D0, D1, D3, D4, C0, C1, C3, A0, A1, A7, A8, Abs, hb2, hb3, Nat.add_assoc], by simp [E2, E3, E4, E8, E31, E32, E33, D0, D1, D3, D4, C0, C1, C3, A0, A1, A7, A8, Abs, hb2, hb3, Nat.add_assoc], by simp [E2, E3, E4, E8, E31, E32, E33, D0, D1, D3, D4, C0, C1, C3, A0, A1, A7, A8, Abs, hb2, hb3, Nat.add_assoc], by simp [E2, E3, E4, E8, E31, E32, E33, D0, D1, D3, D4, C0, C1, C3, A0, A1, A7, A8, Abs, hb2, hb3, Nat.add_assoc], by simp [E2, E3, E4, E8, E31, E32, E33, D0, D1, D3, D4, C0, C1, C3, A0, A1, A7, A8, Abs, hb2, hb3, Nat.add_assoc], by simp [E2, E3, E4, E8, E31, E32, E33, D0, D1, D3, D4, C0, C1, C3, A0, A1, A7, A8, Abs, hb2, hb3, Nat.add_assoc], (by simp [hb2, hb3]), by omega, (by rw [allTo_succ, ht5]; simp [stpOk, ho, stI, stK, stC]; omega)⟩
              · have hF2 : F = false := by
                  rw [← hF]
                  refine holds_false hi3 hk4 (plc_false 1 (by omega) ?_)
                  simp [stpOk, ho, stI, stK, stC]; omega
                repeat' (first | (refine wpc_split _ (fun hc => ?_) (fun hc => ?_) <;> (try simp at hc)) | (refine ww_split _ (fun hc => ?_) (fun hc => ?_) <;> (try simp at hc)) | (refine wp_drawF (by kernel_rfl) ?_) | (refine wk_yldW _ ?_) | (refine layOwe _ (by kernel_rfl) ?_) | (refine owe ?_ (fun ho => ?_)) | (simp (config := { maxSteps := 2000000 }) (disch := first | assumption | omega | (simp; done) | (simp; omega)) [A0, A1, A7, A8, Abs, C0, C1, C3, D0, D1, D3, D4, E2, E3, E4, E8, E31, E32, E33, hb3, hdec, hb9, hs9, eR, eI, r1, r3, app_at, app_at0, app_set, app_set0, Nat.add_assoc, -getElem?_pos, List.getElem?_cons_zero, List.getElem?_cons_succ]))
                all_goals first
                  | (exfalso; omega)
                  | rw [hF2]
          · cases ho : stO a b i k 3 with
            | false =>
              have hdec : decide (i < a.length) = false := by rw [← ho]; simp [stO]
              repeat' (first | (refine wpc_split _ (fun hc => ?_) (fun hc => ?_) <;> (try simp at hc)) | (refine ww_split _ (fun hc => ?_) (fun hc => ?_) <;> (try simp at hc)) | (refine wp_drawF (by kernel_rfl) ?_) | (refine wk_yldW _ ?_) | (refine layOwe _ (by kernel_rfl) ?_) | (refine owe ?_ (fun ho => ?_)) | (simp (config := { maxSteps := 2000000 }) (disch := first | assumption | omega | (simp; done) | (simp; omega)) [D0, D1, D3, D4, E2, E3, E4, E8, E31, E32, E33, hb3, hdec, hb9, hs9, app_at, app_at0, app_set, app_set0, Nat.add_assoc, -getElem?_pos, List.getElem?_cons_zero, List.getElem?_cons_succ]))
              exact Eih (Em - 1) _ _ (by omega) ⟨3, Z ++ [.cells [.int .i64 (i + 1), .int .i64 k]], by simp [E2, E3, E4, E8, E31, E32, E33, D0, D1, D3, D4, C0, C1, C3, A0, A1, A7, A8, Abs, hb2, hb3, Nat.add_assoc], by simp [E2, E3, E4, E8, E31, E32, E33, D0, D1, D3, D4, C0, C1, C3, A0, A1, A7, A8, Abs, hb2, hb3, Nat.add_assoc], by simp [E2, E3, E4, E8, E31, E32, E33, D0, D1, D3, D4, C0, C1, C3, A0, A1, A7, A8, Abs, hb2, hb3, Nat.add_assoc], by simp [E2, E3, E4, E8, E31, E32, E33, D0, D1, D3, D4, C0, C1, C3, A0, A1, A7, A8, Abs, hb2, hb3, Nat.add_assoc], by simp [E2, E3, E4, E8, E31, E32, E33, D0, D1, D3, D4, C0, C1, C3, A0, A1, A7, A8, Abs, hb2, hb3, Nat.add_assoc], by simp [E2, E3, E4, E8, E31, E32, E33, D0, D1, D3, D4, C0, C1, C3, A0, A1, A7, A8, Abs, hb2, hb3, Nat.add_assoc], by simp [E2, E3, E4, E8, E31, E32, E33, D0, D1, D3, D4, C0, C1, C3, A0, A1, A7, A8, Abs, hb2, hb3, Nat.add_assoc], (by simp [hb2, hb3]), by omega, (by rw [allTo_succ, ht5]; simp [stpOk, ho])⟩
            | true =>
              obtain ⟨i2, k2, e1, e2, e3, e4, e5, e6⟩ := st_bound ho hi3 hk4
              simp [stI] at e1
              simp [stK] at e2
              obtain rfl : i2 = i + 1 := by omega
              obtain rfl : k = k2 := by omega
              obtain ⟨r3, r4⟩ := hrw (i + 1) (by omega)
              have v2 := r4 (k) (by omega)
              have hdec : decide (i < a.length) = true := by rw [← ho]; simp [stO]
              by_cases hq : nth (nth p i) k ≤ 1 + nth (nth p (i + 1)) (k)
              · repeat' (first | (refine wpc_split _ (fun hc => ?_) (fun hc => ?_) <;> (try simp at hc)) | (refine ww_split _ (fun hc => ?_) (fun hc => ?_) <;> (try simp at hc)) | (refine wp_drawF (by kernel_rfl) ?_) | (refine wk_yldW _ ?_) | (refine layOwe _ (by kernel_rfl) ?_) | (refine owe ?_ (fun ho => ?_)) | (simp (config := { maxSteps := 2000000 }) (disch := first | assumption | omega | (simp; done) | (simp; omega)) [D0, D1, D3, D4, E2, E3, E4, E8, E31, E32, E33, hb3, hdec, hb9, hs9, eR, eI, r1, r3, app_at, app_at0, app_set, app_set0, Nat.add_assoc, -getElem?_pos, List.getElem?_cons_zero, List.getElem?_cons_succ]))
                all_goals first
                  | (exfalso; omega)
                  | exact Eih (Em - 1) _ _ (by omega) ⟨3, Z ++ [.cells [.int .i64 (i + 1), .int .i64 k]], by simp [E2, E3, E4, E8, E31, E32, E33, D0, D1, D3, D4, C0, C1, C3, A0, A1, A7, A8, Abs, hb2, hb3, Nat.add_assoc], by simp [E2, E3, E4, E8, E31, E32, E33, D0, D1, D3, D4, C0, C1, C3, A0, A1, A7, A8, Abs, hb2, hb3, Nat.add_assoc], by simp [E2, E3, E4, E8, E31, E32, E33, D0, D1, D3, D4, C0, C1, C3, A0, A1, A7, A8, Abs, hb2, hb3, Nat.add_assoc], by simp [E2, E3, E4, E8, E31, E32, E33, D0, D1, D3, D4, C0, C1, C3, A0, A1, A7, A8, Abs, hb2, hb3, Nat.add_assoc], by simp [E2, E3, E4, E8, E31, E32, E33, D0, D1, D3, D4, C0, C1, C3, A0, A1, A7, A8, Abs, hb2, hb3, Nat.add_assoc], by simp [E2, E3, E4, E8, E31, E32, E33, D0, D1, D3, D4, C0, C1, C3, A0, A1, A7, A8, Abs, hb2, hb3, Nat.add_assoc], by simp [E2, E3, E4, E8, E31, E32, E33, D0, D1, D3, D4, C0, C1, C3, A0, A1, A7, A8, Abs, hb2, hb3, Nat.add_assoc], (by simp [hb2, hb3]), by omega, (by rw [allTo_succ, ht5]; simp [stpOk, ho, stI, stK, stC]; omega)⟩
              · have hF2 : F = false := by
                  rw [← hF]
                  refine holds_false hi3 hk4 (plc_false 2 (by omega) ?_)
                  simp [stpOk, ho, stI, stK, stC]; omega
                repeat' (first | (refine wpc_split _ (fun hc => ?_) (fun hc => ?_) <;> (try simp at hc)) | (refine ww_split _ (fun hc => ?_) (fun hc => ?_) <;> (try simp at hc)) | (refine wp_drawF (by kernel_rfl) ?_) | (refine wk_yldW _ ?_) | (refine layOwe _ (by kernel_rfl) ?_) | (refine owe ?_ (fun ho => ?_)) | (simp (config := { maxSteps := 2000000 }) (disch := first | assumption | omega | (simp; done) | (simp; omega)) [A0, A1, A7, A8, Abs, C0, C1, C3, D0, D1, D3, D4, E2, E3, E4, E8, E31, E32, E33, hb3, hdec, hb9, hs9, eR, eI, r1, r3, app_at, app_at0, app_set, app_set0, Nat.add_assoc, -getElem?_pos, List.getElem?_cons_zero, List.getElem?_cons_succ]))
                all_goals first
                  | (exfalso; omega)
                  | rw [hF2]
          · cases ho : stO a b i k 4 with
            | false =>
              have hdec : decide (k < b.length) = false := by rw [← ho]; simp [stO]
              repeat' (first | (refine wpc_split _ (fun hc => ?_) (fun hc => ?_) <;> (try simp at hc)) | (refine ww_split _ (fun hc => ?_) (fun hc => ?_) <;> (try simp at hc)) | (refine wp_drawF (by kernel_rfl) ?_) | (refine wk_yldW _ ?_) | (refine layOwe _ (by kernel_rfl) ?_) | (refine owe ?_ (fun ho => ?_)) | (simp (config := { maxSteps := 2000000 }) (disch := first | assumption | omega | (simp; done) | (simp; omega)) [D0, D1, D3, D4, E2, E3, E4, E8, E31, E32, E33, hb3, hdec, hb9, hs9, app_at, app_at0, app_set, app_set0, Nat.add_assoc, -getElem?_pos, List.getElem?_cons_zero, List.getElem?_cons_succ]))
              exact Eih (Em - 1) _ _ (by omega) ⟨4, Z ++ [.cells [.int .i64 i, .int .i64 (k + 1)]], by simp [E2, E3, E4, E8, E31, E32, E33, D0, D1, D3, D4, C0, C1, C3, A0, A1, A7, A8, Abs, hb2, hb3, Nat.add_assoc], by simp [E2, E3, E4, E8, E31, E32, E33, D0, D1, D3, D4, C0, C1, C3, A0, A1, A7, A8, Abs, hb2, hb3, Nat.add_assoc], by simp [E2, E3, E4, E8, E31, E32, E33, D0, D1, D3, D4, C0, C1, C3, A0, A1, A7, A8, Abs, hb2, hb3, Nat.add_assoc], by simp [E2, E3, E4, E8, E31, E32, E33, D0, D1, D3, D4, C0, C1, C3, A0, A1, A7, A8, Abs, hb2, hb3, Nat.add_assoc], by simp [E2, E3, E4, E8, E31, E32, E33, D0, D1, D3, D4, C0, C1, C3, A0, A1, A7, A8, Abs, hb2, hb3, Nat.add_assoc], by simp [E2, E3, E4, E8, E31, E32, E33, D0, D1, D3, D4, C0, C1, C3, A0, A1, A7, A8, Abs, hb2, hb3, Nat.add_assoc], by simp [E2, E3, E4, E8, E31, E32, E33, D0, D1, D3, D4, C0, C1, C3, A0, A1, A7, A8, Abs, hb2, hb3, Nat.add_assoc], (by simp [hb2, hb3]), by omega, (by rw [allTo_succ, ht5]; simp [stpOk, ho])⟩
            | true =>
              obtain ⟨i2, k2, e1, e2, e3, e4, e5, e6⟩ := st_bound ho hi3 hk4
              simp [stI] at e1
              simp [stK] at e2
              obtain rfl : i = i2 := by omega
              obtain rfl : k2 = k + 1 := by omega
              obtain ⟨r3, r4⟩ := hrw (i) (by omega)
              have v2 := r4 (k + 1) (by omega)
              have hdec : decide (k < b.length) = true := by rw [← ho]; simp [stO]
              by_cases hq : nth (nth p i) k ≤ 1 + nth (nth p (i)) (k + 1)
              · repeat' (first | (refine wpc_split _ (fun hc => ?_) (fun hc => ?_) <;> (try simp at hc)) | (refine ww_split _ (fun hc => ?_) (fun hc => ?_) <;> (try simp at hc)) | (refine wp_drawF (by kernel_rfl) ?_) | (refine wk_yldW _ ?_) | (refine layOwe _ (by kernel_rfl) ?_) | (refine owe ?_ (fun ho => ?_)) | (simp (config := { maxSteps := 2000000 }) (disch := first | assumption | omega | (simp; done) | (simp; omega)) [D0, D1, D3, D4, E2, E3, E4, E8, E31, E32, E33, hb3, hdec, hb9, hs9, eR, eI, r1, r3, app_at, app_at0, app_set, app_set0, Nat.add_assoc, -getElem?_pos, List.getElem?_cons_zero, List.getElem?_cons_succ]))
                all_goals first
                  | (exfalso; omega)
                  | exact Eih (Em - 1) _ _ (by omega) ⟨4, Z ++ [.cells [.int .i64 i, .int .i64 (k + 1)]], by simp [E2, E3, E4, E8, E31, E32, E33, D0, D1, D3, D4, C0, C1, C3, A0, A1, A7, A8, Abs, hb2, hb3, Nat.add_assoc], by simp [E2, E3, E4, E8, E31, E32, E33, D0, D1, D3, D4, C0, C1, C3, A0, A1, A7, A8, Abs, hb2, hb3, Nat.add_assoc], by simp [E2, E3, E4, E8, E31, E32, E33, D0, D1, D3, D4, C0, C1, C3, A0, A1, A7, A8, Abs, hb2, hb3, Nat.add_assoc], by simp [E2, E3, E4, E8, E31, E32, E33, D0, D1, D3, D4, C0, C1, C3, A0, A1, A7, A8, Abs, hb2, hb3, Nat.add_assoc], by simp [E2, E3, E4, E8, E31, E32, E33, D0, D1, D3, D4, C0, C1, C3, A0, A1, A7, A8, Abs, hb2, hb3, Nat.add_assoc], by simp [E2, E3, E4, E8, E31, E32, E33, D0, D1, D3, D4, C0, C1, C3, A0, A1, A7, A8, Abs, hb2, hb3, Nat.add_assoc], by simp [E2, E3, E4, E8, E31, E32, E33, D0, D1, D3, D4, C0, C1, C3, A0, A1, A7, A8, Abs, hb2, hb3, Nat.add_assoc], (by simp [hb2, hb3]), by omega, (by rw [allTo_succ, ht5]; simp [stpOk, ho, stI, stK, stC]; omega)⟩
              · have hF2 : F = false := by
                  rw [← hF]
                  refine holds_false hi3 hk4 (plc_false 3 (by omega) ?_)
                  simp [stpOk, ho, stI, stK, stC]; omega
                repeat' (first | (refine wpc_split _ (fun hc => ?_) (fun hc => ?_) <;> (try simp at hc)) | (refine ww_split _ (fun hc => ?_) (fun hc => ?_) <;> (try simp at hc)) | (refine wp_drawF (by kernel_rfl) ?_) | (refine wk_yldW _ ?_) | (refine layOwe _ (by kernel_rfl) ?_) | (refine owe ?_ (fun ho => ?_)) | (simp (config := { maxSteps := 2000000 }) (disch := first | assumption | omega | (simp; done) | (simp; omega)) [A0, A1, A7, A8, Abs, C0, C1, C3, D0, D1, D3, D4, E2, E3, E4, E8, E31, E32, E33, hb3, hdec, hb9, hs9, eR, eI, r1, r3, app_at, app_at0, app_set, app_set0, Nat.add_assoc, -getElem?_pos, List.getElem?_cons_zero, List.getElem?_cons_succ]))
                all_goals first
                  | (exfalso; omega)
                  | rw [hF2]
          · have hpo : plcOk a b p i k = true := ht5
            repeat' (first | (refine wpc_split _ (fun hc => ?_) (fun hc => ?_) <;> (try simp at hc)) | (refine ww_split _ (fun hc => ?_) (fun hc => ?_) <;> (try simp at hc)) | (refine wp_drawF (by kernel_rfl) ?_) | (refine wk_yldW _ ?_) | (refine layOwe _ (by kernel_rfl) ?_) | (refine owe ?_ (fun ho => ?_)) | (simp (disch := first | assumption | omega | (simp; done) | (simp; omega)) [D0, D1, D3, D4, E2, E3, E4, E8, E31, E32, E33, hb3, -getElem?_pos, List.getElem?_cons_zero, List.getElem?_cons_succ]))
            exact Dih (Dm - 1) _ _ (by omega) ⟨k, Y ++ (.cells [.int .i64 i, .int .i64 k] :: Z), by simp [E2, E3, E4, E8, E31, E32, E33, D0, D1, D3, D4, C0, C1, C3, A0, A1, A7, A8, Abs, hb, hb2, hb3], by simp [E2, E3, E4, E8, E31, E32, E33, D0, D1, D3, D4, C0, C1, C3, A0, A1, A7, A8, Abs, hb, hb2, hb3], by simp [E2, E3, E4, E8, E31, E32, E33, D0, D1, D3, D4, C0, C1, C3, A0, A1, A7, A8, Abs, hb, hb2, hb3], by simp [E2, E3, E4, E8, E31, E32, E33, D0, D1, D3, D4, C0, C1, C3, A0, A1, A7, A8, Abs, hb, hb2, hb3], (by simp [hb, hb2, hb3]), by omega, by omega, fun k' h1 h2 => by (by_cases e : k' = k; (subst e; exact hpo); exact ht4 k' (by omega) h2)⟩
        · obtain rfl : q = 0 := by omega
          repeat' (first | (refine wpc_split _ (fun hc => ?_) (fun hc => ?_) <;> (try simp at hc)) | (refine ww_split _ (fun hc => ?_) (fun hc => ?_) <;> (try simp at hc)) | (refine wp_drawF (by kernel_rfl) ?_) | (refine wk_yldW _ ?_) | (refine layOwe _ (by kernel_rfl) ?_) | (refine owe ?_ (fun ho => ?_)) | (simp (disch := first | assumption | omega | (simp; done) | (simp; omega)) [C0, C1, C3, D0, D1, D3, D4, hb2, -getElem?_pos, List.getElem?_cons_zero, List.getElem?_cons_succ]))
          exact Cih (Cm - 1) _ _ (by omega) ⟨i, Y, by simp [D0, D1, D3, D4, C0, C1, C3, A0, A1, A7, A8, Abs, hb, hb2], by simp [D0, D1, D3, D4, C0, C1, C3, A0, A1, A7, A8, Abs, hb, hb2], by simp [D0, D1, D3, D4, C0, C1, C3, A0, A1, A7, A8, Abs, hb, hb2], (by simp [hb, hb2]), by omega, by omega, fun i' k' h1 h2 h3 => by (by_cases e : i' = i; (subst e; exact ht4 k' (Nat.zero_le _) h3); exact ht3 i' k' (by omega) h2 h3)⟩
      · obtain rfl : j = 0 := by omega
        have hF2 : F = true := by rw [← hF]; exact holds_true hsh (fun i k hi hk => ht3 i k (Nat.zero_le _) hi hk)
        repeat' (first | (refine wpc_split _ (fun hc => ?_) (fun hc => ?_) <;> (try simp at hc)) | (refine ww_split _ (fun hc => ?_) (fun hc => ?_) <;> (try simp at hc)) | (refine wp_drawF (by kernel_rfl) ?_) | (refine wk_yldW _ ?_) | (refine layOwe _ (by kernel_rfl) ?_) | (refine owe ?_ (fun ho => ?_)) | (simp (disch := first | assumption | omega | (simp; done) | (simp; omega)) [A0, A1, A7, A8, Abs, C0, C1, C3, hb, -getElem?_pos, List.getElem?_cons_zero, List.getElem?_cons_succ]))
        all_goals rw [hF2]
  · have hpi : ((p.length : Int) == (a.length : Int) + 1) = false := by simp; omega
    have hF2 : F = false := by
      rw [← hF]
      refine holds_shape ?_
      unfold shapeOk
      rw [decide_eq_false hpl]; rfl
    refine outS_of_wp cfg (fn := Tryd.f36) Tryd.func36 rfl (by simp [Tryd.f36]) ?_
    simp (disch := first | assumption | omega | (simp; done) | (simp; omega)) [-getElem?_pos, List.getElem?_cons_zero, List.getElem?_cons_succ, Tryd.f36, hpi, emptyH]
    repeat' (first | (refine wpc_split _ (fun hc => ?_) (fun hc => ?_) <;> (try simp at hc)) | (refine ww_split _ (fun hc => ?_) (fun hc => ?_) <;> (try simp at hc)) | (refine wp_drawF (by kernel_rfl) ?_) | (refine wk_yldW _ ?_) | (refine layOwe _ (by kernel_rfl) ?_) | (refine owe ?_ (fun ho => ?_)) | (simp (disch := first | assumption | omega | (simp; done) | (simp; omega)) [hpi, emptyH, -getElem?_pos, List.getElem?_cons_zero, List.getElem?_cons_succ]))
    all_goals first
      | (exfalso; omega)
      | rw [hF2]
@[simp] theorem S36 (a b : List (List UInt8)) (p : List (List Int)) (hs : a.length ≤ 64 ∧ b.length ≤ 64 ∧ p.length < 1099511627776) (hl : ∀ r ∈ p, r.length < 1099511627776) (q1 q2 q3 : Fl) (hh : Heap) : Ci cfg (.func (.func 36) [] []) [.agg [R  q1 eS a, R  q2 eS b], R  q3 (eR eI) p] hh = some (.ret (.bool (holdsS a b p)), hh) :=
  Ci_K cfg rfl rfl (by simp) (by simp) (C36 a b p hs hl)
end Go.Ab
