/- Layer 21 (align): the program's table of least costs. -/
import Derived.Test.YtackmibobdoecaaDoorA1
import Derived.Test.YtackmibobdoecaaDoorP21b
set_option linter.unusedVariables false
set_option linter.unusedSimpArgs false
set_option linter.unusedSectionVars false
set_option linter.deprecated false
namespace Go.Ab
open Go.Proofs
set_option maxRecDepth 100000
set_option maxHeartbeats 4000000
theorem eq_place {c : Bool} (i k i' k' : Int) : eqV Tryd.prog c 69 (.agg [.int .i64 i, .int .i64 k]) (.agg [.int .i64 i', .int .i64 k']) = some (i == i' && k == k') := by
  have h1 : (Tryd.prog.eqGuardType Tryd.prog.depth 69 || Tryd.prog.stoodInHeld 69) = false := by kernel_rfl
  unfold eqV
  simp [h1, eqFields, eqCell]
  cases i == i' <;> cases k == k' <;> rfl
theorem C41 (a b : List (List UInt8)) (hs : a.length ≤ 64 ∧ b.length ≤ 64) : Kc cfg 41 [.agg [R fl0 eS a, R fl0 eS b]] (.ret (R fl0 (eR eI) (tabF (a.length + 1) (b.length + 1) (T21 a b)))) := by
  generalize hT : tabF (a.length + 1) (b.length + 1) (T21 a b) = T
  obtain ⟨n, hn⟩ : ∃ n, n = a.length + 1 := ⟨_, rfl⟩
  obtain ⟨w, hw⟩ : ∃ w, w = b.length + 1 := ⟨_, rfl⟩
  have hni : (a.length : Int) + 1 = n := by omega
  have hwi : (b.length : Int) + 1 = w := by omega
  refine outS_of_wp cfg (fn := Tryd.f41) Tryd.func41 rfl (by simp [Tryd.f41]) ?_
  simp (disch := first | assumption | omega | (simp; done) | (simp; omega)) [-getElem?_pos, List.getElem?_cons_zero, List.getElem?_cons_succ, Tryd.f41, hni, hwi]
  repeat' (first | (refine wpc_split _ (fun hc => ?_) (fun hc => ?_) <;> (try simp at hc)) | (refine ww_split _ (fun hc => ?_) (fun hc => ?_) <;> (try simp at hc)) | (refine wp_drawF (by kernel_rfl) ?_) | (refine wk_yldW _ ?_) | (refine layOwe _ (by kernel_rfl) ?_) | (refine owe ?_ (fun ho => ?_)) | (simp (disch := first | assumption | omega | (simp; done) | (simp; omega)) [hni, hwi, Tryd.f63, repf_tab, -getElem?_pos, List.getElem?_cons_zero, List.getElem?_cons_succ]))
  refine wp_loopE cfg rfl (fun f0 h0 m fr h => ∃ i : Nat, fr 1 = f0 1 ∧ fr 3 = f0 3 ∧ fr 11 = f0 11 ∧ fr 12 = .int .i64 i ∧ (h.bs = h0.bs.take 2 ++ (Blk.cells (tab n (oC w i)) :: tbl i (fB w (fun _ _ => 0)))) ∧ (i + m = n)) (n) _ _ ⟨0, rfl, rfl, rfl, by first | rfl | (simp; done) | (simp [R]; done) | simp [R], by simp [← oC_zero, tbl, rep_tab], by first | rfl | (simp; done) | omega⟩ ?_
  rintro Am Af Ah ⟨i, A1, A3, A11, A12, hb, hm⟩ Aih
  try simp at A1 A3 A11
  simp at hb
  by_cases hi : i < n
  · repeat' (first | (refine wpc_split _ (fun hc => ?_) (fun hc => ?_) <;> (try simp at hc)) | (refine ww_split _ (fun hc => ?_) (fun hc => ?_) <;> (try simp at hc)) | (refine wp_drawF (by kernel_rfl) ?_) | (refine wk_yldW _ ?_) | (refine layOwe _ (by kernel_rfl) ?_) | (refine owe ?_ (fun ho => ?_)) | (simp (disch := first | assumption | omega | (simp; done) | (simp; omega)) [A1, A3, A11, A12, hb, repf_tab, hni, hwi, tab_get1, tab_set, Nat.add_assoc, -getElem?_pos, List.getElem?_cons_zero, List.getElem?_cons_succ]))
    exact Aih (Am - 1) _ _ (by omega) ⟨i + 1, by simp [A1, A3, A11, A12, hb], by simp [A1, A3, A11, A12, hb], by simp [A1, A3, A11, A12, hb], by simp [A1, A3, A11, A12, hb], (by simp [hb, oC_step, tbl_succ, fB_at, rep_tab]), by omega⟩
  · have hin : n = i := by omega
    subst hin
    clear Aih hm hi
    repeat' (first | (refine wpc_split _ (fun hc => ?_) (fun hc => ?_) <;> (try simp at hc)) | (refine ww_split _ (fun hc => ?_) (fun hc => ?_) <;> (try simp at hc)) | (refine wp_drawF (by kernel_rfl) ?_) | (refine wk_yldW _ ?_) | (refine layOwe _ (by kernel_rfl) ?_) | (refine owe ?_ (fun ho => ?_)) | (simp (disch := first | assumption | omega | (simp; done) | (simp; omega)) [A1, A3, A11, A12, hb, Nat.add_assoc, tbl_right, tbl_right0, tbl_setr, tbl_setr0, Tryd.f65, Tryd.f82, -getElem?_pos, List.getElem?_cons_zero, List.getElem?_cons_succ]))
    refine wp_loopE cfg rfl (fun f0 h0 m fr h => ∃ j : Nat, ∃ X : List Blk, fr 0 = f0 0 ∧ fr 1 = f0 1 ∧ fr 3 = .int .i64 ((j : Int) - 1) ∧ (h.bs = h0.bs.take 3 ++ (tbl n (fB w (gA a b j)) ++ (h0.bs.drop (n + 3) ++ X))) ∧ (m = j) ∧ (j ≤ n)) (n) _ _ ⟨n, [], rfl, rfl, by simp; omega, by simp [gA_init (a := a) (b := b) hn], by first | rfl | (simp; done) | omega, by first | rfl | (simp; done) | omega⟩ ?_
    rintro Bm Bf Bh ⟨j, X, B0, B1, B3, hb, hm, hj⟩ Bih
    try simp at B0 B1
    simp at hb
    by_cases hj0 : 0 < j
    · obtain ⟨i, rfl⟩ : ∃ i, j = i + 1 := ⟨j - 1, by omega⟩
      have hi : i ≤ a.length := by omega
      repeat' (first | (refine wpc_split _ (fun hc => ?_) (fun hc => ?_) <;> (try simp at hc)) | (refine ww_split _ (fun hc => ?_) (fun hc => ?_) <;> (try simp at hc)) | (refine wp_drawF (by kernel_rfl) ?_) | (refine wk_yldW _ ?_) | (refine layOwe _ (by kernel_rfl) ?_) | (refine owe ?_ (fun ho => ?_)) | (simp (disch := first | assumption | omega | (simp; done) | (simp; omega)) [B0, B1, B3, hb, Nat.add_assoc, tbl_right, tbl_right0, -getElem?_pos, List.getElem?_cons_zero, List.getElem?_cons_succ]))
      refine wp_loopE cfg rfl (fun f0 h0 m fr h => ∃ q : Nat, ∃ Y : List Blk, fr 0 = f0 0 ∧ fr 1 = f0 1 ∧ fr 3 = f0 3 ∧ fr 4 = .int .i64 ((q : Int) - 1) ∧ (h.bs = h0.bs.take 3 ++ (tbl n (fB w (gP a b i q)) ++ ((h0.bs.drop (n + 3)).take 6 ++ Y))) ∧ (m = q) ∧ (q ≤ w)) (w) _ _ ⟨w, X, rfl, rfl, rfl, by simp; omega, by simp [hb, gA_gP], by first | rfl | (simp; done) | omega, by first | rfl | (simp; done) | omega⟩ ?_
      rintro Cm Cf Ch ⟨q, Y, C0, C1, C3, C4, hb2, hm2, hq⟩ Cih
      try simp [B0, B1, B3] at C0 C1 C3
      simp [hb] at hb2
      by_cases hq0 : 0 < q
      · obtain ⟨k, rfl⟩ : ∃ k, q = k + 1 := ⟨q - 1, by omega⟩
        have hk : k ≤ b.length := by omega
        have hs2 : a.length < 1099511627776 ∧ b.length < 1099511627776 := by omega
        have u1 := T21_nonneg a b (i + 1) (k + 1)
        have u2 := T21_max a b (i + 1) (k + 1)
        have u3 := T21_nonneg a b (i + 1) k
        have u4 := T21_max a b (i + 1) k
        have u5 := T21_nonneg a b i (k + 1)
        have u6 := T21_max a b i (k + 1)
        have g1 : i < n := by omega
        have g2 : k < w := by omega
        have g5 : ¬ i + 1 = i := by omega
        have g6 : ¬ k + 1 = k := by omega
        have o1 : oC w n i = .slice (i + 3) 0 w 1 := oC_at g1
        by_cases he : i = a.length ∧ k = b.length
        · obtain ⟨rfl, rfl⟩ := he
          repeat' (first | (refine wpc_split _ (fun hc => ?_) (fun hc => ?_) <;> (try simp at hc)) | (refine ww_split _ (fun hc => ?_) (fun hc => ?_) <;> (try simp at hc)) | (refine wp_drawF (by kernel_rfl) ?_) | (refine wk_yldW _ ?_) | (refine layOwe _ (by kernel_rfl) ?_) | (refine owe ?_ (fun ho => ?_)) | (simp (disch := first | assumption | omega | (simp; done) | (simp; omega)) [C0, C1, C3, C4, hb2, Nat.add_assoc, tbl_right, tbl_right0, tb3, ts3, app_at, app_at0, eq_place, -getElem?_pos, List.getElem?_cons_zero, List.getElem?_cons_succ]))
          exact Cih (Cm - 1) _ _ (by omega) ⟨b.length, Y ++ [.cells [.int .i64 a.length, .int .i64 b.length]], by simp [C0, C1, C3, C4, B0, B1, B3, hb, hb2], by simp [C0, C1, C3, C4, B0, B1, B3, hb, hb2], by simp [C0, C1, C3, C4, B0, B1, B3, hb, hb2], by simp [C0, C1, C3, C4, B0, B1, B3, hb, hb2], (by simp [hb, hb2, tbl_end]), by omega, by omega⟩
        have hv := val21_last hs hi hk he
        have he2 : ((i : Int) == (a.length : Int) && (k : Int) == (b.length : Int)) = false := by
          rw [Bool.and_eq_false_iff]
          by_cases e : i = a.length
          · right; simp; omega
          · left; simp; omega
        repeat' (first | (refine wpc_split _ (fun hc => ?_) (fun hc => ?_) <;> (try simp at hc)) | (refine ww_split _ (fun hc => ?_) (fun hc => ?_) <;> (try simp at hc)) | (refine wp_drawF (by kernel_rfl) ?_) | (refine wk_yldW _ ?_) | (refine layOwe _ (by kernel_rfl) ?_) | (refine owe ?_ (fun ho => ?_)) | (simp (disch := first | assumption | omega | (simp; done) | (simp; omega)) [C0, C1, C3, C4, hb2, he2, Nat.add_assoc, tbl_right, tbl_right0, tb3, ts3, app_at, app_at0, app_set, app_set0, eq_place, Tryd.f64, tab_get1, tab_set, o1, tbl_get, tbl_get0, tbl_set, tbl_set0, fB_at, -getElem?_pos, List.getElem?_cons_zero, List.getElem?_cons_succ]))
        refine wp_loopE cfg rfl (fun f0 h0 m fr h => ∃ s : Nat, ∃ Z : List Blk, fr 1 = f0 1 ∧ fr 5 = f0 5 ∧ fr 6 = f0 6 ∧ fr 27 = f0 27 ∧ fr 28 = f0 28 ∧ fr 29 = .int .i64 s ∧ (h.bs = h0.bs.take 3 ++ (tbl n (updB (fB w (gP a b i (k + 1))) i (.cells (tab w (upd (fun k' => .int .i64 (gP a b i (k + 1) i k')) k (.int .i64 (val21 a b i k s)))))) ++ (h0.bs.drop (n + 3) ++ Z))) ∧ (s + m = 4)) (4) _ _ ⟨0, [], rfl, rfl, rfl, rfl, rfl, by first | rfl | (simp; done) | (simp [R]; done) | simp [R], by simp [hb2, Nat.add_assoc, val21], by first | rfl | (simp; done) | omega⟩ ?_
        rintro Dm Df Dh ⟨s, Z, D1, D5, D6, D27, D28, D29, hb3, hm3⟩ Dih
        try simp [C0, C1, C3, C4, B0, B1, B3] at D1 D5 D6 D27 D28
        simp [hb2, Nat.add_assoc] at hb3
        have hcs : s = 0 ∨ s = 1 ∨ s = 2 ∨ s = 3 ∨ s = 4 := by omega
        rcases hcs with rfl | rfl | rfl | rfl | rfl
        · by_cases c : i < a.length ∧ k < b.length ∧ nth a i = nth b k
          · obtain ⟨h1, h2, h3⟩ := c
            have c : i < a.length ∧ k < b.length ∧ nth a i = nth b k := ⟨h1, h2, h3⟩
            have g3 : i + 1 < n := by omega
            have g4 : k + 1 < w := by omega
            have o2 : oC w n (i + 1) = .slice (i + 1 + 3) 0 w 1 := oC_at g3
            repeat' (first | (refine wpc_split _ (fun hc => ?_) (fun hc => ?_) <;> (try simp at hc)) | (refine ww_split _ (fun hc => ?_) (fun hc => ?_) <;> (try simp at hc)) | (refine wp_drawF (by kernel_rfl) ?_) | (refine wk_yldW _ ?_) | (refine layOwe _ (by kernel_rfl) ?_) | (refine owe ?_ (fun ho => ?_)) | (simp (disch := first | assumption | omega | (simp; done) | (simp; omega)) [D1, D5, D6, D27, D28, D29, hb3, Nat.add_assoc, tbl_right, tbl_right0, tb3, ts3, tb11, ts11, app_at, app_at0, app_set, app_set0, Tryd.f64, tab_get1, tab_set, o1, tbl_get, tbl_get0, tbl_set, tbl_set0, updB_ne, upd_ne, fB_at, upd_upd, gP_down, gP_diag, gP_right, o2, h1, h2, h3, -getElem?_pos, List.getElem?_cons_zero, List.getElem?_cons_succ]))
            exact Dih (Dm - 1) _ _ (by omega) ⟨1, Z ++ [.cells [.int .i64 (i + 1), .int .i64 (k + 1)], .cells [.int .i64 i, .int .i64 k], .cells [.int .i64 i, .int .i64 k], .cells [.int .i64 (i + 1), .int .i64 (k + 1)]], by simp [D1, D5, D6, D27, D28, D29, C0, C1, C3, C4, B0, B1, B3, hb2, hb3, Nat.add_assoc], by simp [D1, D5, D6, D27, D28, D29, C0, C1, C3, C4, B0, B1, B3, hb2, hb3, Nat.add_assoc], by simp [D1, D5, D6, D27, D28, D29, C0, C1, C3, C4, B0, B1, B3, hb2, hb3, Nat.add_assoc], by simp [D1, D5, D6, D27, D28, D29, C0, C1, C3, C4, B0, B1, B3, hb2, hb3, Nat.add_assoc], by simp [D1, D5, D6, D27, D28, D29, C0, C1, C3, C4, B0, B1, B3, hb2, hb3, Nat.add_assoc], by simp [D1, D5, D6, D27, D28, D29, C0, C1, C3, C4, B0, B1, B3, hb2, hb3, Nat.add_assoc], (by simp [hb2, hb3, Nat.add_assoc, val21, va1, va2, va3, va4, c]), by omega⟩
          · have cf : (decide (i < a.length) && (decide (k < b.length) && decide (nth a i = nth b k))) = false := by
              rw [← Bool.not_eq_true]; intro e; apply c; simpa using e
            repeat' (first | (refine wpc_split _ (fun hc => ?_) (fun hc => ?_) <;> (try simp at hc)) | (refine ww_split _ (fun hc => ?_) (fun hc => ?_) <;> (try simp at hc)) | (refine wp_drawF (by kernel_rfl) ?_) | (refine wk_yldW _ ?_) | (refine layOwe _ (by kernel_rfl) ?_) | (refine owe ?_ (fun ho => ?_)) | (simp (disch := first | assumption | omega | (simp; done) | (simp; omega)) [D1, D5, D6, D27, D28, D29, hb3, Nat.add_assoc, tbl_right, tbl_right0, tb3, ts3, tb11, ts11, app_at, app_at0, app_set, app_set0, Tryd.f64, tab_get1, tab_set, o1, tbl_get, tbl_get0, tbl_set, tbl_set0, updB_ne, upd_ne, fB_at, upd_upd, gP_down, gP_diag, gP_right, cf, -getElem?_pos, List.getElem?_cons_zero, List.getElem?_cons_succ]))
            exact Dih (Dm - 1) _ _ (by omega) ⟨1, Z ++ [.cells [.int .i64 (i + 1), .int .i64 (k + 1)]], by simp [D1, D5, D6, D27, D28, D29, C0, C1, C3, C4, B0, B1, B3, hb2, hb3, Nat.add_assoc], by simp [D1, D5, D6, D27, D28, D29, C0, C1, C3, C4, B0, B1, B3, hb2, hb3, Nat.add_assoc], by simp [D1, D5, D6, D27, D28, D29, C0, C1, C3, C4, B0, B1, B3, hb2, hb3, Nat.add_assoc], by simp [D1, D5, D6, D27, D28, D29, C0, C1, C3, C4, B0, B1, B3, hb2, hb3, Nat.add_assoc], by simp [D1, D5, D6, D27, D28, D29, C0, C1, C3, C4, B0, B1, B3, hb2, hb3, Nat.add_assoc], by simp [D1, D5, D6, D27, D28, D29, C0, C1, C3, C4, B0, B1, B3, hb2, hb3, Nat.add_assoc], (by simp [hb2, hb3, Nat.add_assoc, val21, va1, va2, va3, va4, c]), by omega⟩
        · by_cases c : i < a.length ∧ k < b.length ∧ ¬ nth a i = nth b k
          · obtain ⟨h1, h2, h3⟩ := c
            have c : i < a.length ∧ k < b.length ∧ ¬ nth a i = nth b k := ⟨h1, h2, h3⟩
            have g3 : i + 1 < n := by omega
            have g4 : k + 1 < w := by omega
            have o2 : oC w n (i + 1) = .slice (i + 1 + 3) 0 w 1 := oC_at g3
            repeat' (first | (refine wpc_split _ (fun hc => ?_) (fun hc => ?_) <;> (try simp at hc)) | (refine ww_split _ (fun hc => ?_) (fun hc => ?_) <;> (try simp at hc)) | (refine wp_drawF (by kernel_rfl) ?_) | (refine wk_yldW _ ?_) | (refine layOwe _ (by kernel_rfl) ?_) | (refine owe ?_ (fun ho => ?_)) | (simp (disch := first | assumption | omega | (simp; done) | (simp; omega)) [D1, D5, D6, D27, D28, D29, hb3, Nat.add_assoc, tbl_right, tbl_right0, tb3, ts3, tb11, ts11, app_at, app_at0, app_set, app_set0, Tryd.f64, tab_get1, tab_set, o1, tbl_get, tbl_get0, tbl_set, tbl_set0, updB_ne, upd_ne, fB_at, upd_upd, gP_down, gP_diag, gP_right, o2, h1, h2, h3, -getElem?_pos, List.getElem?_cons_zero, List.getElem?_cons_succ]))
            exact Dih (Dm - 1) _ _ (by omega) ⟨2, Z ++ [.cells [.int .i64 (i + 1), .int .i64 (k + 1)], .cells [.int .i64 i, .int .i64 k], .cells [.int .i64 i, .int .i64 k], .cells [.int .i64 (i + 1), .int .i64 (k + 1)]], by simp [D1, D5, D6, D27, D28, D29, C0, C1, C3, C4, B0, B1, B3, hb2, hb3, Nat.add_assoc], by simp [D1, D5, D6, D27, D28, D29, C0, C1, C3, C4, B0, B1, B3, hb2, hb3, Nat.add_assoc], by simp [D1, D5, D6, D27, D28, D29, C0, C1, C3, C4, B0, B1, B3, hb2, hb3, Nat.add_assoc], by simp [D1, D5, D6, D27, D28, D29, C0, C1, C3, C4, B0, B1, B3, hb2, hb3, Nat.add_assoc], by simp [D1, D5, D6, D27, D28, D29, C0, C1, C3, C4, B0, B1, B3, hb2, hb3, Nat.add_assoc], by simp [D1, D5, D6, D27, D28, D29, C0, C1, C3, C4, B0, B1, B3, hb2, hb3, Nat.add_assoc], (by simp [hb2, hb3, Nat.add_assoc, val21, va1, va2, va3, va4, c]), by omega⟩
          · have cf : (decide (i < a.length) && (decide (k < b.length) && !decide (nth a i = nth b k))) = false := by
              rw [← Bool.not_eq_true]; intro e; apply c; simpa using e
            repeat' (first | (refine wpc_split _ (fun hc => ?_) (fun hc => ?_) <;> (try simp at hc)) | (refine ww_split _ (fun hc => ?_) (fun hc => ?_) <;> (try simp at hc)) | (refine wp_drawF (by kernel_rfl) ?_) | (refine wk_yldW _ ?_) | (refine layOwe _ (by kernel_rfl) ?_) | (refine owe ?_ (fun ho => ?_)) | (simp (disch := first | assumption | omega | (simp; done) | (simp; omega)) [D1, D5, D6, D27, D28, D29, hb3, Nat.add_assoc, tbl_right, tbl_right0, tb3, ts3, tb11, ts11, app_at, app_at0, app_set, app_set0, Tryd.f64, tab_get1, tab_set, o1, tbl_get, tbl_get0, tbl_set, tbl_set0, updB_ne, upd_ne, fB_at, upd_upd, gP_down, gP_diag, gP_right, cf, -getElem?_pos, List.getElem?_cons_zero, List.getElem?_cons_succ]))
            exact Dih (Dm - 1) _ _ (by omega) ⟨2, Z ++ [.cells [.int .i64 (i + 1), .int .i64 (k + 1)]], by simp [D1, D5, D6, D27, D28, D29, C0, C1, C3, C4, B0, B1, B3, hb2, hb3, Nat.add_assoc], by simp [D1, D5, D6, D27, D28, D29, C0, C1, C3, C4, B0, B1, B3, hb2, hb3, Nat.add_assoc], by simp [D1, D5, D6, D27, D28, D29, C0, C1, C3, C4, B0, B1, B3, hb2, hb3, Nat.add_assoc], by simp [D1, D5, D6, D27, D28, D29, C0, C1, C3, C4, B0, B1, B3, hb2, hb3, Nat.add_assoc], by simp [D1, D5, D6, D27, D28, D29, C0, C1, C3, C4, B0, B1, B3, hb2, hb3, Nat.add_assoc], by simp [D1, D5, D6, D27, D28, D29, C0, C1, C3, C4, B0, B1, B3, hb2, hb3, Nat.add_assoc], (by simp [hb2, hb3, Nat.add_assoc, val21, va1, va2, va3, va4, c]), by omega⟩
        · by_cases c : i < a.length
          · have g3 : i + 1 < n := by omega
            have o2 : oC w n (i + 1) = .slice (i + 1 + 3) 0 w 1 := oC_at g3
            repeat' (first | (refine wpc_split _ (fun hc => ?_) (fun hc => ?_) <;> (try simp at hc)) | (refine ww_split _ (fun hc => ?_) (fun hc => ?_) <;> (try simp at hc)) | (refine wp_drawF (by kernel_rfl) ?_) | (refine wk_yldW _ ?_) | (refine layOwe _ (by kernel_rfl) ?_) | (refine owe ?_ (fun ho => ?_)) | (simp (disch := first | assumption | omega | (simp; done) | (simp; omega)) [D1, D5, D6, D27, D28, D29, hb3, Nat.add_assoc, tbl_right, tbl_right0, tb3, ts3, tb11, ts11, app_at, app_at0, app_set, app_set0, Tryd.f64, tab_get1, tab_set, o1, tbl_get, tbl_get0, tbl_set, tbl_set0, updB_ne, upd_ne, fB_at, upd_upd, gP_down, gP_diag, gP_right, o2, c, -getElem?_pos, List.getElem?_cons_zero, List.getElem?_cons_succ]))
            exact Dih (Dm - 1) _ _ (by omega) ⟨3, Z ++ [.cells [.int .i64 (i + 1), .int .i64 k], .cells [.int .i64 i, .int .i64 k], .cells [.int .i64 i, .int .i64 k], .cells [.int .i64 (i + 1), .int .i64 k]], by simp [D1, D5, D6, D27, D28, D29, C0, C1, C3, C4, B0, B1, B3, hb2, hb3, Nat.add_assoc], by simp [D1, D5, D6, D27, D28, D29, C0, C1, C3, C4, B0, B1, B3, hb2, hb3, Nat.add_assoc], by simp [D1, D5, D6, D27, D28, D29, C0, C1, C3, C4, B0, B1, B3, hb2, hb3, Nat.add_assoc], by simp [D1, D5, D6, D27, D28, D29, C0, C1, C3, C4, B0, B1, B3, hb2, hb3, Nat.add_assoc], by simp [D1, D5, D6, D27, D28, D29, C0, C1, C3, C4, B0, B1, B3, hb2, hb3, Nat.add_assoc], by simp [D1, D5, D6, D27, D28, D29, C0, C1, C3, C4, B0, B1, B3, hb2, hb3, Nat.add_assoc], (by simp [hb2, hb3, Nat.add_assoc, val21, va1, va2, va3, va4, c]), by omega⟩
          · repeat' (first | (refine wpc_split _ (fun hc => ?_) (fun hc => ?_) <;> (try simp at hc)) | (refine ww_split _ (fun hc => ?_) (fun hc => ?_) <;> (try simp at hc)) | (refine wp_drawF (by kernel_rfl) ?_) | (refine wk_yldW _ ?_) | (refine layOwe _ (by kernel_rfl) ?_) | (refine owe ?_ (fun ho => ?_)) | (simp (disch := first | assumption | omega | (simp; done) | (simp; omega)) [D1, D5, D6, D27, D28, D29, hb3, Nat.add_assoc, tbl_right, tbl_right0, tb3, ts3, tb11, ts11, app_at, app_at0, app_set, app_set0, Tryd.f64, tab_get1, tab_set, o1, tbl_get, tbl_get0, tbl_set, tbl_set0, updB_ne, upd_ne, fB_at, upd_upd, gP_down, gP_diag, gP_right, c, -getElem?_pos, List.getElem?_cons_zero, List.getElem?_cons_succ]))
            exact Dih (Dm - 1) _ _ (by omega) ⟨3, Z ++ [.cells [.int .i64 (i + 1), .int .i64 k]], by simp [D1, D5, D6, D27, D28, D29, C0, C1, C3, C4, B0, B1, B3, hb2, hb3, Nat.add_assoc], by simp [D1, D5, D6, D27, D28, D29, C0, C1, C3, C4, B0, B1, B3, hb2, hb3, Nat.add_assoc], by simp [D1, D5, D6, D27, D28, D29, C0, C1, C3, C4, B0, B1, B3, hb2, hb3, Nat.add_assoc], by simp [D1, D5, D6, D27, D28, D29, C0, C1, C3, C4, B0, B1, B3, hb2, hb3, Nat.add_assoc], by simp [D1, D5, D6, D27, D28, D29, C0, C1, C3, C4, B0, B1, B3, hb2, hb3, Nat.add_assoc], by simp [D1, D5, D6, D27, D28, D29, C0, C1, C3, C4, B0, B1, B3, hb2, hb3, Nat.add_assoc], (by simp [hb2, hb3, Nat.add_assoc, val21, va1, va2, va3, va4, c]), by omega⟩
        · by_cases c : k < b.length
          · have g4 : k + 1 < w := by omega
            repeat' (first | (refine wpc_split _ (fun hc => ?_) (fun hc => ?_) <;> (try simp at hc)) | (refine ww_split _ (fun hc => ?_) (fun hc => ?_) <;> (try simp at hc)) | (refine wp_drawF (by kernel_rfl) ?_) | (refine wk_yldW _ ?_) | (refine layOwe _ (by kernel_rfl) ?_) | (refine owe ?_ (fun ho => ?_)) | (simp (disch := first | assumption | omega | (simp; done) | (simp; omega)) [D1, D5, D6, D27, D28, D29, hb3, Nat.add_assoc, tbl_right, tbl_right0, tb3, ts3, tb11, ts11, app_at, app_at0, app_set, app_set0, Tryd.f64, tab_get1, tab_set, o1, tbl_get, tbl_get0, tbl_set, tbl_set0, updB_ne, upd_ne, fB_at, upd_upd, gP_down, gP_diag, gP_right, c, -getElem?_pos, List.getElem?_cons_zero, List.getElem?_cons_succ]))
            exact Dih (Dm - 1) _ _ (by omega) ⟨4, Z ++ [.cells [.int .i64 i, .int .i64 (k + 1)], .cells [.int .i64 i, .int .i64 k], .cells [.int .i64 i, .int .i64 k], .cells [.int .i64 i, .int .i64 (k + 1)]], by simp [D1, D5, D6, D27, D28, D29, C0, C1, C3, C4, B0, B1, B3, hb2, hb3, Nat.add_assoc], by simp [D1, D5, D6, D27, D28, D29, C0, C1, C3, C4, B0, B1, B3, hb2, hb3, Nat.add_assoc], by simp [D1, D5, D6, D27, D28, D29, C0, C1, C3, C4, B0, B1, B3, hb2, hb3, Nat.add_assoc], by simp [D1, D5, D6, D27, D28, D29, C0, C1, C3, C4, B0, B1, B3, hb2, hb3, Nat.add_assoc], by simp [D1, D5, D6, D27, D28, D29, C0, C1, C3, C4, B0, B1, B3, hb2, hb3, Nat.add_assoc], by simp [D1, D5, D6, D27, D28, D29, C0, C1, C3, C4, B0, B1, B3, hb2, hb3, Nat.add_assoc], (by simp [hb2, hb3, Nat.add_assoc, val21, va1, va2, va3, va4, c]), by omega⟩
          · repeat' (first | (refine wpc_split _ (fun hc => ?_) (fun hc => ?_) <;> (try simp at hc)) | (refine ww_split _ (fun hc => ?_) (fun hc => ?_) <;> (try simp at hc)) | (refine wp_drawF (by kernel_rfl) ?_) | (refine wk_yldW _ ?_) | (refine layOwe _ (by kernel_rfl) ?_) | (refine owe ?_ (fun ho => ?_)) | (simp (disch := first | assumption | omega | (simp; done) | (simp; omega)) [D1, D5, D6, D27, D28, D29, hb3, Nat.add_assoc, tbl_right, tbl_right0, tb3, ts3, tb11, ts11, app_at, app_at0, app_set, app_set0, Tryd.f64, tab_get1, tab_set, o1, tbl_get, tbl_get0, tbl_set, tbl_set0, updB_ne, upd_ne, fB_at, upd_upd, gP_down, gP_diag, gP_right, c, -getElem?_pos, List.getElem?_cons_zero, List.getElem?_cons_succ]))
            exact Dih (Dm - 1) _ _ (by omega) ⟨4, Z ++ [.cells [.int .i64 i, .int .i64 (k + 1)]], by simp [D1, D5, D6, D27, D28, D29, C0, C1, C3, C4, B0, B1, B3, hb2, hb3, Nat.add_assoc], by simp [D1, D5, D6, D27, D28, D29, C0, C1, C3, C4, B0, B1, B3, hb2, hb3, Nat.add_assoc], by simp [D1, D5, D6, D27, D28, D29, C0, C1, C3, C4, B0, B1, B3, hb2, hb3, Nat.add_assoc], by simp [D1, D5, D6, D27, D28, D29, C0, C1, C3, C4, B0, B1, B3, hb2, hb3, Nat.add_assoc], by simp [D1, D5, D6, D27, D28, D29, C0, C1, C3, C4, B0, B1, B3, hb2, hb3, Nat.add_assoc], by simp [D1, D5, D6, D27, D28, D29, C0, C1, C3, C4, B0, B1, B3, hb2, hb3, Nat.add_assoc], (by simp [hb2, hb3, Nat.add_assoc, val21, va1, va2, va3, va4, c]), by omega⟩
        · repeat' (first | (refine wpc_split _ (fun hc => ?_) (fun hc => ?_) <;> (try simp at hc)) | (refine ww_split _ (fun hc => ?_) (fun hc => ?_) <;> (try simp at hc)) | (refine wp_drawF (by kernel_rfl) ?_) | (refine wk_yldW _ ?_) | (refine layOwe _ (by kernel_rfl) ?_) | (refine owe ?_ (fun ho => ?_)) | (simp (disch := first | assumption | omega | (simp; done) | (simp; omega)) [C0, C1, C3, C4, D1, D5, D6, D27, D28, D29, hb3, Nat.add_assoc, tbl_right, tbl_right0, tb3, ts3, tb11, ts11, app_at, app_at0, app_set, app_set0, Tryd.f64, tab_get1, tab_set, o1, tbl_get, tbl_get0, tbl_set, tbl_set0, updB_ne, upd_ne, fB_at, upd_upd, gP_down, gP_diag, gP_right, -getElem?_pos, List.getElem?_cons_zero, List.getElem?_cons_succ]))
          have hst := fB_step (a := a) (b := b) (m := w) (i := i) (k := k) hv
          exact Cih (Cm - 1) _ _ (by omega) ⟨k, Y ++ (.cells [.int .i64 i, .int .i64 k] :: .cells [.int .i64 i, .int .i64 k] :: Z), by simp [D1, D5, D6, D27, D28, D29, C0, C1, C3, C4, B0, B1, B3, hb, hb2, hb3], by simp [D1, D5, D6, D27, D28, D29, C0, C1, C3, C4, B0, B1, B3, hb, hb2, hb3], by simp [D1, D5, D6, D27, D28, D29, C0, C1, C3, C4, B0, B1, B3, hb, hb2, hb3], by simp [D1, D5, D6, D27, D28, D29, C0, C1, C3, C4, B0, B1, B3, hb, hb2, hb3], (by simp [hb, hb2, hb3, hst]), by omega, by omega⟩
      · obtain rfl : q = 0 := by omega
        repeat' (first | (refine wpc_split _ (fun hc => ?_) (fun hc => ?_) <;> (try simp at hc)) | (refine ww_split _ (fun hc => ?_) (fun hc => ?_) <;> (try simp at hc)) | (refine wp_drawF (by kernel_rfl) ?_) | (refine wk_yldW _ ?_) | (refine layOwe _ (by kernel_rfl) ?_) | (refine owe ?_ (fun ho => ?_)) | (simp (disch := first | assumption | omega | (simp; done) | (simp; omega)) [C0, C1, C3, C4, hb2, Nat.add_assoc, tbl_right, tbl_right0, -getElem?_pos, List.getElem?_cons_zero, List.getElem?_cons_succ]))
        exact Bih (Bm - 1) _ _ (by omega) ⟨i, Y, by simp [C0, C1, C3, C4, B0, B1, B3], by simp [C0, C1, C3, C4, B0, B1, B3], by simp [C0, C1, C3, C4, B0, B1, B3], (by rw [← gP_zero]; simp [hb, hb2]), by omega, by omega⟩
    · obtain rfl : j = 0 := by omega
      repeat' (first | (refine wpc_split _ (fun hc => ?_) (fun hc => ?_) <;> (try simp at hc)) | (refine ww_split _ (fun hc => ?_) (fun hc => ?_) <;> (try simp at hc)) | (refine wp_drawF (by kernel_rfl) ?_) | (refine wk_yldW _ ?_) | (refine layOwe _ (by kernel_rfl) ?_) | (refine owe ?_ (fun ho => ?_)) | (simp (disch := first | assumption | omega | (simp; done) | (simp; omega)) [B0, B1, B3, hb, Nat.add_assoc, tbl_right, tbl_right0, -getElem?_pos, List.getElem?_cons_zero, List.getElem?_cons_succ]))
      rw [← hT, ← hn, ← hw]
      refine outS_tab (E := eI) (by simp) (tabH_of (f := oC w n) (b := fun i => i + 3) (by simp) (fun i hi => ⟨oC_at hi, by simp [tbl_get hi, fB_at, gA_zero]⟩))
@[simp] theorem S41 (a b : List (List UInt8)) (hs : a.length ≤ 64 ∧ b.length ≤ 64) (q1 q2 : Fl) (hh : Heap) : Ci cfg (.func (.func 41) [] []) [.agg [R  q1 eS a, R  q2 eS b]] hh = some (.ret (R fl0 (eR eI) (tabF (a.length + 1) (b.length + 1) (T21 a b))), hh) :=
  Ci_K cfg rfl rfl (by simp) (by simp) (C41 a b hs)
end Go.Ab
