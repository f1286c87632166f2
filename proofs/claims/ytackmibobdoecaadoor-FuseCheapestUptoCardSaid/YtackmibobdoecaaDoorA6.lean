/- Layer 21 (align): the program's Align and Prove. -/
import Derived.Test.YtackmibobdoecaaDoorA4
set_option linter.unusedVariables false
set_option linter.unusedSimpArgs false
set_option linter.unusedSectionVars false
set_option linter.deprecated false
namespace Go.Ab
open Go.Proofs
set_option maxRecDepth 100000
set_option maxHeartbeats 4000000
attribute [local simp] typeAssertV
@[simp] theorem Dcaught_no (a : Nat) (h : Heap) : Di cfg (.func (.func 39) [] []) [.ptr a 0] h .no = some (h, .no) := by
  refine Di_of_wp cfg (fn := Tryd.f39) Tryd.func39 rfl (by simp [Tryd.f39]) ?_
  simp (disch := first | assumption | omega | (simp; done) | (simp; omega)) [-getElem?_pos, List.getElem?_cons_zero, List.getElem?_cons_succ, Tryd.f39]
theorem Dcaught_pan (e x : V) (bs : List Blk) (ts : List (Option Nat)) (hx : x.cellsO = some [x]) :
    Di cfg (.func (.func 39) [] []) [.ptr 0 0] ⟨.cells [e] :: bs, ts⟩ (.pan (.iface 25 x)) = some (⟨.cells [x] :: bs, ts⟩, .got (.iface 25 x)) := by
  refine Di_of_wp cfg (fn := Tryd.f39) Tryd.func39 rfl (by simp [Tryd.f39]) ?_
  simp (disch := first | assumption | omega | (simp; done) | (simp; omega)) [-getElem?_pos, List.getElem?_cons_zero, List.getElem?_cons_succ, Tryd.f39, hx]
@[simp] theorem Dcaught_int (e : V) (n : Int) (bs : List Blk) (ts : List (Option Nat)) :
    Di cfg (.func (.func 39) [] []) [.ptr 0 0] ⟨.cells [e] :: bs, ts⟩ (.pan (.iface 25 (.int .i64 n))) = some (⟨.cells [.int .i64 n] :: bs, ts⟩, .got (.iface 25 (.int .i64 n))) := Dcaught_pan e _ bs ts rfl
theorem xb3 {b0 b1 y : Blk} {X L : List Blk} {j : Nat} : (b0 :: b1 :: (X ++ y :: L))[X.length + (j + 3)]? = L[j]? := by
  rw [show X.length + (j + 3) = X.length + (j + 1) + 2 by omega]
  simp only [List.getElem?_cons_succ, app_at]
theorem xs3 {b0 b1 y x : Blk} {X L : List Blk} {j : Nat} : (b0 :: b1 :: (X ++ y :: L)).set (X.length + (j + 3)) x = b0 :: b1 :: (X ++ y :: L.set j x) := by
  rw [show X.length + (j + 3) = X.length + (j + 1) + 2 by omega]
  simp only [List.set_cons_succ, app_set]
def prS (a b : List (List UInt8)) : List (List Int) × Int := if errS a b = 0 then (tabF (a.length + 1) (b.length + 1) (T21 a b), 0) else ([], errS a b)
theorem C23 (a b : List (List UInt8)) (hs : a.length < 1099511627776 ∧ b.length < 1099511627776) (ha : ∀ x ∈ a, x.length < 1099511627776) (hb : ∀ x ∈ b, x.length < 1099511627776) : Kc cfg 23 [R fl0 eS a, R fl0 eS b] (.ret (.tuple [R fl0 eI (alS a b).1, .int .i64 (alS a b).2.1, .int .i64 (alS a b).2.2])) := by
  by_cases he : errS a b = 0
  · have h64 := errS_ok he
    have hA : alS a b = (alignF a b, T21 a b 0 0, 0) := by unfold alS; rw [if_pos he]
    rw [hA]
    have hrow := fun i k => T21_row (a := a) (b := b) (i := i) (k := k)
    have hrl := fun i => T21_rowl (a := a) (b := b) (i := i)
    have htl : (tabF (a.length + 1) (b.length + 1) (T21 a b)).length = a.length + 1 := by simp
    generalize hT : tabF (a.length + 1) (b.length + 1) (T21 a b) = T at *
    generalize hF : alignF a b = F
    generalize h00 : T21 a b 0 0 = G
    refine outS_of_wp cfg (fn := Tryd.f23) Tryd.func23 rfl (by simp [Tryd.f23]) ?_
    simp (disch := first | assumption | omega | (simp; done) | (simp; omega)) [-getElem?_pos, List.getElem?_cons_zero, List.getElem?_cons_succ, Tryd.f23, he, hT, emptyH]
    repeat' (first | (refine wpc_split _ (fun hc => ?_) (fun hc => ?_) <;> (try simp at hc)) | (refine ww_split _ (fun hc => ?_) (fun hc => ?_) <;> (try simp at hc)) | (refine wp_drawF (by kernel_rfl) ?_) | (refine wk_yldW _ ?_) | (refine layOwe _ (by kernel_rfl) ?_) | (refine owe ?_ (fun ho => ?_)) | (simp (disch := first | assumption | omega | (simp; done) | (simp; omega)) [he, hT, eq_place, emptyH, -getElem?_pos, List.getElem?_cons_zero, List.getElem?_cons_succ]))
    refine wp_loopE cfg rfl (fun f0 h0 m fr h => ∃ i : Nat, ∃ k : Nat, ∃ out : List Int, ∃ fl : Fl, ∃ X : List Blk, fr 6 = f0 6 ∧ fr 7 = f0 7 ∧ fr 8 = f0 8 ∧ fr 9 = f0 9 ∧ fr 10 = .ptr (X.length + 2) 0 ∧ fr 4 = R fl eI out ∧ (h.bs = h0.bs.take 2 ++ (X ++ [.cells [.int .i64 i, .int .i64 k]])) ∧ (App h.ts 1 fl) ∧ (i ≤ a.length ∧ k ≤ b.length ∧ out.length ≤ i + k) ∧ (a.length + b.length ≤ m + (i + k)) ∧ (out ++ alignF (a.drop i) (b.drop k) = F)) (a.length + b.length) _ _ ⟨0, 0, [], (true, true, none), [], rfl, rfl, rfl, rfl, by first | rfl | (simp; done) | (simp [R]; done) | simp [R], by first | rfl | (simp; done) | (simp [R]; done) | simp [R], by first | rfl | (simp; done) | omega, App.nil _ _ _, by simp, by first | rfl | (simp; done) | omega, by simpa using hF⟩ ?_
    rintro Am Af Ah ⟨i, k, out, fl, X, A6, A7, A8, A9, A10, A4, hb, hap, hik, hm, ho⟩ Aih
    try simp at A6 A7 A8 A9
    simp at hb
    by_cases he2 : i = a.length ∧ k = b.length
    · have hd := (alF_drop a b i k hik.1 hik.2.1).1 he2
      rw [hd, List.append_nil] at ho
      subst ho
      have h1 : (i : Int) = a.length := by omega
      have h2 : (k : Int) = b.length := by omega
      have hr0 := hrow 0 0 (Nat.zero_le _) (Nat.zero_le _)
      have hl0 := hrl 0 (Nat.zero_le _)
      repeat' (first | (refine wpc_split _ (fun hc => ?_) (fun hc => ?_) <;> (try simp at hc)) | (refine ww_split _ (fun hc => ?_) (fun hc => ?_) <;> (try simp at hc)) | (refine wp_drawF (by kernel_rfl) ?_) | (refine wk_yldW _ ?_) | (refine layOwe _ (by kernel_rfl) ?_) | (refine owe ?_ (fun ho => ?_)) | (simp (disch := first | assumption | omega | (simp; done) | (simp; omega)) [A6, A7, A8, A9, A10, A4, hb, h1, h2, eR, eI, hr0, hl0, h00, eq_place, app_at, app_at0, -getElem?_pos, List.getElem?_cons_zero, List.getElem?_cons_succ]))
      try rfl
    · obtain ⟨s, i', k', hd, s1, s4, so, si, sk, bi, bk, hT2, hno, hgt⟩ := (alF_drop a b i k hik.1 hik.2.1).2 he2
      rw [hd] at ho
      have hri := hrl i hik.1
      have hr00 := hrow i k hik.1 hik.2.1
      have he3 : ((i : Int) == (a.length : Int) && (k : Int) == (b.length : Int)) = false := by
        rw [Bool.and_eq_false_iff]
        by_cases e : i = a.length
        · right; simp; omega
        · left; simp; omega
      repeat' (first | (refine wpc_split _ (fun hc => ?_) (fun hc => ?_) <;> (try simp at hc)) | (refine ww_split _ (fun hc => ?_) (fun hc => ?_) <;> (try simp at hc)) | (refine wp_drawF (by kernel_rfl) ?_) | (refine wk_yldW _ ?_) | (refine layOwe _ (by kernel_rfl) ?_) | (refine owe ?_ (fun ho => ?_)) | (simp (disch := first | assumption | omega | (simp; done) | (simp; omega)) [A6, A7, A8, A9, A10, A4, hb, he3, eq_place, app_at, app_at0, -getElem?_pos, List.getElem?_cons_zero, List.getElem?_cons_succ]))
      refine wp_loopE cfg rfl (fun f0 h0 m fr h => ∃ t : Nat, ∃ BX : List Blk, fr 4 = f0 4 ∧ fr 6 = f0 6 ∧ fr 7 = f0 7 ∧ fr 8 = f0 8 ∧ fr 9 = f0 9 ∧ fr 10 = f0 10 ∧ fr 27 = f0 27 ∧ fr 28 = f0 28 ∧ fr 29 = .int .i64 t ∧ h.bs = h0.bs ++ BX ∧ (App h.ts 1 fl) ∧ (t < s) ∧ (m + t = 4)) (4) _ _ ⟨0, [], rfl, rfl, rfl, rfl, rfl, rfl, rfl, rfl, by first | rfl | (simp; done) | (simp [R]; done) | simp [R], by simp, by simpa using hap, by first | rfl | (simp; done) | omega, by first | rfl | (simp; done) | omega⟩ ?_
      rintro Bm Bf Bh ⟨t, BX, B4, B6, B7, B8, B9, B10, B27, B28, B29, Bbs, hap2, ht, hm2⟩ Bih
      try simp [A6, A7, A8, A9, A10, A4] at B4 B6 B7 B8 B9 B10 B27 B28 Bbs
      simp [hb] at Bbs
      have hst : t = 0 ∨ t = 1 ∨ t = 2 ∨ t = 3 := by omega
      rcases hst with rfl | rfl | rfl | rfl
      · by_cases hts : s = 1
        · subst hts
          simp [stI] at si
          simp [stK] at sk
          simp [stC] at hT2
          obtain rfl : i' = i + 1 := by omega
          obtain rfl : k' = k + 1 := by omega
          have hri2 := hrl (i + 1) bi
          have hr11 := hrow (i + 1) (k + 1) bi bk
          have u1 := T21_nonneg a b (i + 1) (k + 1)
          have u2 := T21_max a b (i + 1) (k + 1)
          have hdec : (decide (i < a.length) && (decide (k < b.length) && decide (nth a i = nth b k))) = true := by simpa [stO] using so
          have heq : (T21 a b i k == T21 a b (i + 1) (k + 1)) = true := by rw [beq_iff_eq]; exact hT2
          repeat' (first | (refine wpc_split _ (fun hc => ?_) (fun hc => ?_) <;> (try simp at hc)) | (refine ww_split _ (fun hc => ?_) (fun hc => ?_) <;> (try simp at hc)) | (refine wp_drawF (by kernel_rfl) ?_) | (refine wk_yldW _ ?_) | (refine layOwe _ (by kernel_rfl) ?_) | (refine owe ?_ (fun ho => ?_)) | (simp (disch := first | assumption | omega | (simp; done) | (simp; omega)) [B4, B6, B7, B8, B9, B10, B27, B28, B29, Bbs, hdec, eR, eI, hri, hr00, hri2, hr11, heq, fold_I1, xb3, xs3, app_at, app_at0, app_set, app_set0, Nat.add_assoc, -getElem?_pos, List.getElem?_cons_zero, List.getElem?_cons_succ]))
          exact Aih (Am - 1) _ _ (by omega) ⟨i + 1, k + 1, out ++ [1], _, X ++ (.cells [.int .i64 (i + 1), .int .i64 (k + 1)] :: (BX ++ [.cells [.int .i64 (i + 1), .int .i64 (k + 1)]])), by simp [B4, B6, B7, B8, B9, B10, B27, B28, B29, Bbs, A6, A7, A8, A9, A10, A4, hb, Nat.add_assoc], by simp [B4, B6, B7, B8, B9, B10, B27, B28, B29, Bbs, A6, A7, A8, A9, A10, A4, hb, Nat.add_assoc], by simp [B4, B6, B7, B8, B9, B10, B27, B28, B29, Bbs, A6, A7, A8, A9, A10, A4, hb, Nat.add_assoc], by simp [B4, B6, B7, B8, B9, B10, B27, B28, B29, Bbs, A6, A7, A8, A9, A10, A4, hb, Nat.add_assoc], by simp [B4, B6, B7, B8, B9, B10, B27, B28, B29, Bbs, A6, A7, A8, A9, A10, A4, hb, Nat.add_assoc], by simp [B4, B6, B7, B8, B9, B10, B27, B28, B29, Bbs, A6, A7, A8, A9, A10, A4, hb, Nat.add_assoc], (by simp [hb]), App.new _ _ _, by (simp; omega), by omega, by simpa using ho⟩
        · cases hso : stO a b i k 1 with
          | false =>
            have hdec : (decide (i < a.length) && (decide (k < b.length) && decide (nth a i = nth b k))) = false := by rw [← hso]; simp [stO]
            repeat' (first | (refine wpc_split _ (fun hc => ?_) (fun hc => ?_) <;> (try simp at hc)) | (refine ww_split _ (fun hc => ?_) (fun hc => ?_) <;> (try simp at hc)) | (refine wp_drawF (by kernel_rfl) ?_) | (refine wk_yldW _ ?_) | (refine layOwe _ (by kernel_rfl) ?_) | (refine owe ?_ (fun ho => ?_)) | (simp (disch := first | assumption | omega | (simp; done) | (simp; omega)) [B4, B6, B7, B8, B9, B10, B27, B28, B29, Bbs, hdec, xb3, xs3, app_at, app_at0, app_set, app_set0, Nat.add_assoc, -getElem?_pos, List.getElem?_cons_zero, List.getElem?_cons_succ]))
            exact Bih (Bm - 1) _ _ (by omega) ⟨1, BX ++ [.cells [.int .i64 (i + 1), .int .i64 (k + 1)]], by simp [B4, B6, B7, B8, B9, B10, B27, B28, B29, Bbs, A6, A7, A8, A9, A10, A4, hb, Nat.add_assoc], by simp [B4, B6, B7, B8, B9, B10, B27, B28, B29, Bbs, A6, A7, A8, A9, A10, A4, hb, Nat.add_assoc], by simp [B4, B6, B7, B8, B9, B10, B27, B28, B29, Bbs, A6, A7, A8, A9, A10, A4, hb, Nat.add_assoc], by simp [B4, B6, B7, B8, B9, B10, B27, B28, B29, Bbs, A6, A7, A8, A9, A10, A4, hb, Nat.add_assoc], by simp [B4, B6, B7, B8, B9, B10, B27, B28, B29, Bbs, A6, A7, A8, A9, A10, A4, hb, Nat.add_assoc], by simp [B4, B6, B7, B8, B9, B10, B27, B28, B29, Bbs, A6, A7, A8, A9, A10, A4, hb, Nat.add_assoc], by simp [B4, B6, B7, B8, B9, B10, B27, B28, B29, Bbs, A6, A7, A8, A9, A10, A4, hb, Nat.add_assoc], by simp [B4, B6, B7, B8, B9, B10, B27, B28, B29, Bbs, A6, A7, A8, A9, A10, A4, hb, Nat.add_assoc], by simp [B4, B6, B7, B8, B9, B10, B27, B28, B29, Bbs, A6, A7, A8, A9, A10, A4, hb, Nat.add_assoc], by simp [B4, B6, B7, B8, B9, B10, B27, B28, B29, Bbs, A6, A7, A8, A9, A10, A4, hb, Nat.add_assoc], by simpa using hap2, by omega, by omega⟩
          | true =>
            obtain ⟨i2, k2, e1, e2, e3, e4, e5, e6⟩ := st_bound hso hik.1 hik.2.1
            have hn := hno 1 (by omega) (by omega) i2 k2 hso e1 e2
            simp [stI] at e1
            simp [stK] at e2
            simp [stC] at hn
            obtain rfl : i2 = i + 1 := by omega
            obtain rfl : k2 = k + 1 := by omega
            have hri2 := hrl (i + 1) e3
            have hr11 := hrow (i + 1) (k + 1) e3 e4
            have u1 := T21_nonneg a b (i + 1) (k + 1)
            have u2 := T21_max a b (i + 1) (k + 1)
            have hdec : (decide (i < a.length) && (decide (k < b.length) && decide (nth a i = nth b k))) = true := by rw [← hso]; simp [stO]
            have heq : (T21 a b i k == T21 a b (i + 1) (k + 1)) = false := by rw [beq_eq_false_iff_ne]; exact hn
            repeat' (first | (refine wpc_split _ (fun hc => ?_) (fun hc => ?_) <;> (try simp at hc)) | (refine ww_split _ (fun hc => ?_) (fun hc => ?_) <;> (try simp at hc)) | (refine wp_drawF (by kernel_rfl) ?_) | (refine wk_yldW _ ?_) | (refine layOwe _ (by kernel_rfl) ?_) | (refine owe ?_ (fun ho => ?_)) | (simp (disch := first | assumption | omega | (simp; done) | (simp; omega)) [B4, B6, B7, B8, B9, B10, B27, B28, B29, Bbs, hdec, eR, eI, hri, hr00, hri2, hr11, heq, xb3, xs3, app_at, app_at0, app_set, app_set0, Nat.add_assoc, -getElem?_pos, List.getElem?_cons_zero, List.getElem?_cons_succ]))
            exact Bih (Bm - 1) _ _ (by omega) ⟨1, BX ++ [.cells [.int .i64 (i + 1), .int .i64 (k + 1)]], by simp [B4, B6, B7, B8, B9, B10, B27, B28, B29, Bbs, A6, A7, A8, A9, A10, A4, hb, Nat.add_assoc], by simp [B4, B6, B7, B8, B9, B10, B27, B28, B29, Bbs, A6, A7, A8, A9, A10, A4, hb, Nat.add_assoc], by simp [B4, B6, B7, B8, B9, B10, B27, B28, B29, Bbs, A6, A7, A8, A9, A10, A4, hb, Nat.add_assoc], by simp [B4, B6, B7, B8, B9, B10, B27, B28, B29, Bbs, A6, A7, A8, A9, A10, A4, hb, Nat.add_assoc], by simp [B4, B6, B7, B8, B9, B10, B27, B28, B29, Bbs, A6, A7, A8, A9, A10, A4, hb, Nat.add_assoc], by simp [B4, B6, B7, B8, B9, B10, B27, B28, B29, Bbs, A6, A7, A8, A9, A10, A4, hb, Nat.add_assoc], by simp [B4, B6, B7, B8, B9, B10, B27, B28, B29, Bbs, A6, A7, A8, A9, A10, A4, hb, Nat.add_assoc], by simp [B4, B6, B7, B8, B9, B10, B27, B28, B29, Bbs, A6, A7, A8, A9, A10, A4, hb, Nat.add_assoc], by simp [B4, B6, B7, B8, B9, B10, B27, B28, B29, Bbs, A6, A7, A8, A9, A10, A4, hb, Nat.add_assoc], by simp [B4, B6, B7, B8, B9, B10, B27, B28, B29, Bbs, A6, A7, A8, A9, A10, A4, hb, Nat.add_assoc], by simpa using hap2, by omega, by omega⟩
      · by_cases hts : s = 2
        · subst hts
          simp [stI] at si
          simp [stK] at sk
          simp [stC] at hT2
          obtain rfl : i' = i + 1 := by omega
          obtain rfl : k' = k + 1 := by omega
          have hri2 := hrl (i + 1) bi
          have hr11 := hrow (i + 1) (k + 1) bi bk
          have u1 := T21_nonneg a b (i + 1) (k + 1)
          have u2 := T21_max a b (i + 1) (k + 1)
          have hdec : (decide (i < a.length) && (decide (k < b.length) && !decide (nth a i = nth b k))) = true := by simpa [stO] using so
          have heq : (T21 a b i k == 1 + T21 a b (i + 1) (k + 1)) = true := by rw [beq_iff_eq]; exact hT2
          repeat' (first | (refine wpc_split _ (fun hc => ?_) (fun hc => ?_) <;> (try simp at hc)) | (refine ww_split _ (fun hc => ?_) (fun hc => ?_) <;> (try simp at hc)) | (refine wp_drawF (by kernel_rfl) ?_) | (refine wk_yldW _ ?_) | (refine layOwe _ (by kernel_rfl) ?_) | (refine owe ?_ (fun ho => ?_)) | (simp (disch := first | assumption | omega | (simp; done) | (simp; omega)) [B4, B6, B7, B8, B9, B10, B27, B28, B29, Bbs, hdec, eR, eI, hri, hr00, hri2, hr11, heq, fold_I1, xb3, xs3, app_at, app_at0, app_set, app_set0, Nat.add_assoc, -getElem?_pos, List.getElem?_cons_zero, List.getElem?_cons_succ]))
          exact Aih (Am - 1) _ _ (by omega) ⟨i + 1, k + 1, out ++ [2], _, X ++ (.cells [.int .i64 (i + 1), .int .i64 (k + 1)] :: (BX ++ [.cells [.int .i64 (i + 1), .int .i64 (k + 1)]])), by simp [B4, B6, B7, B8, B9, B10, B27, B28, B29, Bbs, A6, A7, A8, A9, A10, A4, hb, Nat.add_assoc], by simp [B4, B6, B7, B8, B9, B10, B27, B28, B29, Bbs, A6, A7, A8, A9, A10, A4, hb, Nat.add_assoc], by simp [B4, B6, B7, B8, B9, B10, B27, B28, B29, Bbs, A6, A7, A8, A9, A10, A4, hb, Nat.add_assoc], by simp [B4, B6, B7, B8, B9, B10, B27, B28, B29, Bbs, A6, A7, A8, A9, A10, A4, hb, Nat.add_assoc], by simp [B4, B6, B7, B8, B9, B10, B27, B28, B29, Bbs, A6, A7, A8, A9, A10, A4, hb, Nat.add_assoc], by simp [B4, B6, B7, B8, B9, B10, B27, B28, B29, Bbs, A6, A7, A8, A9, A10, A4, hb, Nat.add_assoc], (by simp [hb]), App.new _ _ _, by (simp; omega), by omega, by simpa using ho⟩
        · cases hso : stO a b i k 2 with
          | false =>
            have hdec : (decide (i < a.length) && (decide (k < b.length) && !decide (nth a i = nth b k))) = false := by rw [← hso]; simp [stO]
            repeat' (first | (refine wpc_split _ (fun hc => ?_) (fun hc => ?_) <;> (try simp at hc)) | (refine ww_split _ (fun hc => ?_) (fun hc => ?_) <;> (try simp at hc)) | (refine wp_drawF (by kernel_rfl) ?_) | (refine wk_yldW _ ?_) | (refine layOwe _ (by kernel_rfl) ?_) | (refine owe ?_ (fun ho => ?_)) | (simp (disch := first | assumption | omega | (simp; done) | (simp; omega)) [B4, B6, B7, B8, B9, B10, B27, B28, B29, Bbs, hdec, xb3, xs3, app_at, app_at0, app_set, app_set0, Nat.add_assoc, -getElem?_pos, List.getElem?_cons_zero, List.getElem?_cons_succ]))
            exact Bih (Bm - 1) _ _ (by omega) ⟨2, BX ++ [.cells [.int .i64 (i + 1), .int .i64 (k + 1)]], by simp [B4, B6, B7, B8, B9, B10, B27, B28, B29, Bbs, A6, A7, A8, A9, A10, A4, hb, Nat.add_assoc], by simp [B4, B6, B7, B8, B9, B10, B27, B28, B29, Bbs, A6, A7, A8, A9, A10, A4, hb, Nat.add_assoc], by simp [B4, B6, B7, B8, B9, B10, B27, B28, B29, Bbs, A6, A7, A8, A9, A10, A4, hb, Nat.add_assoc], by simp [B4, B6, B7, B8, B9, B10, B27, B28, B29, Bbs, A6, A7, A8, A9, A10, A4, hb, Nat.add_assoc], by simp [B4, B6, B7, B8, B9, B10, B27, B28, B29, Bbs, A6, A7, A8, A9, A10, A4, hb, Nat.add_assoc], by simp [B4, B6, B7, B8, B9, B10, B27, B28, B29, Bbs, A6, A7, A8, A9, A10, A4, hb, Nat.add_assoc], by simp [B4, B6, B7, B8, B9, B10, B27, B28, B29, Bbs, A6, A7, A8, A9, A10, A4, hb, Nat.add_assoc], by simp [B4, B6, B7, B8, B9, B10, B27, B28, B29, Bbs, A6, A7, A8, A9, A10, A4, hb, Nat.add_assoc], by simp [B4, B6, B7, B8, B9, B10, B27, B28, B29, Bbs, A6, A7, A8, A9, A10, A4, hb, Nat.add_assoc], by simp [B4, B6, B7, B8, B9, B10, B27, B28, B29, Bbs, A6, A7, A8, A9, A10, A4, hb, Nat.add_assoc], by simpa using hap2, by omega, by omega⟩
          | true =>
            obtain ⟨i2, k2, e1, e2, e3, e4, e5, e6⟩ := st_bound hso hik.1 hik.2.1
            have hn := hno 2 (by omega) (by omega) i2 k2 hso e1 e2
            simp [stI] at e1
            simp [stK] at e2
            simp [stC] at hn
            obtain rfl : i2 = i + 1 := by omega
            obtain rfl : k2 = k + 1 := by omega
            have hri2 := hrl (i + 1) e3
            have hr11 := hrow (i + 1) (k + 1) e3 e4
            have u1 := T21_nonneg a b (i + 1) (k + 1)
            have u2 := T21_max a b (i + 1) (k + 1)
            have hdec : (decide (i < a.length) && (decide (k < b.length) && !decide (nth a i = nth b k))) = true := by rw [← hso]; simp [stO]
            have heq : (T21 a b i k == 1 + T21 a b (i + 1) (k + 1)) = false := by rw [beq_eq_false_iff_ne]; exact hn
            repeat' (first | (refine wpc_split _ (fun hc => ?_) (fun hc => ?_) <;> (try simp at hc)) | (refine ww_split _ (fun hc => ?_) (fun hc => ?_) <;> (try simp at hc)) | (refine wp_drawF (by kernel_rfl) ?_) | (refine wk_yldW _ ?_) | (refine layOwe _ (by kernel_rfl) ?_) | (refine owe ?_ (fun ho => ?_)) | (simp (disch := first | assumption | omega | (simp; done) | (simp; omega)) [B4, B6, B7, B8, B9, B10, B27, B28, B29, Bbs, hdec, eR, eI, hri, hr00, hri2, hr11, heq, xb3, xs3, app_at, app_at0, app_set, app_set0, Nat.add_assoc, -getElem?_pos, List.getElem?_cons_zero, List.getElem?_cons_succ]))
            exact Bih (Bm - 1) _ _ (by omega) ⟨2, BX ++ [.cells [.int .i64 (i + 1), .int .i64 (k + 1)]], by simp [B4, B6, B7, B8, B9, B10, B27, B28, B29, Bbs, A6, A7, A8, A9, A10, A4, hb, Nat.add_assoc], by simp [B4, B6, B7, B8, B9, B10, B27, B28, B29, Bbs, A6, A7, A8, A9, A10, A4, hb, Nat.add_assoc], by simp [B4, B6, B7, B8, B9, B10, B27, B28, B29, Bbs, A6, A7, A8, A9, A10, A4, hb, Nat.add_assoc], by simp [B4, B6, B7, B8, B9, B10, B27, B28, B29, Bbs, A6, A7, A8, A9, A10, A4, hb, Nat.add_assoc], by simp [B4, B6, B7, B8, B9, B10, B27, B28, B29, Bbs, A6, A7, A8, A9, A10, A4, hb, Nat.add_assoc], by simp [B4, B6, B7, B8, B9, B10, B27, B28, B29, Bbs, A6, A7, A8, A9, A10, A4, hb, Nat.add_assoc], by simp [B4, B6, B7, B8, B9, B10, B27, B28, B29, Bbs, A6, A7, A8, A9, A10, A4, hb, Nat.add_assoc], by simp [B4, B6, B7, B8, B9, B10, B27, B28, B29, Bbs, A6, A7, A8, A9, A10, A4, hb, Nat.add_assoc], by simp [B4, B6, B7, B8, B9, B10, B27, B28, B29, Bbs, A6, A7, A8, A9, A10, A4, hb, Nat.add_assoc], by simp [B4, B6, B7, B8, B9, B10, B27, B28, B29, Bbs, A6, A7, A8, A9, A10, A4, hb, Nat.add_assoc], by simpa using hap2, by omega, by omega⟩
      · by_cases hts : s = 3
        · subst hts
          simp [stI] at si
          simp [stK] at sk
          simp [stC] at hT2
          obtain rfl : i' = i + 1 := by omega
          obtain rfl : k = k' := by omega
          have hri2 := hrl (i + 1) bi
          have hr11 := hrow (i + 1) (k) bi bk
          have u1 := T21_nonneg a b (i + 1) (k)
          have u2 := T21_max a b (i + 1) (k)
          have hdec : decide (i < a.length) = true := by simpa [stO] using so
          have heq : (T21 a b i k == 1 + T21 a b (i + 1) (k)) = true := by rw [beq_iff_eq]; exact hT2
          repeat' (first | (refine wpc_split _ (fun hc => ?_) (fun hc => ?_) <;> (try simp at hc)) | (refine ww_split _ (fun hc => ?_) (fun hc => ?_) <;> (try simp at hc)) | (refine wp_drawF (by kernel_rfl) ?_) | (refine wk_yldW _ ?_) | (refine layOwe _ (by kernel_rfl) ?_) | (refine owe ?_ (fun ho => ?_)) | (simp (disch := first | assumption | omega | (simp; done) | (simp; omega)) [B4, B6, B7, B8, B9, B10, B27, B28, B29, Bbs, hdec, eR, eI, hri, hr00, hri2, hr11, heq, fold_I1, xb3, xs3, app_at, app_at0, app_set, app_set0, Nat.add_assoc, -getElem?_pos, List.getElem?_cons_zero, List.getElem?_cons_succ]))
          exact Aih (Am - 1) _ _ (by omega) ⟨i + 1, k, out ++ [3], _, X ++ (.cells [.int .i64 (i + 1), .int .i64 k] :: (BX ++ [.cells [.int .i64 (i + 1), .int .i64 k]])), by simp [B4, B6, B7, B8, B9, B10, B27, B28, B29, Bbs, A6, A7, A8, A9, A10, A4, hb, Nat.add_assoc], by simp [B4, B6, B7, B8, B9, B10, B27, B28, B29, Bbs, A6, A7, A8, A9, A10, A4, hb, Nat.add_assoc], by simp [B4, B6, B7, B8, B9, B10, B27, B28, B29, Bbs, A6, A7, A8, A9, A10, A4, hb, Nat.add_assoc], by simp [B4, B6, B7, B8, B9, B10, B27, B28, B29, Bbs, A6, A7, A8, A9, A10, A4, hb, Nat.add_assoc], by simp [B4, B6, B7, B8, B9, B10, B27, B28, B29, Bbs, A6, A7, A8, A9, A10, A4, hb, Nat.add_assoc], by simp [B4, B6, B7, B8, B9, B10, B27, B28, B29, Bbs, A6, A7, A8, A9, A10, A4, hb, Nat.add_assoc], (by simp [hb]), App.new _ _ _, by (simp; omega), by omega, by simpa using ho⟩
        · cases hso : stO a b i k 3 with
          | false =>
            have hdec : decide (i < a.length) = false := by rw [← hso]; simp [stO]
            repeat' (first | (refine wpc_split _ (fun hc => ?_) (fun hc => ?_) <;> (try simp at hc)) | (refine ww_split _ (fun hc => ?_) (fun hc => ?_) <;> (try simp at hc)) | (refine wp_drawF (by kernel_rfl) ?_) | (refine wk_yldW _ ?_) | (refine layOwe _ (by kernel_rfl) ?_) | (refine owe ?_ (fun ho => ?_)) | (simp (disch := first | assumption | omega | (simp; done) | (simp; omega)) [B4, B6, B7, B8, B9, B10, B27, B28, B29, Bbs, hdec, xb3, xs3, app_at, app_at0, app_set, app_set0, Nat.add_assoc, -getElem?_pos, List.getElem?_cons_zero, List.getElem?_cons_succ]))
            exact Bih (Bm - 1) _ _ (by omega) ⟨3, BX ++ [.cells [.int .i64 (i + 1), .int .i64 k]], by simp [B4, B6, B7, B8, B9, B10, B27, B28, B29, Bbs, A6, A7, A8, A9, A10, A4, hb, Nat.add_assoc], by simp [B4, B6, B7, B8, B9, B10, B27, B28, B29, Bbs, A6, A7, A8, A9, A10, A4, hb, Nat.add_assoc], by simp [B4, B6, B7, B8, B9, B10, B27, B28, B29, Bbs, A6, A7, A8, A9, A10, A4, hb, Nat.add_assoc], by simp [B4, B6, B7, B8, B9, B10, B27, B28, B29, Bbs, A6, A7, A8, A9, A10, A4, hb, Nat.add_assoc], by simp [B4, B6, B7, B8, B9, B10, B27, B28, B29, Bbs, A6, A7, A8, A9, A10, A4, hb, Nat.add_assoc], by simp [B4, B6, B7, B8, B9, B10, B27, B28, B29, Bbs, A6, A7, A8, A9, A10, A4, hb, Nat.add_assoc], by simp [B4, B6, B7, B8, B9, B10, B27, B28, B29, Bbs, A6, A7, A8, A9, A10, A4, hb, Nat.add_assoc], by simp [B4, B6, B7, B8, B9, B10, B27, B28, B29, Bbs, A6, A7, A8, A9, A10, A4, hb, Nat.add_assoc], by simp [B4, B6, B7, B8, B9, B10, B27, B28, B29, Bbs, A6, A7, A8, A9, A10, A4, hb, Nat.add_assoc], by simp [B4, B6, B7, B8, B9, B10, B27, B28, B29, Bbs, A6, A7, A8, A9, A10, A4, hb, Nat.add_assoc], by simpa using hap2, by omega, by omega⟩
          | true =>
            obtain ⟨i2, k2, e1, e2, e3, e4, e5, e6⟩ := st_bound hso hik.1 hik.2.1
            have hn := hno 3 (by omega) (by omega) i2 k2 hso e1 e2
            simp [stI] at e1
            simp [stK] at e2
            simp [stC] at hn
            obtain rfl : i2 = i + 1 := by omega
            obtain rfl : k = k2 := by omega
            have hri2 := hrl (i + 1) e3
            have hr11 := hrow (i + 1) (k) e3 e4
            have u1 := T21_nonneg a b (i + 1) (k)
            have u2 := T21_max a b (i + 1) (k)
            have hdec : decide (i < a.length) = true := by rw [← hso]; simp [stO]
            have heq : (T21 a b i k == 1 + T21 a b (i + 1) (k)) = false := by rw [beq_eq_false_iff_ne]; exact hn
            repeat' (first | (refine wpc_split _ (fun hc => ?_) (fun hc => ?_) <;> (try simp at hc)) | (refine ww_split _ (fun hc => ?_) (fun hc => ?_) <;> (try simp at hc)) | (refine wp_drawF (by kernel_rfl) ?_) | (refine wk_yldW _ ?_) | (refine layOwe _ (by kernel_rfl) ?_) | (refine owe ?_ (fun ho => ?_)) | (simp (disch := first | assumption | omega | (simp; done) | (simp; omega)) [B4, B6, B7, B8, B9, B10, B27, B28, B29, Bbs, hdec, eR, eI, hri, hr00, hri2, hr11, heq, xb3, xs3, app_at, app_at0, app_set, app_set0, Nat.add_assoc, -getElem?_pos, List.getElem?_cons_zero, List.getElem?_cons_succ]))
            exact Bih (Bm - 1) _ _ (by omega) ⟨3, BX ++ [.cells [.int .i64 (i + 1), .int .i64 k]], by simp [B4, B6, B7, B8, B9, B10, B27, B28, B29, Bbs, A6, A7, A8, A9, A10, A4, hb, Nat.add_assoc], by simp [B4, B6, B7, B8, B9, B10, B27, B28, B29, Bbs, A6, A7, A8, A9, A10, A4, hb, Nat.add_assoc], by simp [B4, B6, B7, B8, B9, B10, B27, B28, B29, Bbs, A6, A7, A8, A9, A10, A4, hb, Nat.add_assoc], by simp [B4, B6, B7, B8, B9, B10, B27, B28, B29, Bbs, A6, A7, A8, A9, A10, A4, hb, Nat.add_assoc], by simp [B4, B6, B7, B8, B9, B10, B27, B28, B29, Bbs, A6, A7, A8, A9, A10, A4, hb, Nat.add_assoc], by simp [B4, B6, B7, B8, B9, B10, B27, B28, B29, Bbs, A6, A7, A8, A9, A10, A4, hb, Nat.add_assoc], by simp [B4, B6, B7, B8, B9, B10, B27, B28, B29, Bbs, A6, A7, A8, A9, A10, A4, hb, Nat.add_assoc], by simp [B4, B6, B7, B8, B9, B10, B27, B28, B29, Bbs, A6, A7, A8, A9, A10, A4, hb, Nat.add_assoc], by simp [B4, B6, B7, B8, B9, B10, B27, B28, B29, Bbs, A6, A7, A8, A9, A10, A4, hb, Nat.add_assoc], by simp [B4, B6, B7, B8, B9, B10, B27, B28, B29, Bbs, A6, A7, A8, A9, A10, A4, hb, Nat.add_assoc], by simpa using hap2, by omega, by omega⟩
      · by_cases hts : s = 4
        · subst hts
          simp [stI] at si
          simp [stK] at sk
          simp [stC] at hT2
          obtain rfl : i = i' := by omega
          obtain rfl : k' = k + 1 := by omega
          have hri2 := hrl (i) bi
          have hr11 := hrow (i) (k + 1) bi bk
          have u1 := T21_nonneg a b (i) (k + 1)
          have u2 := T21_max a b (i) (k + 1)
          have hdec : decide (k < b.length) = true := by simpa [stO] using so
          have heq : (T21 a b i k == 1 + T21 a b (i) (k + 1)) = true := by rw [beq_iff_eq]; exact hT2
          repeat' (first | (refine wpc_split _ (fun hc => ?_) (fun hc => ?_) <;> (try simp at hc)) | (refine ww_split _ (fun hc => ?_) (fun hc => ?_) <;> (try simp at hc)) | (refine wp_drawF (by kernel_rfl) ?_) | (refine wk_yldW _ ?_) | (refine layOwe _ (by kernel_rfl) ?_) | (refine owe ?_ (fun ho => ?_)) | (simp (disch := first | assumption | omega | (simp; done) | (simp; omega)) [B4, B6, B7, B8, B9, B10, B27, B28, B29, Bbs, hdec, eR, eI, hri, hr00, hri2, hr11, heq, fold_I1, xb3, xs3, app_at, app_at0, app_set, app_set0, Nat.add_assoc, -getElem?_pos, List.getElem?_cons_zero, List.getElem?_cons_succ]))
          exact Aih (Am - 1) _ _ (by omega) ⟨i, k + 1, out ++ [4], _, X ++ (.cells [.int .i64 i, .int .i64 (k + 1)] :: (BX ++ [.cells [.int .i64 i, .int .i64 (k + 1)]])), by simp [B4, B6, B7, B8, B9, B10, B27, B28, B29, Bbs, A6, A7, A8, A9, A10, A4, hb, Nat.add_assoc], by simp [B4, B6, B7, B8, B9, B10, B27, B28, B29, Bbs, A6, A7, A8, A9, A10, A4, hb, Nat.add_assoc], by simp [B4, B6, B7, B8, B9, B10, B27, B28, B29, Bbs, A6, A7, A8, A9, A10, A4, hb, Nat.add_assoc], by simp [B4, B6, B7, B8, B9, B10, B27, B28, B29, Bbs, A6, A7, A8, A9, A10, A4, hb, Nat.add_assoc], by simp [B4, B6, B7, B8, B9, B10, B27, B28, B29, Bbs, A6, A7, A8, A9, A10, A4, hb, Nat.add_assoc], by simp [B4, B6, B7, B8, B9, B10, B27, B28, B29, Bbs, A6, A7, A8, A9, A10, A4, hb, Nat.add_assoc], (by simp [hb]), App.new _ _ _, by (simp; omega), by omega, by simpa using ho⟩
        · exfalso; omega
  · have hA : alS a b = ([], 0, errS a b) := by unfold alS; rw [if_neg he]
    rw [hA]
    generalize hE : errS a b = E at *
    refine outS_of_wp cfg (fn := Tryd.f23) Tryd.func23 rfl (by simp [Tryd.f23]) ?_
    simp (disch := first | assumption | omega | (simp; done) | (simp; omega)) [-getElem?_pos, List.getElem?_cons_zero, List.getElem?_cons_succ, Tryd.f23, he, hE, emptyH]
    repeat' (first | (refine wpc_split _ (fun hc => ?_) (fun hc => ?_) <;> (try simp at hc)) | (refine ww_split _ (fun hc => ?_) (fun hc => ?_) <;> (try simp at hc)) | (refine wp_drawF (by kernel_rfl) ?_) | (refine wk_yldW _ ?_) | (refine layOwe _ (by kernel_rfl) ?_) | (refine owe ?_ (fun ho => ?_)) | (simp (disch := first | assumption | omega | (simp; done) | (simp; omega)) [he, hE, emptyH, -getElem?_pos, List.getElem?_cons_zero, List.getElem?_cons_succ]))
    all_goals rfl
@[simp] theorem S23 (a b : List (List UInt8)) (hs : a.length < 1099511627776 ∧ b.length < 1099511627776) (ha : ∀ x ∈ a, x.length < 1099511627776) (hb : ∀ x ∈ b, x.length < 1099511627776) (q1 q2 : Fl) (hh : Heap) : Ci cfg (.func (.func 23) [] []) [R  q1 eS a, R  q2 eS b] hh = some (.ret (.tuple [R fl0 eI (alS a b).1, .int .i64 (alS a b).2.1, .int .i64 (alS a b).2.2]), hh) :=
  Ci_K cfg rfl rfl (by simp) (by simp) (C23 a b hs ha hb)
end Go.Ab
