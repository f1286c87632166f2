/- Layer 21 (align): the first one of the cheapest alignments. -/
import Derived.Test.YtackmibobdoecaaDoorA2
import Derived.Test.YtackmibobdoecaaDoorA3
import Derived.Test.YtackmibobdoecaaDoorA5
set_option linter.unusedVariables false
set_option linter.unusedSimpArgs false
set_option linter.unusedSectionVars false
set_option linter.deprecated false
namespace Go.Ab
open Go.Proofs
set_option maxRecDepth 100000
set_option maxHeartbeats 4000000
theorem errS_ok {a b : List (List UInt8)} (h : errS a b = 0) : a.length ≤ 64 ∧ b.length ≤ 64 := by
  unfold errS at h
  split at h
  · omega
  · omega
/-- what Align answers -/
def alS (a b : List (List UInt8)) : List Int × Int × Int := if errS a b = 0 then (alignF a b, T21 a b 0 0, 0) else ([], 0, errS a b)
theorem alF_drop (a b : List (List UInt8)) (i k : Nat) (hi : i ≤ a.length) (hk : k ≤ b.length) :
    (i = a.length ∧ k = b.length → alignF (a.drop i) (b.drop k) = []) ∧
    (¬ (i = a.length ∧ k = b.length) → ∃ (s i' k' : Nat), alignF (a.drop i) (b.drop k) = (s : Int) :: alignF (a.drop i') (b.drop k') ∧ 1 ≤ s ∧ s ≤ 4 ∧ stO a b i k s = true ∧ stI i s = i' ∧ stK k s = k' ∧ i' ≤ a.length ∧ k' ≤ b.length ∧
      T21 a b i k = stC s + T21 a b i' k' ∧ (∀ t : Nat, 1 ≤ t → t < s → ∀ (i2 k2 : Nat), stO a b i k t = true → stI i t = i2 → stK k t = k2 → ¬ T21 a b i k = stC t + T21 a b i2 k2) ∧ i + k < i' + k') := by
  constructor
  · rintro ⟨rfl, rfl⟩; rw [List.drop_length, List.drop_length, alF_nn]
  · intro he
    by_cases h1 : i < a.length
    · by_cases h2 : k < b.length
      · have hl := lev_cases (nth a i) (nth b k) (a.drop (i + 1)) (b.drop (k + 1))
        have d1 := nth_drop h1
        have d2 := nth_drop h2
        have hcc := alF_cc (nth a i) (nth b k) (a.drop (i + 1)) (b.drop (k + 1))
        rw [← d1, ← d2] at hcc hl
        have e0 : lev (a.drop i) (b.drop k) = T21 a b i k := rfl
        have e1 : lev (a.drop (i + 1)) (b.drop (k + 1)) = T21 a b (i + 1) (k + 1) := rfl
        have e2 : lev (a.drop (i + 1)) (b.drop k) = T21 a b (i + 1) k := rfl
        have e3 : lev (a.drop i) (b.drop (k + 1)) = T21 a b i (k + 1) := rfl
        rw [e0, e1, e2] at hcc
        rw [e0, e1, e2, e3] at hl
        by_cases c1 : nth a i = nth b k ∧ T21 a b i k = T21 a b (i + 1) (k + 1)
        · rw [if_pos c1] at hcc
          refine ⟨1, i + 1, k + 1, by rw [hcc]; rfl, by omega, by omega, by simp [stO, h1, h2, c1.1], by simp [stI], by simp [stK], by omega, by omega, by simp [stC, c1.2], fun t _ _ => by omega, by omega⟩
        · rw [if_neg c1] at hcc
          have n1 : ∀ (i2 k2 : Nat), stO a b i k (1 : Nat) = true → stI i (1 : Nat) = i2 → stK k (1 : Nat) = k2 → ¬ T21 a b i k = stC (1 : Nat) + T21 a b i2 k2 := by
            intro i2 k2 ho hI hK hT
            simp [stI] at hI; simp [stK] at hK
            obtain rfl : i2 = i + 1 := by omega
            obtain rfl : k2 = k + 1 := by omega
            simp [stO, h1, h2] at ho
            simp [stC] at hT
            exact c1 ⟨ho, hT⟩
          by_cases c2 : ¬ nth a i = nth b k ∧ T21 a b i k = 1 + T21 a b (i + 1) (k + 1)
          · rw [if_pos c2] at hcc
            refine ⟨2, i + 1, k + 1, by rw [hcc]; rfl, by omega, by omega, by simp [stO, h1, h2, c2.1], by simp [stI], by simp [stK], by omega, by omega, by simp [stC, c2.2], fun t _ _ => ?_, by omega⟩
            obtain rfl : t = 1 := by omega
            exact n1
          · rw [if_neg c2] at hcc
            have n2 : ∀ (i2 k2 : Nat), stO a b i k (2 : Nat) = true → stI i (2 : Nat) = i2 → stK k (2 : Nat) = k2 → ¬ T21 a b i k = stC (2 : Nat) + T21 a b i2 k2 := by
              intro i2 k2 ho hI hK hT
              simp [stI] at hI; simp [stK] at hK
              obtain rfl : i2 = i + 1 := by omega
              obtain rfl : k2 = k + 1 := by omega
              simp [stO, h1, h2] at ho
              simp [stC] at hT
              exact c2 ⟨ho, hT⟩
            by_cases c3 : T21 a b i k = 1 + T21 a b (i + 1) k
            · rw [if_pos c3] at hcc
              refine ⟨3, i + 1, k, by rw [hcc]; rfl, by omega, by omega, by simp [stO, h1], by simp [stI], by simp [stK], by omega, by omega, by simp [stC, c3], fun t _ _ => ?_, by omega⟩
              have : t = 1 ∨ t = 2 := by omega
              rcases this with rfl | rfl
              · exact n1
              · exact n2
            · rw [if_neg c3] at hcc
              have c4 : T21 a b i k = 1 + T21 a b i (k + 1) := by
                rcases hl with h | h | h | h
                · exact absurd h c1
                · exact absurd h c2
                · exact absurd h c3
                · exact h
              refine ⟨4, i, k + 1, by rw [hcc]; rfl, by omega, by omega, by simp [stO, h2], by simp [stI], by simp [stK], by omega, by omega, by simp [stC, c4], fun t _ _ => ?_, by omega⟩
              have : t = 1 ∨ t = 2 ∨ t = 3 := by omega
              rcases this with rfl | rfl | rfl
              · exact n1
              · exact n2
              · intro i2 k2 ho hI hK hT
                simp [stI] at hI; simp [stK] at hK
                obtain rfl : i2 = i + 1 := by omega
                obtain rfl : k2 = k := by omega
                simp [stC] at hT
                exact c3 hT
      · obtain rfl : k = b.length := by omega
        have ht := T21_a (b := b) h1
        refine ⟨3, i + 1, b.length, by rw [List.drop_length, nth_drop h1, alF_cn]; rfl, by omega, by omega, by simp [stO, h1], by simp [stI], by simp [stK], by omega, by omega, by simp [stC, ht], fun t _ _ => ?_, by omega⟩
        have : t = 1 ∨ t = 2 := by omega
        rcases this with rfl | rfl <;> (intro i2 k2 ho; simp [stO] at ho)
    · obtain rfl : i = a.length := by omega
      have h2 : k < b.length := by omega
      have ht := T21_b (a := a) h2
      refine ⟨4, a.length, k + 1, by rw [List.drop_length, nth_drop h2, alF_nc]; rfl, by omega, by omega, by simp [stO, h2], by simp [stI], by simp [stK], by omega, by omega, by simp [stC, ht], fun t _ _ => ?_, by omega⟩
      have : t = 1 ∨ t = 2 ∨ t = 3 := by omega
      rcases this with rfl | rfl | rfl <;> (intro i2 k2 ho; simp [stO] at ho)
theorem T21_row {a b : List (List UInt8)} {i k : Nat} (hi : i ≤ a.length) (hk : k ≤ b.length) : nth (nth (tabF (a.length + 1) (b.length + 1) (T21 a b)) i) k = T21 a b i k := by
  rw [nth_tabF (by omega), nth_rowF (by omega)]
theorem T21_rowl {a b : List (List UInt8)} {i : Nat} (hi : i ≤ a.length) : (nth (tabF (a.length + 1) (b.length + 1) (T21 a b)) i).length = b.length + 1 := by
  rw [nth_tabF (by omega)]; simp
theorem C55 (a b : List (List UInt8)) (hs : a.length < 1099511627776 ∧ b.length < 1099511627776) (ha : ∀ x ∈ a, x.length < 1099511627776) (hb : ∀ x ∈ b, x.length < 1099511627776) : Kc cfg 55 [R fl0 eS a, R fl0 eS b] (.ret (.tuple [R fl0 eI (alS a b).1, .int .i64 (alS a b).2.1, .int .i64 (alS a b).2.2])) := by
  by_cases he : errS a b = 0
  · have h64 := errS_ok he
    have hA : alS a b = (alignF a b, T21 a b 0 0, 0) := by unfold alS; rw [if_pos he]
    rw [hA]
    have hrow := fun i k => T21_row (a := a) (b := b) (i := i) (k := k)
    have hrl := fun i => T21_rowl (a := a) (b := b) (i := i)
    have htl : (tabF (a.length + 1) (b.length + 1) (T21 a b)).length = a.length + 1 := by simp
    generalize hT : tabF (a.length + 1) (b.length + 1) (T21 a b) = T at *
    generalize hF : alignF a b = F
    generalize h00 : T21 a b 0 0 = G
    refine outS_of_wp cfg (fn := Tryd.f55) Tryd.func55 rfl (by simp [Tryd.f55]) ?_
    simp (disch := first | assumption | omega | (simp; done) | (simp; omega)) [-getElem?_pos, List.getElem?_cons_zero, List.getElem?_cons_succ, Tryd.f55, he, hT]
    repeat' (first | (refine wpc_split _ (fun hc => ?_) (fun hc => ?_) <;> (try simp at hc)) | (refine ww_split _ (fun hc => ?_) (fun hc => ?_) <;> (try simp at hc)) | (refine wp_drawF (by kernel_rfl) ?_) | (refine wk_yldW _ ?_) | (refine layOwe _ (by kernel_rfl) ?_) | (refine owe ?_ (fun ho => ?_)) | (simp (disch := first | assumption | omega | (simp; done) | (simp; omega)) [he, hT, -getElem?_pos, List.getElem?_cons_zero, List.getElem?_cons_succ]))
    refine wp_loopE cfg rfl (fun f0 h0 m fr h => ∃ i : Nat, ∃ k : Nat, ∃ out : List Int, ∃ fl : Fl, fr 0 = f0 0 ∧ fr 1 = f0 1 ∧ fr 8 = f0 8 ∧ fr 10 = .int .i64 i ∧ fr 11 = .int .i64 k ∧ fr 9 = R fl eI out ∧ h.bs = h0.bs ∧ (App h.ts 1 fl) ∧ (i ≤ a.length ∧ k ≤ b.length ∧ out.length ≤ i + k) ∧ (a.length + b.length ≤ m + (i + k)) ∧ (out ++ alignF (a.drop i) (b.drop k) = F)) (a.length + b.length) _ _ ⟨0, 0, [], (false, true, none), rfl, rfl, rfl, by first | rfl | (simp; done) | (simp [R]; done) | simp [R], by first | rfl | (simp; done) | (simp [R]; done) | simp [R], by first | rfl | (simp; done) | (simp [R]; done) | simp [R], rfl, App.full _ _ _, by simp, by first | rfl | (simp; done) | omega, by simpa using hF⟩ ?_
    rintro Am Af Ah ⟨i, k, out, fl, A0, A1, A8, A10, A11, A9, Abs, hap, hik, hm, ho⟩ Aih
    try simp at A0 A1 A8 Abs
    by_cases he2 : i = a.length ∧ k = b.length
    · have hd := (alF_drop a b i k hik.1 hik.2.1).1 he2
      rw [hd, List.append_nil] at ho
      subst ho
      have h1 : (i : Int) = a.length := by omega
      have h2 : (k : Int) = b.length := by omega
      have hr0 := hrow 0 0 (Nat.zero_le _) (Nat.zero_le _)
      have hl0 := hrl 0 (Nat.zero_le _)
      repeat' (first | (refine wpc_split _ (fun hc => ?_) (fun hc => ?_) <;> (try simp at hc)) | (refine ww_split _ (fun hc => ?_) (fun hc => ?_) <;> (try simp at hc)) | (refine wp_drawF (by kernel_rfl) ?_) | (refine wk_yldW _ ?_) | (refine layOwe _ (by kernel_rfl) ?_) | (refine owe ?_ (fun ho => ?_)) | (simp (disch := first | assumption | omega | (simp; done) | (simp; omega)) [A0, A1, A8, A10, A11, A9, Abs, h1, h2, eR, eI, hr0, hl0, h00, -getElem?_pos, List.getElem?_cons_zero, List.getElem?_cons_succ]))
      try rfl
    · obtain ⟨s, i', k', hd, s1, s4, so, si, sk, bi, bk, hT2, hno, hgt⟩ := (alF_drop a b i k hik.1 hik.2.1).2 he2
      rw [hd] at ho
      have hri := hrl i hik.1
      have hr00 := hrow i k hik.1 hik.2.1
      repeat' (first | (refine wpc_split _ (fun hc => ?_) (fun hc => ?_) <;> (try simp at hc)) | (refine ww_split _ (fun hc => ?_) (fun hc => ?_) <;> (try simp at hc)) | (refine wp_drawF (by kernel_rfl) ?_) | (refine wk_yldW _ ?_) | (refine layOwe _ (by kernel_rfl) ?_) | (refine owe ?_ (fun ho => ?_)) | (simp (disch := first | assumption | omega | (simp; done) | (simp; omega)) [A0, A1, A8, A10, A11, A9, Abs, -getElem?_pos, List.getElem?_cons_zero, List.getElem?_cons_succ]))
      all_goals
        refine wp_loopE cfg rfl (fun f0 h0 m fr h => ∃ t : Nat, fr 0 = f0 0 ∧ fr 1 = f0 1 ∧ fr 8 = f0 8 ∧ fr 9 = f0 9 ∧ fr 10 = f0 10 ∧ fr 11 = f0 11 ∧ fr 12 = .int .i64 t ∧ h.bs = h0.bs ∧ (App h.ts 1 fl) ∧ (1 ≤ t ∧ t ≤ s) ∧ (m + t = 5)) (4) _ _ ⟨1, rfl, rfl, rfl, rfl, rfl, rfl, by first | rfl | (simp; done) | (simp [R]; done) | simp [R], rfl, by simpa using hap, by first | rfl | (simp; done) | omega, by first | rfl | (simp; done) | omega⟩ ?_
        rintro Bm Bf Bh ⟨t, B0, B1, B8, B9, B10, B11, B12, Bbs, hap2, ht, hm2⟩ Bih
        try simp [A0, A1, A8, A10, A11, A9, Abs] at B0 B1 B8 B9 B10 B11 Bbs
        by_cases hts : t = s
        · subst hts
          have hri2 := hrl i' bi
          have hr11 := hrow i' k' bi bk
          have u1 := T21_nonneg a b i' k'
          have u2 := T21_max a b i' k'
          have sc : 0 ≤ stC t ∧ stC t ≤ 1 := by unfold stC; split <;> omega
          have heq : (T21 a b i k == stC t + T21 a b i' k') = true := by rw [beq_iff_eq]; exact hT2
          repeat' (first | (refine wpc_split _ (fun hc => ?_) (fun hc => ?_) <;> (try simp at hc)) | (refine ww_split _ (fun hc => ?_) (fun hc => ?_) <;> (try simp at hc)) | (refine wp_drawF (by kernel_rfl) ?_) | (refine wk_yldW _ ?_) | (refine layOwe _ (by kernel_rfl) ?_) | (refine owe ?_ (fun ho => ?_)) | (simp (disch := first | assumption | omega | (simp; done) | (simp; omega)) [B0, B1, B8, B9, B10, B11, B12, Bbs, so, si, sk, eR, eI, hri, hr00, hri2, hr11, heq, fold_I1, -getElem?_pos, List.getElem?_cons_zero, List.getElem?_cons_succ]))
          exact Aih (Am - 1) _ _ (by omega) ⟨i', k', out ++ [(t : Int)], _, by simp [B0, B1, B8, B9, B10, B11, B12, Bbs, A0, A1, A8, A10, A11, A9, Abs, si, sk], by simp [B0, B1, B8, B9, B10, B11, B12, Bbs, A0, A1, A8, A10, A11, A9, Abs, si, sk], by simp [B0, B1, B8, B9, B10, B11, B12, Bbs, A0, A1, A8, A10, A11, A9, Abs, si, sk], by simp [B0, B1, B8, B9, B10, B11, B12, Bbs, A0, A1, A8, A10, A11, A9, Abs, si, sk], by simp [B0, B1, B8, B9, B10, B11, B12, Bbs, A0, A1, A8, A10, A11, A9, Abs, si, sk], by simp [B0, B1, B8, B9, B10, B11, B12, Bbs, A0, A1, A8, A10, A11, A9, Abs, si, sk], by simp [B0, B1, B8, B9, B10, B11, B12, Bbs, A0, A1, A8, A10, A11, A9, Abs, si, sk], App.new _ _ _, by (simp; omega), by omega, by simpa using ho⟩
        · cases hso : stO a b i k t with
          | false =>
            repeat' (first | (refine wpc_split _ (fun hc => ?_) (fun hc => ?_) <;> (try simp at hc)) | (refine ww_split _ (fun hc => ?_) (fun hc => ?_) <;> (try simp at hc)) | (refine wp_drawF (by kernel_rfl) ?_) | (refine wk_yldW _ ?_) | (refine layOwe _ (by kernel_rfl) ?_) | (refine owe ?_ (fun ho => ?_)) | (simp (disch := first | assumption | omega | (simp; done) | (simp; omega)) [B0, B1, B8, B9, B10, B11, B12, Bbs, hso, -getElem?_pos, List.getElem?_cons_zero, List.getElem?_cons_succ]))
            exact Bih (Bm - 1) _ _ (by omega) ⟨t + 1, by simp [B0, B1, B8, B9, B10, B11, B12, Bbs, A0, A1, A8, A10, A11, A9, Abs], by simp [B0, B1, B8, B9, B10, B11, B12, Bbs, A0, A1, A8, A10, A11, A9, Abs], by simp [B0, B1, B8, B9, B10, B11, B12, Bbs, A0, A1, A8, A10, A11, A9, Abs], by simp [B0, B1, B8, B9, B10, B11, B12, Bbs, A0, A1, A8, A10, A11, A9, Abs], by simp [B0, B1, B8, B9, B10, B11, B12, Bbs, A0, A1, A8, A10, A11, A9, Abs], by simp [B0, B1, B8, B9, B10, B11, B12, Bbs, A0, A1, A8, A10, A11, A9, Abs], by simp [B0, B1, B8, B9, B10, B11, B12, Bbs, A0, A1, A8, A10, A11, A9, Abs], by simp [B0, B1, B8, B9, B10, B11, B12, Bbs, A0, A1, A8, A10, A11, A9, Abs], by simpa using hap2, by omega, by omega⟩
          | true =>
            obtain ⟨i2, k2, e1, e2, e3, e4, e5, e6⟩ := st_bound hso hik.1 hik.2.1
            have hn := hno t (by omega) (by omega) i2 k2 hso e1 e2
            have hri2 := hrl i2 e3
            have hr11 := hrow i2 k2 e3 e4
            have u1 := T21_nonneg a b i2 k2
            have u2 := T21_max a b i2 k2
            have heq : (T21 a b i k == stC t + T21 a b i2 k2) = false := by rw [beq_eq_false_iff_ne]; exact hn
            repeat' (first | (refine wpc_split _ (fun hc => ?_) (fun hc => ?_) <;> (try simp at hc)) | (refine ww_split _ (fun hc => ?_) (fun hc => ?_) <;> (try simp at hc)) | (refine wp_drawF (by kernel_rfl) ?_) | (refine wk_yldW _ ?_) | (refine layOwe _ (by kernel_rfl) ?_) | (refine owe ?_ (fun ho => ?_)) | (simp (disch := first | assumption | omega | (simp; done) | (simp; omega)) [B0, B1, B8, B9, B10, B11, B12, Bbs, hso, e1, e2, eR, eI, hri, hr00, hri2, hr11, heq, -getElem?_pos, List.getElem?_cons_zero, List.getElem?_cons_succ]))
            exact Bih (Bm - 1) _ _ (by omega) ⟨t + 1, by simp [B0, B1, B8, B9, B10, B11, B12, Bbs, A0, A1, A8, A10, A11, A9, Abs, e1, e2], by simp [B0, B1, B8, B9, B10, B11, B12, Bbs, A0, A1, A8, A10, A11, A9, Abs, e1, e2], by simp [B0, B1, B8, B9, B10, B11, B12, Bbs, A0, A1, A8, A10, A11, A9, Abs, e1, e2], by simp [B0, B1, B8, B9, B10, B11, B12, Bbs, A0, A1, A8, A10, A11, A9, Abs, e1, e2], by simp [B0, B1, B8, B9, B10, B11, B12, Bbs, A0, A1, A8, A10, A11, A9, Abs, e1, e2], by simp [B0, B1, B8, B9, B10, B11, B12, Bbs, A0, A1, A8, A10, A11, A9, Abs, e1, e2], by simp [B0, B1, B8, B9, B10, B11, B12, Bbs, A0, A1, A8, A10, A11, A9, Abs, e1, e2], by simp [B0, B1, B8, B9, B10, B11, B12, Bbs, A0, A1, A8, A10, A11, A9, Abs, e1, e2], by simpa using hap2, by omega, by omega⟩
  · have hA : alS a b = ([], 0, errS a b) := by unfold alS; rw [if_neg he]
    rw [hA]
    generalize hE : errS a b = E at *
    refine outS_of_wp cfg (fn := Tryd.f55) Tryd.func55 rfl (by simp [Tryd.f55]) ?_
    simp (disch := first | assumption | omega | (simp; done) | (simp; omega)) [-getElem?_pos, List.getElem?_cons_zero, List.getElem?_cons_succ, Tryd.f55, he, hE]
    repeat' (first | (refine wpc_split _ (fun hc => ?_) (fun hc => ?_) <;> (try simp at hc)) | (refine ww_split _ (fun hc => ?_) (fun hc => ?_) <;> (try simp at hc)) | (refine wp_drawF (by kernel_rfl) ?_) | (refine wk_yldW _ ?_) | (refine layOwe _ (by kernel_rfl) ?_) | (refine owe ?_ (fun ho => ?_)) | (simp (disch := first | assumption | omega | (simp; done) | (simp; omega)) [he, hE, -getElem?_pos, List.getElem?_cons_zero, List.getElem?_cons_succ]))
    all_goals rfl
@[simp] theorem S55 (a b : List (List UInt8)) (hs : a.length < 1099511627776 ∧ b.length < 1099511627776) (ha : ∀ x ∈ a, x.length < 1099511627776) (hb : ∀ x ∈ b, x.length < 1099511627776) (q1 q2 : Fl) (hh : Heap) : Ci cfg (.func (.func 55) [] []) [R  q1 eS a, R  q2 eS b] hh = some (.ret (.tuple [R fl0 eI (alS a b).1, .int .i64 (alS a b).2.1, .int .i64 (alS a b).2.2]), hh) :=
  Ci_K cfg rfl rfl (by simp) (by simp) (C55 a b hs ha hb)
end Go.Ab
