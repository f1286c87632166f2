/- Layer 21 (align): proofs that hold. -/
import Derived.Test.YtdgdefemmjngnaaDoorA7
set_option linter.unusedVariables false
set_option linter.unusedSimpArgs false
set_option linter.unusedSectionVars false
set_option linter.deprecated false
namespace Go.Ab
open Go.Proofs
set_option maxRecDepth 100000
set_option maxHeartbeats 4000000
def rowOk (w : Nat) (l : List Int) : Bool := decide (l.length = w) && allTo l.length (fun k => decide (0 ≤ nth l k ∧ nth l k ≤ 128))
def shapeOk (n w : Nat) (p : List (List Int)) : Bool := decide (p.length = n) && allTo p.length (fun i => rowOk w (nth p i))
/-- one step from a place is not too cheap -/
def stpOk (a b : List (List UInt8)) (p : List (List Int)) (i k : Nat) (s : Int) : Bool := !(stO a b i k s) || decide (nth (nth p i) k ≤ stC s + nth (nth p (stI i s).toNat) (stK k s).toNat)
def plcOk (a b : List (List UInt8)) (p : List (List Int)) (i k : Nat) : Bool := allTo 4 (fun t => stpOk a b p i k ((t : Int) + 1))
def holdsS (a b : List (List UInt8)) (p : List (List Int)) : Bool := shapeOk (a.length + 1) (b.length + 1) p && allTo (a.length + 1) (fun i => allTo (b.length + 1) (fun k => plcOk a b p i k))
theorem shape_row {n w : Nat} {p : List (List Int)} (h : shapeOk n w p = true) : p.length = n ∧ ∀ i, i < n → (nth p i).length = w ∧ ∀ k, k < w → 0 ≤ nth (nth p i) k ∧ nth (nth p i) k ≤ 128 := by
  unfold shapeOk at h
  simp only [Bool.and_eq_true, decide_eq_true_eq] at h
  refine ⟨h.1, fun i hi => ?_⟩
  have h2 := allTo_iff.1 h.2 i (by omega)
  unfold rowOk at h2
  simp only [Bool.and_eq_true, decide_eq_true_eq] at h2
  refine ⟨h2.1, fun k hk => ?_⟩
  have := allTo_iff.1 h2.2 k (by omega)
  simpa using this
theorem holds_false {a b : List (List UInt8)} {p : List (List Int)} {i k : Nat} (hi : i ≤ a.length) (hk : k ≤ b.length) (h : plcOk a b p i k = false) : holdsS a b p = false := by
  unfold holdsS
  rw [allTo_false (p := fun i => allTo (b.length + 1) (fun k => plcOk a b p i k)) i (by omega) (allTo_false k (by omega) h), Bool.and_false]
theorem holds_shape {a b : List (List UInt8)} {p : List (List Int)} (h : shapeOk (a.length + 1) (b.length + 1) p = false) : holdsS a b p = false := by unfold holdsS; rw [h]; rfl
theorem plc_false {a b : List (List UInt8)} {p : List (List Int)} {i k : Nat} (t : Nat) (ht : t < 4) (h : stpOk a b p i k ((t : Int) + 1) = false) : plcOk a b p i k = false := allTo_false t ht h
theorem holds_true {a b : List (List UInt8)} {p : List (List Int)} (hs : shapeOk (a.length + 1) (b.length + 1) p = true) (h : ∀ i k, i ≤ a.length → k ≤ b.length → plcOk a b p i k = true) : holdsS a b p = true := by
  unfold holdsS
  rw [hs, Bool.true_and]
  exact allTo_iff.2 fun i hi => allTo_iff.2 fun k hk => h i k (by omega) (by omega)
theorem C37 (a b : List (List UInt8)) (p : List (List Int)) (hs : a.length ≤ 64 ∧ b.length ≤ 64 ∧ p.length < 1099511627776) (hl : ∀ r ∈ p, r.length < 1099511627776) : Kc cfg 37 [R fl0 eS a, R fl0 eS b, R fl0 (eR eI) p] (.ret (.bool (holdsS a b p))) := by
  have hs2 : a.length < 1099511627776 ∧ b.length < 1099511627776 := by omega
  generalize hF : holdsS a b p = F
  by_cases hpl : p.length = a.length + 1
  · have hpi : ((p.length : Int) == (a.length : Int) + 1) = true := by simp; omega
    refine outS_of_wp cfg (fn := Tryd.f37) Tryd.func37 rfl (by simp [Tryd.f37]) ?_
    simp (disch := first | assumption | omega | (simp; done) | (simp; omega)) [-getElem?_pos, List.getElem?_cons_zero, List.getElem?_cons_succ, Tryd.f37, hpi]
    repeat' (first | (refine wpc_split _ (fun hc => ?_) (fun hc => ?_) <;> (try simp at hc)) | (refine ww_split _ (fun hc => ?_) (fun hc => ?_) <;> (try simp at hc)) | (refine wp_drawF (by kernel_rfl) ?_) | (refine wk_yldW _ ?_) | (refine layOwe _ (by kernel_rfl) ?_) | (refine owe ?_ (fun ho => ?_)) | (simp (disch := first | assumption | omega | (simp; done) | (simp; omega)) [hpi, -getElem?_pos, List.getElem?_cons_zero, List.getElem?_cons_succ]))
    all_goals first
      | (exfalso; omega)
      | skip
    refine wp_loopE cfg rfl (fun f0 h0 m fr h => ∃ i : Nat, fr 0 = f0 0 ∧ fr 1 = f0 1 ∧ fr 2 = f0 2 ∧ fr 7 = .int .i64 i ∧ (i + m = p.length) ∧ (∀ j, j < i → rowOk (b.length + 1) (nth p j) = true)) (p.length) _ _ ⟨0, rfl, rfl, rfl, by first | rfl | (simp; done) | (simp [R]; done) | simp [R], by first | rfl | (simp; done) | omega, fun j hj => by omega⟩ ?_
    rintro Am Af Ah ⟨i, A0, A1, A2, A7, hm, ht⟩ Aih
    try simp at A0 A1 A2
    by_cases hi : i < p.length
    · have hx := hl _ (nth_mem hi)
      by_cases hw : (nth p i).length = b.length + 1
      · repeat' (first | (refine wpc_split _ (fun hc => ?_) (fun hc => ?_) <;> (try simp at hc)) | (refine ww_split _ (fun hc => ?_) (fun hc => ?_) <;> (try simp at hc)) | (refine wp_drawF (by kernel_rfl) ?_) | (refine wk_yldW _ ?_) | (refine layOwe _ (by kernel_rfl) ?_) | (refine owe ?_ (fun ho => ?_)) | (simp (disch := first | assumption | omega | (simp; done) | (simp; omega)) [A0, A1, A2, A7, eR, -getElem?_pos, List.getElem?_cons_zero, List.getElem?_cons_succ]))
        all_goals first
          | (exfalso; omega)
          | skip
        refine wp_loopE cfg rfl (fun f0 h0 m fr h => ∃ k : Nat, fr 0 = f0 0 ∧ fr 1 = f0 1 ∧ fr 2 = f0 2 ∧ fr 7 = f0 7 ∧ fr 8 = .int .i64 k ∧ (k + m = (nth p i).length) ∧ (allTo k (fun k => decide (0 ≤ nth (nth p i) k ∧ nth (nth p i) k ≤ 128)) = true)) ((nth p i).length) _ _ ⟨0, rfl, rfl, rfl, rfl, by first | rfl | (simp; done) | (simp [R]; done) | simp [R], by first | rfl | (simp; done) | omega, rfl⟩ ?_
        rintro Bm Bf Bh ⟨k, B0, B1, B2, B7, B8, hm2, ht2⟩ Bih
        try simp [A0, A1, A2, A7] at B0 B1 B2 B7
        by_cases hk : k < (nth p i).length
        · by_cases hq : 0 ≤ nth (nth p i) k ∧ nth (nth p i) k ≤ 128
          · repeat' (first | (refine wpc_split _ (fun hc => ?_) (fun hc => ?_) <;> (try simp at hc)) | (refine ww_split _ (fun hc => ?_) (fun hc => ?_) <;> (try simp at hc)) | (refine wp_drawF (by kernel_rfl) ?_) | (refine wk_yldW _ ?_) | (refine layOwe _ (by kernel_rfl) ?_) | (refine owe ?_ (fun ho => ?_)) | (simp (disch := first | assumption | omega | (simp; done) | (simp; omega)) [B0, B1, B2, B7, B8, eR, eI, -getElem?_pos, List.getElem?_cons_zero, List.getElem?_cons_succ]))
            all_goals first
              | (exfalso; omega)
              | exact Bih (Bm - 1) _ _ (by omega) ⟨k + 1, by simp [B0, B1, B2, B7, B8, A0, A1, A2, A7], by simp [B0, B1, B2, B7, B8, A0, A1, A2, A7], by simp [B0, B1, B2, B7, B8, A0, A1, A2, A7], by simp [B0, B1, B2, B7, B8, A0, A1, A2, A7], by simp [B0, B1, B2, B7, B8, A0, A1, A2, A7], by omega, (by rw [allTo_succ, ht2, decide_eq_true hq]; rfl)⟩
          · have hF2 : F = false := by
              rw [← hF]
              refine holds_shape ?_
              unfold shapeOk
              rw [allTo_false (p := fun i => rowOk (b.length + 1) (nth p i)) i hi, Bool.and_false]
              unfold rowOk
              rw [allTo_false k hk (decide_eq_false hq), Bool.and_false]
            repeat' (first | (refine wpc_split _ (fun hc => ?_) (fun hc => ?_) <;> (try simp at hc)) | (refine ww_split _ (fun hc => ?_) (fun hc => ?_) <;> (try simp at hc)) | (refine wp_drawF (by kernel_rfl) ?_) | (refine wk_yldW _ ?_) | (refine layOwe _ (by kernel_rfl) ?_) | (refine owe ?_ (fun ho => ?_)) | (simp (disch := first | assumption | omega | (simp; done) | (simp; omega)) [B0, B1, B2, B7, B8, eR, eI, -getElem?_pos, List.getElem?_cons_zero, List.getElem?_cons_succ]))
            all_goals first
              | (exfalso; omega)
              | rw [hF2]
        · have hro : rowOk (b.length + 1) (nth p i) = true := by
            unfold rowOk
            rw [decide_eq_true hw, Bool.true_and, ← ht2]
            congr 1; omega
          repeat' (first | (refine wpc_split _ (fun hc => ?_) (fun hc => ?_) <;> (try simp at hc)) | (refine ww_split _ (fun hc => ?_) (fun hc => ?_) <;> (try simp at hc)) | (refine wp_drawF (by kernel_rfl) ?_) | (refine wk_yldW _ ?_) | (refine layOwe _ (by kernel_rfl) ?_) | (refine owe ?_ (fun ho => ?_)) | (simp (disch := first | assumption | omega | (simp; done) | (simp; omega)) [B0, B1, B2, B7, B8, eR, -getElem?_pos, List.getElem?_cons_zero, List.getElem?_cons_succ]))
          exact Aih (Am - 1) _ _ (by omega) ⟨i + 1, by simp [B0, B1, B2, B7, B8, A0, A1, A2, A7], by simp [B0, B1, B2, B7, B8, A0, A1, A2, A7], by simp [B0, B1, B2, B7, B8, A0, A1, A2, A7], by simp [B0, B1, B2, B7, B8, A0, A1, A2, A7], by omega, fun j hj => by (by_cases e : j = i; (subst e; exact hro); exact ht j (by omega))⟩
      · have hF2 : F = false := by
          rw [← hF]
          refine holds_shape ?_
          unfold shapeOk
          rw [allTo_false (p := fun i => rowOk (b.length + 1) (nth p i)) i hi, Bool.and_false]
          unfold rowOk
          rw [decide_eq_false hw]; rfl
        repeat' (first | (refine wpc_split _ (fun hc => ?_) (fun hc => ?_) <;> (try simp at hc)) | (refine ww_split _ (fun hc => ?_) (fun hc => ?_) <;> (try simp at hc)) | (refine wp_drawF (by kernel_rfl) ?_) | (refine wk_yldW _ ?_) | (refine layOwe _ (by kernel_rfl) ?_) | (refine owe ?_ (fun ho => ?_)) | (simp (disch := first | assumption | omega | (simp; done) | (simp; omega)) [A0, A1, A2, A7, eR, -getElem?_pos, List.getElem?_cons_zero, List.getElem?_cons_succ]))
        all_goals first
          | (exfalso; omega)
          | rw [hF2]
    · have hsh : shapeOk (a.length + 1) (b.length + 1) p = true := by
        unfold shapeOk
        rw [decide_eq_true hpl, Bool.true_and]
        exact allTo_iff.2 fun j hj => ht j (by omega)
      obtain ⟨-, hrw⟩ := shape_row hsh
      repeat' (first | (refine wpc_split _ (fun hc => ?_) (fun hc => ?_) <;> (try simp at hc)) | (refine ww_split _ (fun hc => ?_) (fun hc => ?_) <;> (try simp at hc)) | (refine wp_drawF (by kernel_rfl) ?_) | (refine wk_yldW _ ?_) | (refine layOwe _ (by kernel_rfl) ?_) | (refine owe ?_ (fun ho => ?_)) | (simp (disch := first | assumption | omega | (simp; done) | (simp; omega)) [A0, A1, A2, A7, -getElem?_pos, List.getElem?_cons_zero, List.getElem?_cons_succ]))
      refine wp_loopE cfg rfl (fun f0 h0 m fr h => ∃ i : Nat, fr 0 = f0 0 ∧ fr 1 = f0 1 ∧ fr 2 = f0 2 ∧ fr 9 = .int .i64 i ∧ (i + m = a.length + 1) ∧ (∀ j, j < i → ∀ k, k ≤ b.length → plcOk a b p j k = true)) (a.length + 1) _ _ ⟨0, rfl, rfl, rfl, by first | rfl | (simp; done) | (simp [R]; done) | simp [R], by first | rfl | (simp; done) | omega, fun j hj => by omega⟩ ?_
      rintro Cm Cf Ch ⟨i, C0, C1, C2, C9, hm3, ht3⟩ Cih
      try simp [A0, A1, A2, A7] at C0 C1 C2
      by_cases hi3 : i ≤ a.length
      · repeat' (first | (refine wpc_split _ (fun hc => ?_) (fun hc => ?_) <;> (try simp at hc)) | (refine ww_split _ (fun hc => ?_) (fun hc => ?_) <;> (try simp at hc)) | (refine wp_drawF (by kernel_rfl) ?_) | (refine wk_yldW _ ?_) | (refine layOwe _ (by kernel_rfl) ?_) | (refine owe ?_ (fun ho => ?_)) | (simp (disch := first | assumption | omega | (simp; done) | (simp; omega)) [C0, C1, C2, C9, -getElem?_pos, List.getElem?_cons_zero, List.getElem?_cons_succ]))
        refine wp_loopE cfg rfl (fun f0 h0 m fr h => ∃ k : Nat, fr 0 = f0 0 ∧ fr 1 = f0 1 ∧ fr 2 = f0 2 ∧ fr 9 = f0 9 ∧ fr 10 = .int .i64 k ∧ (k + m = b.length + 1) ∧ (∀ k', k' < k → plcOk a b p i k' = true)) (b.length + 1) _ _ ⟨0, rfl, rfl, rfl, rfl, by first | rfl | (simp; done) | (simp [R]; done) | simp [R], by first | rfl | (simp; done) | omega, fun k' hk' => by omega⟩ ?_
        rintro Dm Df Dh ⟨k, D0, D1, D2, D9, D10, hm4, ht4⟩ Dih
        try simp [C0, C1, C2, C9, A0, A1, A2, A7] at D0 D1 D2 D9
        by_cases hk4 : k ≤ b.length
        · repeat' (first | (refine wpc_split _ (fun hc => ?_) (fun hc => ?_) <;> (try simp at hc)) | (refine ww_split _ (fun hc => ?_) (fun hc => ?_) <;> (try simp at hc)) | (refine wp_drawF (by kernel_rfl) ?_) | (refine wk_yldW _ ?_) | (refine layOwe _ (by kernel_rfl) ?_) | (refine owe ?_ (fun ho => ?_)) | (simp (disch := first | assumption | omega | (simp; done) | (simp; omega)) [D0, D1, D2, D9, D10, -getElem?_pos, List.getElem?_cons_zero, List.getElem?_cons_succ]))
          refine wp_loopE cfg rfl (fun f0 h0 m fr h => ∃ t : Nat, fr 0 = f0 0 ∧ fr 1 = f0 1 ∧ fr 2 = f0 2 ∧ fr 9 = f0 9 ∧ fr 10 = f0 10 ∧ fr 11 = .int .i64 (t + 1) ∧ (t + m = 4) ∧ (allTo t (fun t => stpOk a b p i k ((t : Int) + 1)) = true)) (4) _ _ ⟨0, rfl, rfl, rfl, rfl, rfl, by first | rfl | (simp; done) | (simp [R]; done) | simp [R], by first | rfl | (simp; done) | omega, rfl⟩ ?_
          rintro Em Ef Eh ⟨t, E0, E1, E2, E9, E10, E11, hm5, ht5⟩ Eih
          try simp [D0, D1, D2, D9, D10, C0, C1, C2, C9, A0, A1, A2, A7] at E0 E1 E2 E9 E10
          by_cases ht6 : t < 4
          · cases ho : stO a b i k ((t : Int) + 1) with
            | false =>
              repeat' (first | (refine wpc_split _ (fun hc => ?_) (fun hc => ?_) <;> (try simp at hc)) | (refine ww_split _ (fun hc => ?_) (fun hc => ?_) <;> (try simp at hc)) | (refine wp_drawF (by kernel_rfl) ?_) | (refine wk_yldW _ ?_) | (refine layOwe _ (by kernel_rfl) ?_) | (refine owe ?_ (fun ho => ?_)) | (simp (disch := first | assumption | omega | (simp; done) | (simp; omega)) [E0, E1, E2, E9, E10, E11, ho, -getElem?_pos, List.getElem?_cons_zero, List.getElem?_cons_succ]))
              exact Eih (Em - 1) _ _ (by omega) ⟨t + 1, by simp [E0, E1, E2, E9, E10, E11, D0, D1, D2, D9, D10, C0, C1, C2, C9, A0, A1, A2, A7], by simp [E0, E1, E2, E9, E10, E11, D0, D1, D2, D9, D10, C0, C1, C2, C9, A0, A1, A2, A7], by simp [E0, E1, E2, E9, E10, E11, D0, D1, D2, D9, D10, C0, C1, C2, C9, A0, A1, A2, A7], by simp [E0, E1, E2, E9, E10, E11, D0, D1, D2, D9, D10, C0, C1, C2, C9, A0, A1, A2, A7], by simp [E0, E1, E2, E9, E10, E11, D0, D1, D2, D9, D10, C0, C1, C2, C9, A0, A1, A2, A7], by simp [E0, E1, E2, E9, E10, E11, D0, D1, D2, D9, D10, C0, C1, C2, C9, A0, A1, A2, A7], by omega, (by rw [allTo_succ, ht5]; simp [stpOk, ho])⟩
            | true =>
              obtain ⟨i2, k2, e1, e2, e3, e4, e5, e6⟩ := st_bound ho hi3 hk4
              obtain ⟨r1, r2⟩ := hrw i (by omega)
              obtain ⟨r3, r4⟩ := hrw i2 (by omega)
              have v1 := r2 k (by omega)
              have v2 := r4 k2 (by omega)
              by_cases hq : nth (nth p i) k ≤ stC ((t : Int) + 1) + nth (nth p i2) k2
              · repeat' (first | (refine wpc_split _ (fun hc => ?_) (fun hc => ?_) <;> (try simp at hc)) | (refine ww_split _ (fun hc => ?_) (fun hc => ?_) <;> (try simp at hc)) | (refine wp_drawF (by kernel_rfl) ?_) | (refine wk_yldW _ ?_) | (refine layOwe _ (by kernel_rfl) ?_) | (refine owe ?_ (fun ho => ?_)) | (simp (disch := first | assumption | omega | (simp; done) | (simp; omega)) [E0, E1, E2, E9, E10, E11, ho, e1, e2, eR, eI, r1, r3, -getElem?_pos, List.getElem?_cons_zero, List.getElem?_cons_succ]))
                all_goals first
                  | (exfalso; omega)
                  | exact Eih (Em - 1) _ _ (by omega) ⟨t + 1, by simp [E0, E1, E2, E9, E10, E11, D0, D1, D2, D9, D10, C0, C1, C2, C9, A0, A1, A2, A7], by simp [E0, E1, E2, E9, E10, E11, D0, D1, D2, D9, D10, C0, C1, C2, C9, A0, A1, A2, A7], by simp [E0, E1, E2, E9, E10, E11, D0, D1, D2, D9, D10, C0, C1, C2, C9, A0, A1, A2, A7], by simp [E0, E1, E2, E9, E10, E11, D0, D1, D2, D9, D10, C0, C1, C2, C9, A0, A1, A2, A7], by simp [E0, E1, E2, E9, E10, E11, D0, D1, D2, D9, D10, C0, C1, C2, C9, A0, A1, A2, A7], by simp [E0, E1, E2, E9, E10, E11, D0, D1, D2, D9, D10, C0, C1, C2, C9, A0, A1, A2, A7], by omega, (by rw [allTo_succ, ht5]; simp [stpOk, ho, e1, e2, hq])⟩
              · have hF2 : F = false := by
                  rw [← hF]
                  refine holds_false hi3 hk4 (plc_false t ht6 ?_)
                  simp [stpOk, ho, e1, e2]; omega
                repeat' (first | (refine wpc_split _ (fun hc => ?_) (fun hc => ?_) <;> (try simp at hc)) | (refine ww_split _ (fun hc => ?_) (fun hc => ?_) <;> (try simp at hc)) | (refine wp_drawF (by kernel_rfl) ?_) | (refine wk_yldW _ ?_) | (refine layOwe _ (by kernel_rfl) ?_) | (refine owe ?_ (fun ho => ?_)) | (simp (disch := first | assumption | omega | (simp; done) | (simp; omega)) [E0, E1, E2, E9, E10, E11, ho, e1, e2, eR, eI, r1, r3, -getElem?_pos, List.getElem?_cons_zero, List.getElem?_cons_succ]))
                all_goals first
                  | (exfalso; omega)
                  | rw [hF2]
          · have hpo : plcOk a b p i k = true := by
              unfold plcOk; rw [← ht5]; congr 1; omega
            repeat' (first | (refine wpc_split _ (fun hc => ?_) (fun hc => ?_) <;> (try simp at hc)) | (refine ww_split _ (fun hc => ?_) (fun hc => ?_) <;> (try simp at hc)) | (refine wp_drawF (by kernel_rfl) ?_) | (refine wk_yldW _ ?_) | (refine layOwe _ (by kernel_rfl) ?_) | (refine owe ?_ (fun ho => ?_)) | (simp (disch := first | assumption | omega | (simp; done) | (simp; omega)) [E0, E1, E2, E9, E10, E11, -getElem?_pos, List.getElem?_cons_zero, List.getElem?_cons_succ]))
            all_goals first
              | (exfalso; omega)
              | exact Dih (Dm - 1) _ _ (by omega) ⟨k + 1, by simp [E0, E1, E2, E9, E10, E11, D0, D1, D2, D9, D10, C0, C1, C2, C9, A0, A1, A2, A7], by simp [E0, E1, E2, E9, E10, E11, D0, D1, D2, D9, D10, C0, C1, C2, C9, A0, A1, A2, A7], by simp [E0, E1, E2, E9, E10, E11, D0, D1, D2, D9, D10, C0, C1, C2, C9, A0, A1, A2, A7], by simp [E0, E1, E2, E9, E10, E11, D0, D1, D2, D9, D10, C0, C1, C2, C9, A0, A1, A2, A7], by simp [E0, E1, E2, E9, E10, E11, D0, D1, D2, D9, D10, C0, C1, C2, C9, A0, A1, A2, A7], by omega, fun k' hk' => by (by_cases e : k' = k; (subst e; exact hpo); exact ht4 k' (by omega))⟩
        · repeat' (first | (refine wpc_split _ (fun hc => ?_) (fun hc => ?_) <;> (try simp at hc)) | (refine ww_split _ (fun hc => ?_) (fun hc => ?_) <;> (try simp at hc)) | (refine wp_drawF (by kernel_rfl) ?_) | (refine wk_yldW _ ?_) | (refine layOwe _ (by kernel_rfl) ?_) | (refine owe ?_ (fun ho => ?_)) | (simp (disch := first | assumption | omega | (simp; done) | (simp; omega)) [D0, D1, D2, D9, D10, -getElem?_pos, List.getElem?_cons_zero, List.getElem?_cons_succ]))
          exact Cih (Cm - 1) _ _ (by omega) ⟨i + 1, by simp [D0, D1, D2, D9, D10, C0, C1, C2, C9, A0, A1, A2, A7], by simp [D0, D1, D2, D9, D10, C0, C1, C2, C9, A0, A1, A2, A7], by simp [D0, D1, D2, D9, D10, C0, C1, C2, C9, A0, A1, A2, A7], by simp [D0, D1, D2, D9, D10, C0, C1, C2, C9, A0, A1, A2, A7], by omega, fun j hj k hk => by (by_cases e : j = i; (subst e; exact ht4 k (by omega)); exact ht3 j (by omega) k hk)⟩
      · have hF2 : F = true := by rw [← hF]; exact holds_true hsh (fun i k hi hk => ht3 i (by omega) k hk)
        repeat' (first | (refine wpc_split _ (fun hc => ?_) (fun hc => ?_) <;> (try simp at hc)) | (refine ww_split _ (fun hc => ?_) (fun hc => ?_) <;> (try simp at hc)) | (refine wp_drawF (by kernel_rfl) ?_) | (refine wk_yldW _ ?_) | (refine layOwe _ (by kernel_rfl) ?_) | (refine owe ?_ (fun ho => ?_)) | (simp (disch := first | assumption | omega | (simp; done) | (simp; omega)) [C0, C1, C2, C9, -getElem?_pos, List.getElem?_cons_zero, List.getElem?_cons_succ]))
        rw [hF2]
  · have hpi : ((p.length : Int) == (a.length : Int) + 1) = false := by simp; omega
    have hF2 : F = false := by
      rw [← hF]
      refine holds_shape ?_
      unfold shapeOk
      rw [decide_eq_false hpl]; rfl
    refine outS_of_wp cfg (fn := Tryd.f37) Tryd.func37 rfl (by simp [Tryd.f37]) ?_
    simp (disch := first | assumption | omega | (simp; done) | (simp; omega)) [-getElem?_pos, List.getElem?_cons_zero, List.getElem?_cons_succ, Tryd.f37, hpi]
    repeat' (first | (refine wpc_split _ (fun hc => ?_) (fun hc => ?_) <;> (try simp at hc)) | (refine ww_split _ (fun hc => ?_) (fun hc => ?_) <;> (try simp at hc)) | (refine wp_drawF (by kernel_rfl) ?_) | (refine wk_yldW _ ?_) | (refine layOwe _ (by kernel_rfl) ?_) | (refine owe ?_ (fun ho => ?_)) | (simp (disch := first | assumption | omega | (simp; done) | (simp; omega)) [hpi, -getElem?_pos, List.getElem?_cons_zero, List.getElem?_cons_succ]))
    all_goals first
      | (exfalso; omega)
      | rw [hF2]
@[simp] theorem S37 (a b : List (List UInt8)) (p : List (List Int)) (hs : a.length ≤ 64 ∧ b.length ≤ 64 ∧ p.length < 1099511627776) (hl : ∀ r ∈ p, r.length < 1099511627776) (q1 q2 q3 : Fl) (hh : Heap) : Ci cfg (.func (.func 37) [] []) [R  q1 eS a, R  q2 eS b, R  q3 (eR eI) p] hh = some (.ret (.bool (holdsS a b p)), hh) :=
  Ci_K cfg rfl rfl (by simp) (by simp) (C37 a b p hs hl)
end Go.Ab
