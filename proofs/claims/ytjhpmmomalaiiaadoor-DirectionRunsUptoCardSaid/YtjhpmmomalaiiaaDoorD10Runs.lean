/- DirectionRuns: the law. -/
import Derived.Test.YtjhpmmomalaiiaaDoorB8
set_option linter.unusedVariables false
set_option linter.unusedSimpArgs false
set_option linter.unusedSectionVars false
set_option linter.deprecated false
namespace Go.Ab
open Go.Proofs
set_option maxRecDepth 100000
set_option maxHeartbeats 4000000
theorem C6 (L : List Int) (hs : L.length < 1099511627776) : Kc cfg 6 [R fl0 eI L] (.ret (.bool true)) := by
  by_cases hp : L.length ≤ 120 ∧ allL L = true
  · have hP : placesS L = (rowF L.length (fun i => (atF L i : Int)), true, true) := by unfold placesS; rw [if_pos hp]
    have hrange := fun i (h : i < L.length) => of_decide_eq_true (List.all_eq_true.1 hp.2 _ (nth_mem h))
    have hrl : (rowF L.length (fun i => (atF L i : Int))).length = L.length := by simp
    have hrn := fun i (h : i < L.length) => nth_rowF (g := fun i => (atF L i : Int)) h
    have halt := fun i (h : i < L.length) => atF_lt (L := L) (i := i) h
    generalize hW : rowF L.length (fun i => (atF L i : Int)) = W at *
    have hsu := fun i => anyTo_succ i (fun j => decide (nth L j = 2))
    refine outS_of_wp cfg (fn := Tryd.f6) Tryd.func6 rfl (by simp [Tryd.f6]) ?_
    simp (disch := first | assumption | omega | (simp; done) | (simp; omega)) [-getElem?_pos, List.getElem?_cons_zero, List.getElem?_cons_succ, Tryd.f6, hP]
    repeat' (first | (refine wpc_split _ (fun hc => ?_) (fun hc => ?_) <;> (try simp at hc)) | (refine ww_split _ (fun hc => ?_) (fun hc => ?_) <;> (try simp at hc)) | (refine wp_drawF (by kernel_rfl) ?_) | (refine wk_yldW _ ?_) | (refine layOwe _ (by kernel_rfl) ?_) | (refine owe ?_ (fun ho => ?_)) | (simp (disch := first | assumption | omega | (simp; done) | (simp; omega)) [hP, -getElem?_pos, List.getElem?_cons_zero, List.getElem?_cons_succ]))
    refine wp_loopE cfg rfl (fun f0 h0 m fr h => ∃ i : Nat, fr 0 = f0 0 ∧ fr 3 = f0 3 ∧ fr 29 = f0 29 ∧ fr 30 = f0 30 ∧ fr 6 = .bool (anyTo i (fun j => decide (nth L j = 2))) ∧ fr 31 = .int .i64 i ∧ (i + m = L.length)) (L.length) _ _ ⟨0, rfl, rfl, rfl, rfl, by first | rfl | (simp; done) | (simp [R]; done) | simp [R], by first | rfl | (simp; done) | (simp [R]; done) | simp [R], by first | rfl | (simp; done) | omega⟩ ?_
    rintro Am Af Ah ⟨i, A0, A3, A29, A30, A6, A31, hm⟩ Aih
    try simp at A0 A3 A29 A30
    by_cases hi : i < L.length
    · have hst := hsu i
      cases hb : anyTo i (fun j => decide (nth L j = 2)) with
      | true =>
        rw [hb, Bool.true_or] at hst
        rw [hb] at A6
        repeat' (first | (refine wpc_split _ (fun hc => ?_) (fun hc => ?_) <;> (try simp at hc)) | (refine ww_split _ (fun hc => ?_) (fun hc => ?_) <;> (try simp at hc)) | (refine wp_drawF (by kernel_rfl) ?_) | (refine wk_yldW _ ?_) | (refine layOwe _ (by kernel_rfl) ?_) | (refine owe ?_ (fun ho => ?_)) | (simp (disch := first | assumption | omega | (simp; done) | (simp; omega)) [A0, A3, A29, A30, A6, A31, eI, -getElem?_pos, List.getElem?_cons_zero, List.getElem?_cons_succ]))
        exact Aih (Am - 1) _ _ (by omega) ⟨i + 1, by simp [A0, A3, A29, A30, A6, A31, hst], by simp [A0, A3, A29, A30, A6, A31, hst], by simp [A0, A3, A29, A30, A6, A31, hst], by simp [A0, A3, A29, A30, A6, A31, hst], by simp [A0, A3, A29, A30, A6, A31, hst], by simp [A0, A3, A29, A30, A6, A31, hst], by omega⟩
      | false =>
        rw [hb, Bool.false_or] at hst
        rw [hb] at A6
        by_cases h2 : nth L i = 2
        · rw [decide_eq_true h2] at hst
          repeat' (first | (refine wpc_split _ (fun hc => ?_) (fun hc => ?_) <;> (try simp at hc)) | (refine ww_split _ (fun hc => ?_) (fun hc => ?_) <;> (try simp at hc)) | (refine wp_drawF (by kernel_rfl) ?_) | (refine wk_yldW _ ?_) | (refine layOwe _ (by kernel_rfl) ?_) | (refine owe ?_ (fun ho => ?_)) | (simp (disch := first | assumption | omega | (simp; done) | (simp; omega)) [A0, A3, A29, A30, A6, A31, eI, h2, -getElem?_pos, List.getElem?_cons_zero, List.getElem?_cons_succ]))
          exact Aih (Am - 1) _ _ (by omega) ⟨i + 1, by simp [A0, A3, A29, A30, A6, A31, hst], by simp [A0, A3, A29, A30, A6, A31, hst], by simp [A0, A3, A29, A30, A6, A31, hst], by simp [A0, A3, A29, A30, A6, A31, hst], by simp [A0, A3, A29, A30, A6, A31, hst], by simp [A0, A3, A29, A30, A6, A31, hst], by omega⟩
        · rw [decide_eq_false h2] at hst
          have h3 : (nth L i == 2) = false := by rw [beq_eq_false_iff_ne]; exact h2
          repeat' (first | (refine wpc_split _ (fun hc => ?_) (fun hc => ?_) <;> (try simp at hc)) | (refine ww_split _ (fun hc => ?_) (fun hc => ?_) <;> (try simp at hc)) | (refine wp_drawF (by kernel_rfl) ?_) | (refine wk_yldW _ ?_) | (refine layOwe _ (by kernel_rfl) ?_) | (refine owe ?_ (fun ho => ?_)) | (simp (disch := first | assumption | omega | (simp; done) | (simp; omega)) [A0, A3, A29, A30, A6, A31, eI, h3, -getElem?_pos, List.getElem?_cons_zero, List.getElem?_cons_succ]))
          exact Aih (Am - 1) _ _ (by omega) ⟨i + 1, by simp [A0, A3, A29, A30, A6, A31, hst], by simp [A0, A3, A29, A30, A6, A31, hst], by simp [A0, A3, A29, A30, A6, A31, hst], by simp [A0, A3, A29, A30, A6, A31, hst], by simp [A0, A3, A29, A30, A6, A31, hst], by simp [A0, A3, A29, A30, A6, A31, hst], by omega⟩
    · obtain rfl : i = L.length := by omega
      clear Aih
      generalize htw : anyTo L.length (fun j => decide (nth L j = 2)) = two at *
      repeat' (first | (refine wpc_split _ (fun hc => ?_) (fun hc => ?_) <;> (try simp at hc)) | (refine ww_split _ (fun hc => ?_) (fun hc => ?_) <;> (try simp at hc)) | (refine wp_drawF (by kernel_rfl) ?_) | (refine wk_yldW _ ?_) | (refine layOwe _ (by kernel_rfl) ?_) | (refine owe ?_ (fun ho => ?_)) | (simp (disch := first | assumption | omega | (simp; done) | (simp; omega)) [A0, A3, A29, A30, A6, A31, -getElem?_pos, List.getElem?_cons_zero, List.getElem?_cons_succ]))
      refine wp_loopE cfg rfl (fun f0 h0 m fr h => ∃ i : Nat, fr 0 = f0 0 ∧ fr 3 = f0 3 ∧ fr 6 = f0 6 ∧ fr 41 = f0 41 ∧ fr 42 = f0 42 ∧ fr 9 = .int .i64 (fromP (geL L 1) i) ∧ fr 43 = .int .i64 i ∧ (i + m = L.length)) (L.length) _ _ ⟨0, rfl, rfl, rfl, rfl, rfl, by first | rfl | (simp; done) | (simp [R]; done) | simp [R], by first | rfl | (simp; done) | (simp [R]; done) | simp [R], by first | rfl | (simp; done) | omega⟩ ?_
      rintro Bm Bf Bh ⟨i, B0, B3, B6, B41, B42, B9, B43, hm2⟩ Bih
      try simp [A0, A3, A29, A30, A6, A31] at B0 B3 B6 B41 B42
      by_cases hi2 : i < L.length
      · have g1 := hrn i hi2
        have g2 := halt i hi2
        have g3 := hrange i hi2
        by_cases h0 : nth L i = 0
        · have hz := at_zero (L := L) (i := i) (by omega)
          rw [hz] at g1
          have hf : fromP (geL L 1) (i + 1) = i + 1 := fromP_stop (decide_eq_false (by omega))
          repeat' (first | (refine wpc_split _ (fun hc => ?_) (fun hc => ?_) <;> (try simp at hc)) | (refine ww_split _ (fun hc => ?_) (fun hc => ?_) <;> (try simp at hc)) | (refine wp_drawF (by kernel_rfl) ?_) | (refine wk_yldW _ ?_) | (refine layOwe _ (by kernel_rfl) ?_) | (refine owe ?_ (fun ho => ?_)) | (simp (disch := first | assumption | omega | (simp; done) | (simp; omega)) [B0, B3, B6, B41, B42, B9, B43, eI, h0, g1, hrl, -getElem?_pos, List.getElem?_cons_zero, List.getElem?_cons_succ]))
          all_goals first
            | (exfalso; omega)
            | exact Bih (Bm - 1) _ _ (by omega) ⟨i + 1, by simp [B0, B3, B6, B41, B42, B9, B43, A0, A3, A29, A30, A6, A31, hf], by simp [B0, B3, B6, B41, B42, B9, B43, A0, A3, A29, A30, A6, A31, hf], by simp [B0, B3, B6, B41, B42, B9, B43, A0, A3, A29, A30, A6, A31, hf], by simp [B0, B3, B6, B41, B42, B9, B43, A0, A3, A29, A30, A6, A31, hf], by simp [B0, B3, B6, B41, B42, B9, B43, A0, A3, A29, A30, A6, A31, hf], by simp [B0, B3, B6, B41, B42, B9, B43, A0, A3, A29, A30, A6, A31, hf], by simp [B0, B3, B6, B41, B42, B9, B43, A0, A3, A29, A30, A6, A31, hf], by omega⟩
        · have hpi : geL L 1 i = true := decide_eq_true (by omega)
          have hf : fromP (geL L 1) (i + 1) = fromP (geL L 1) i := fromP_step hpi
          obtain ⟨r, r1, r2⟩ := run_at hi2 hpi
          obtain ⟨k1, k2⟩ := at_run r r1 r2
          repeat' (first | (refine wpc_split _ (fun hc => ?_) (fun hc => ?_) <;> (try simp at hc)) | (refine ww_split _ (fun hc => ?_) (fun hc => ?_) <;> (try simp at hc)) | (refine wp_drawF (by kernel_rfl) ?_) | (refine wk_yldW _ ?_) | (refine layOwe _ (by kernel_rfl) ?_) | (refine owe ?_ (fun ho => ?_)) | (simp (disch := first | assumption | omega | (simp; done) | (simp; omega)) [B0, B3, B6, B41, B42, B9, B43, eI, h0, -getElem?_pos, List.getElem?_cons_zero, List.getElem?_cons_succ]))
          refine wp_loopE cfg rfl (fun f0 h0 m fr h => ∃ u : Nat, fr 0 = f0 0 ∧ fr 3 = f0 3 ∧ fr 6 = f0 6 ∧ fr 9 = f0 9 ∧ fr 10 = f0 10 ∧ fr 41 = f0 41 ∧ fr 42 = f0 42 ∧ fr 43 = f0 43 ∧ fr 12 = .int .i64 u ∧ (u + m = L.length) ∧ (untP (geL L 1) (L.length - u) u = untilP (geL L 1) L.length i) ∧ (i ≤ u)) (L.length - i) _ _ ⟨i, rfl, rfl, rfl, rfl, rfl, rfl, rfl, rfl, by first | rfl | (simp; done) | (simp [R]; done) | simp [R], by first | rfl | (simp; done) | omega, by first | rfl | (simp; done) | omega, by first | rfl | (simp; done) | omega⟩ ?_
          rintro Em Ef Eh ⟨u, E0, E3, E6, E9, E10, E41, E42, E43, E12, hm3, hu, hiu⟩ Eih
          try simp [B0, B3, B6, B41, B42, B9, B43, A0, A3, A29, A30, A6, A31] at E0 E3 E6 E9 E10 E41 E42 E43
          by_cases hgo : u < L.length ∧ geL L 1 u = true
          · have hg4 : 1 ≤ nth L u := of_decide_eq_true hgo.2
            rw [untP_step hgo.1 hgo.2] at hu
            have hul := hgo.1
            repeat' (first | (refine wpc_split _ (fun hc => ?_) (fun hc => ?_) <;> (try simp at hc)) | (refine ww_split _ (fun hc => ?_) (fun hc => ?_) <;> (try simp at hc)) | (refine wp_drawF (by kernel_rfl) ?_) | (refine wk_yldW _ ?_) | (refine layOwe _ (by kernel_rfl) ?_) | (refine owe ?_ (fun ho => ?_)) | (simp (disch := first | assumption | omega | (simp; done) | (simp; omega)) [E0, E3, E6, E9, E10, E41, E42, E43, E12, eI, -getElem?_pos, List.getElem?_cons_zero, List.getElem?_cons_succ]))
            all_goals first
              | (exfalso; omega)
              | exact Eih (Em - 1) _ _ (by omega) ⟨u + 1, by simp [E0, E3, E6, E9, E10, E41, E42, E43, E12, B0, B3, B6, B41, B42, B9, B43, A0, A3, A29, A30, A6, A31], by simp [E0, E3, E6, E9, E10, E41, E42, E43, E12, B0, B3, B6, B41, B42, B9, B43, A0, A3, A29, A30, A6, A31], by simp [E0, E3, E6, E9, E10, E41, E42, E43, E12, B0, B3, B6, B41, B42, B9, B43, A0, A3, A29, A30, A6, A31], by simp [E0, E3, E6, E9, E10, E41, E42, E43, E12, B0, B3, B6, B41, B42, B9, B43, A0, A3, A29, A30, A6, A31], by simp [E0, E3, E6, E9, E10, E41, E42, E43, E12, B0, B3, B6, B41, B42, B9, B43, A0, A3, A29, A30, A6, A31], by simp [E0, E3, E6, E9, E10, E41, E42, E43, E12, B0, B3, B6, B41, B42, B9, B43, A0, A3, A29, A30, A6, A31], by simp [E0, E3, E6, E9, E10, E41, E42, E43, E12, B0, B3, B6, B41, B42, B9, B43, A0, A3, A29, A30, A6, A31], by simp [E0, E3, E6, E9, E10, E41, E42, E43, E12, B0, B3, B6, B41, B42, B9, B43, A0, A3, A29, A30, A6, A31], by simp [E0, E3, E6, E9, E10, E41, E42, E43, E12, B0, B3, B6, B41, B42, B9, B43, A0, A3, A29, A30, A6, A31], by omega, hu, by omega⟩
          · have huu : untilP (geL L 1) L.length i = u := by
              rw [← hu]
              refine untP_stop ?_
              by_cases h : u < L.length
              · right
                cases h2 : geL L 1 u with
                | false => rfl
                | true => exact absurd ⟨h, h2⟩ hgo
              · left; omega
            rw [huu] at k2
            have hng : u < L.length → nth L u < 1 := fun h => by
              cases h2 : geL L 1 u with
              | false => unfold geL at h2; simpa using h2
              | true => exact absurd ⟨h, h2⟩ hgo
            by_cases hul : u < L.length
            · have hng2 := hng hul
              repeat' (first | (refine wpc_split _ (fun hc => ?_) (fun hc => ?_) <;> (try simp at hc)) | (refine ww_split _ (fun hc => ?_) (fun hc => ?_) <;> (try simp at hc)) | (refine wp_drawF (by kernel_rfl) ?_) | (refine wk_yldW _ ?_) | (refine layOwe _ (by kernel_rfl) ?_) | (refine owe ?_ (fun ho => ?_)) | (simp (disch := first | assumption | omega | (simp; done) | (simp; omega)) [E0, E3, E6, E9, E10, E41, E42, E43, E12, eI, g1, hrl, -getElem?_pos, List.getElem?_cons_zero, List.getElem?_cons_succ]))
              all_goals first
                | (exfalso; omega)
                | exact Bih (Bm - 1) _ _ (by omega) ⟨i + 1, by simp [E0, E3, E6, E9, E10, E41, E42, E43, E12, B0, B3, B6, B41, B42, B9, B43, A0, A3, A29, A30, A6, A31, hf], by simp [E0, E3, E6, E9, E10, E41, E42, E43, E12, B0, B3, B6, B41, B42, B9, B43, A0, A3, A29, A30, A6, A31, hf], by simp [E0, E3, E6, E9, E10, E41, E42, E43, E12, B0, B3, B6, B41, B42, B9, B43, A0, A3, A29, A30, A6, A31, hf], by simp [E0, E3, E6, E9, E10, E41, E42, E43, E12, B0, B3, B6, B41, B42, B9, B43, A0, A3, A29, A30, A6, A31, hf], by simp [E0, E3, E6, E9, E10, E41, E42, E43, E12, B0, B3, B6, B41, B42, B9, B43, A0, A3, A29, A30, A6, A31, hf], by simp [E0, E3, E6, E9, E10, E41, E42, E43, E12, B0, B3, B6, B41, B42, B9, B43, A0, A3, A29, A30, A6, A31, hf], by simp [E0, E3, E6, E9, E10, E41, E42, E43, E12, B0, B3, B6, B41, B42, B9, B43, A0, A3, A29, A30, A6, A31, hf], by omega⟩
            · repeat' (first | (refine wpc_split _ (fun hc => ?_) (fun hc => ?_) <;> (try simp at hc)) | (refine ww_split _ (fun hc => ?_) (fun hc => ?_) <;> (try simp at hc)) | (refine wp_drawF (by kernel_rfl) ?_) | (refine wk_yldW _ ?_) | (refine layOwe _ (by kernel_rfl) ?_) | (refine owe ?_ (fun ho => ?_)) | (simp (disch := first | assumption | omega | (simp; done) | (simp; omega)) [E0, E3, E6, E9, E10, E41, E42, E43, E12, eI, g1, hrl, -getElem?_pos, List.getElem?_cons_zero, List.getElem?_cons_succ]))
              all_goals first
                | (exfalso; omega)
                | exact Bih (Bm - 1) _ _ (by omega) ⟨i + 1, by simp [E0, E3, E6, E9, E10, E41, E42, E43, E12, B0, B3, B6, B41, B42, B9, B43, A0, A3, A29, A30, A6, A31, hf], by simp [E0, E3, E6, E9, E10, E41, E42, E43, E12, B0, B3, B6, B41, B42, B9, B43, A0, A3, A29, A30, A6, A31, hf], by simp [E0, E3, E6, E9, E10, E41, E42, E43, E12, B0, B3, B6, B41, B42, B9, B43, A0, A3, A29, A30, A6, A31, hf], by simp [E0, E3, E6, E9, E10, E41, E42, E43, E12, B0, B3, B6, B41, B42, B9, B43, A0, A3, A29, A30, A6, A31, hf], by simp [E0, E3, E6, E9, E10, E41, E42, E43, E12, B0, B3, B6, B41, B42, B9, B43, A0, A3, A29, A30, A6, A31, hf], by simp [E0, E3, E6, E9, E10, E41, E42, E43, E12, B0, B3, B6, B41, B42, B9, B43, A0, A3, A29, A30, A6, A31, hf], by simp [E0, E3, E6, E9, E10, E41, E42, E43, E12, B0, B3, B6, B41, B42, B9, B43, A0, A3, A29, A30, A6, A31, hf], by omega⟩
      · clear Bih
        repeat' (first | (refine wpc_split _ (fun hc => ?_) (fun hc => ?_) <;> (try simp at hc)) | (refine ww_split _ (fun hc => ?_) (fun hc => ?_) <;> (try simp at hc)) | (refine wp_drawF (by kernel_rfl) ?_) | (refine wk_yldW _ ?_) | (refine layOwe _ (by kernel_rfl) ?_) | (refine owe ?_ (fun ho => ?_)) | (simp (disch := first | assumption | omega | (simp; done) | (simp; omega)) [B0, B3, B6, B41, B42, B9, B43, -getElem?_pos, List.getElem?_cons_zero, List.getElem?_cons_succ]))
        refine wp_loopE cfg rfl (fun f0 h0 m fr h => ∃ i : Nat, fr 0 = f0 0 ∧ fr 3 = f0 3 ∧ fr 6 = f0 6 ∧ fr 88 = f0 88 ∧ fr 89 = .int .i64 i ∧ (i + m = L.length)) (L.length) _ _ ⟨0, rfl, rfl, rfl, rfl, by first | rfl | (simp; done) | (simp [R]; done) | simp [R], by first | rfl | (simp; done) | omega⟩ ?_
        rintro Fm Ff Fh ⟨i, F0, F3, F6, F88, F89, hm4⟩ Fih
        try simp [B0, B3, B6, B41, B42, B9, B43, A0, A3, A29, A30, A6, A31] at F0 F3 F6 F88
        by_cases hi3 : i < L.length
        · have g1 := hrn i hi3
          have g2 := halt i hi3
          have g3 := hrn (atF L i) g2
          cases htt : two with
          | true =>
            rw [htt] at F6
            repeat' (first | (refine wpc_split _ (fun hc => ?_) (fun hc => ?_) <;> (try simp at hc)) | (refine ww_split _ (fun hc => ?_) (fun hc => ?_) <;> (try simp at hc)) | (refine wp_drawF (by kernel_rfl) ?_) | (refine wk_yldW _ ?_) | (refine layOwe _ (by kernel_rfl) ?_) | (refine owe ?_ (fun ho => ?_)) | (simp (disch := first | assumption | omega | (simp; done) | (simp; omega)) [F0, F3, F6, F88, F89, eI, -getElem?_pos, List.getElem?_cons_zero, List.getElem?_cons_succ]))
            exact Fih (Fm - 1) _ _ (by omega) ⟨i + 1, by simp [F0, F3, F6, F88, F89, B0, B3, B6, B41, B42, B9, B43, A0, A3, A29, A30, A6, A31, htt], by simp [F0, F3, F6, F88, F89, B0, B3, B6, B41, B42, B9, B43, A0, A3, A29, A30, A6, A31, htt], by simp [F0, F3, F6, F88, F89, B0, B3, B6, B41, B42, B9, B43, A0, A3, A29, A30, A6, A31, htt], by simp [F0, F3, F6, F88, F89, B0, B3, B6, B41, B42, B9, B43, A0, A3, A29, A30, A6, A31, htt], by simp [F0, F3, F6, F88, F89, B0, B3, B6, B41, B42, B9, B43, A0, A3, A29, A30, A6, A31, htt], by omega⟩
          | false =>
            have hlow : ∀ j, j < L.length → nth L j < 2 := fun j hj => by
              have h5 := hrange j hj
              rcases Int.lt_or_le (nth L j) 2 with h | h
              · exact h
              · exfalso
                have : anyTo L.length (fun j => decide (nth L j = 2)) = true := anyTo_true j hj (decide_eq_true (by omega))
                rw [htw, htt] at this; cases this
            have haa := at_at hi3 hlow
            rw [haa] at g3
            rw [htt] at F6
            repeat' (first | (refine wpc_split _ (fun hc => ?_) (fun hc => ?_) <;> (try simp at hc)) | (refine ww_split _ (fun hc => ?_) (fun hc => ?_) <;> (try simp at hc)) | (refine wp_drawF (by kernel_rfl) ?_) | (refine wk_yldW _ ?_) | (refine layOwe _ (by kernel_rfl) ?_) | (refine owe ?_ (fun ho => ?_)) | (simp (disch := first | assumption | omega | (simp; done) | (simp; omega)) [F0, F3, F6, F88, F89, eI, g1, g3, hrl, -getElem?_pos, List.getElem?_cons_zero, List.getElem?_cons_succ]))
            all_goals first
              | (exfalso; omega)
              | exact Fih (Fm - 1) _ _ (by omega) ⟨i + 1, by simp [F0, F3, F6, F88, F89, B0, B3, B6, B41, B42, B9, B43, A0, A3, A29, A30, A6, A31, htt], by simp [F0, F3, F6, F88, F89, B0, B3, B6, B41, B42, B9, B43, A0, A3, A29, A30, A6, A31, htt], by simp [F0, F3, F6, F88, F89, B0, B3, B6, B41, B42, B9, B43, A0, A3, A29, A30, A6, A31, htt], by simp [F0, F3, F6, F88, F89, B0, B3, B6, B41, B42, B9, B43, A0, A3, A29, A30, A6, A31, htt], by simp [F0, F3, F6, F88, F89, B0, B3, B6, B41, B42, B9, B43, A0, A3, A29, A30, A6, A31, htt], by omega⟩
        · repeat' (first | (refine wpc_split _ (fun hc => ?_) (fun hc => ?_) <;> (try simp at hc)) | (refine ww_split _ (fun hc => ?_) (fun hc => ?_) <;> (try simp at hc)) | (refine wp_drawF (by kernel_rfl) ?_) | (refine wk_yldW _ ?_) | (refine layOwe _ (by kernel_rfl) ?_) | (refine owe ?_ (fun ho => ?_)) | (simp (disch := first | assumption | omega | (simp; done) | (simp; omega)) [F0, F3, F6, F88, F89, -getElem?_pos, List.getElem?_cons_zero, List.getElem?_cons_succ]))
  · have hP : placesS L = ([], false, true) := by unfold placesS; rw [if_neg hp]
    refine outS_of_wp cfg (fn := Tryd.f6) Tryd.func6 rfl (by simp [Tryd.f6]) ?_
    simp (disch := first | assumption | omega | (simp; done) | (simp; omega)) [-getElem?_pos, List.getElem?_cons_zero, List.getElem?_cons_succ, Tryd.f6, hP]
    repeat' (first | (refine wpc_split _ (fun hc => ?_) (fun hc => ?_) <;> (try simp at hc)) | (refine ww_split _ (fun hc => ?_) (fun hc => ?_) <;> (try simp at hc)) | (refine wp_drawF (by kernel_rfl) ?_) | (refine wk_yldW _ ?_) | (refine layOwe _ (by kernel_rfl) ?_) | (refine owe ?_ (fun ho => ?_)) | (simp (disch := first | assumption | omega | (simp; done) | (simp; omega)) [hP, -getElem?_pos, List.getElem?_cons_zero, List.getElem?_cons_succ]))
@[simp] theorem S6 (L : List Int) (hs : L.length < 1099511627776) (q1 : Fl) (hh : Heap) : Ci cfg (.func (.func 6) [] []) [R  q1 eI L] hh = some (.ret (.bool true), hh) :=
  Ci_K cfg rfl rfl (by simp) (by simp) (C6 L hs)
end Go.Ab
