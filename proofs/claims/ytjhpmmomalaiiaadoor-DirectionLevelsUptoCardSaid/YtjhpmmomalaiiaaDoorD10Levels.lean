/- DirectionLevels: the law. -/
import Derived.Test.YtjhpmmomalaiiaaDoorB7
set_option linter.unusedVariables false
set_option linter.unusedSimpArgs false
set_option linter.unusedSectionVars false
set_option linter.deprecated false
namespace Go.Ab
open Go.Proofs
set_option maxRecDepth 100000
set_option maxHeartbeats 8000000
/-- the last level of its own ahead of a place -/
def lastB (L : List Int) (i : Nat) : Int := if fromP (gpL L) i = 0 then -1 else nth L (fromP (gpL L) i - 1)
theorem lastB_step {L : List Int} {i : Nat} (h : gpL L i = true) : lastB L (i + 1) = lastB L i := by unfold lastB; rw [fromP_step h]
theorem lastB_stop {L : List Int} {i : Nat} (h : gpL L i = false) : lastB L (i + 1) = nth L i := by unfold lastB; rw [fromP_stop h, if_neg (by omega)]; rfl
theorem gap_law {L : List Int} {base : Int} {i k f : Nat} (hi : i ≤ L.length) (hf : fromP (gpL L) i = f) (h1 : f ≤ k) (h2 : k < i) (h3 : i = L.length ∨ gpL L i = false) :
    levAt base L k = if i < L.length then (if lastB L i = nth L i then nth L i else base) else base := by
  subst hf
  obtain ⟨q1, q2, q3⟩ := fromP_spec (p := gpL L) (i := i)
  have r : Run (gpL L) L.length (fromP (gpL L) i) i := ⟨by omega, hi, q2, q3, h3⟩
  rw [lev_gap r h1 h2]
  by_cases hl : i < L.length
  · rw [if_pos hl]
    have hg : gpL L i = false := by
      rcases h3 with h | h
      · omega
      · exact h
    have hn : ¬ nth L i < 0 := of_decide_eq_false hg
    unfold lastB
    by_cases h0 : fromP (gpL L) i = 0
    · rw [if_neg (by omega), if_pos h0, if_neg (by omega)]
    · rw [if_neg h0]
      by_cases he : nth L (fromP (gpL L) i - 1) = nth L i
      · rw [if_pos ⟨by omega, hl, he⟩, if_pos he]
      · rw [if_neg (fun h => he h.2.2), if_neg he]
  · rw [if_neg hl, if_neg (by omega)]
theorem C7 (l : List Int) (right : Bool) (hs : l.length < 1099511627776) : Kc cfg 7 [R fl0 eI l, .bool right] (.ret (.bool true)) := by
  by_cases hlong : 120 < l.length
  · skip
    refine outS_of_wp cfg (fn := Tryd.f7) Tryd.func7 rfl (by simp [Tryd.f7]) ?_
    simp (disch := first | assumption | omega | (simp; done) | (simp; omega)) [-getElem?_pos, List.getElem?_cons_zero, List.getElem?_cons_succ, Tryd.f7]
    repeat' (first | (refine wpc_split _ (fun hc => ?_) (fun hc => ?_) <;> (try simp at hc)) | (refine ww_split _ (fun hc => ?_) (fun hc => ?_) <;> (try simp at hc)) | (refine wp_drawF (by kernel_rfl) ?_) | (refine wk_yldW _ ?_) | (refine layOwe _ (by kernel_rfl) ?_) | (refine owe ?_ (fun ho => ?_)) | (simp (disch := first | assumption | omega | (simp; done) | (simp; omega)) [-getElem?_pos, List.getElem?_cons_zero, List.getElem?_cons_succ]))
    all_goals first | rfl | (exfalso; omega)
  have hL : levS l right = if okK l = true then (lvL (baseF right) (rawL right l), 0) else ([], 90) := by unfold levS; rw [if_neg (by omega)]
  cases right with
  | false =>
    generalize hLS : levS l false = LS at *
    refine outS_of_wp cfg (fn := Tryd.f7) Tryd.func7 rfl (by simp [Tryd.f7]) ?_
    simp (disch := first | assumption | omega | (simp; done) | (simp; omega)) [-getElem?_pos, List.getElem?_cons_zero, List.getElem?_cons_succ, Tryd.f7]
    repeat' (first | (refine wpc_split _ (fun hc => ?_) (fun hc => ?_) <;> (try simp at hc)) | (refine ww_split _ (fun hc => ?_) (fun hc => ?_) <;> (try simp at hc)) | (refine wp_drawF (by kernel_rfl) ?_) | (refine wk_yldW _ ?_) | (refine layOwe _ (by kernel_rfl) ?_) | (refine owe ?_ (fun ho => ?_)) | (simp (disch := first | assumption | omega | (simp; done) | (simp; omega)) [hLS, -getElem?_pos, List.getElem?_cons_zero, List.getElem?_cons_succ]))
    refine wp_loopE cfg rfl (fun f0 h0 m fr h => ∃ i : Nat, ∃ fl : Fl, fr 0 = f0 0 ∧ fr 1 = f0 1 ∧ fr 5 = f0 5 ∧ fr 6 = f0 6 ∧ fr 7 = f0 7 ∧ fr 8 = f0 8 ∧ fr 32 = f0 32 ∧ fr 33 = f0 33 ∧ fr 9 = R fl eI (rawL false (l.take i)) ∧ fr 34 = .int .i64 i ∧ (App h.ts 1 fl) ∧ (i + m = l.length) ∧ (∀ j, j < i → (kindG (nth l j)).2 = 0)) (l.length) _ _ ⟨0, (true, true, none), rfl, rfl, rfl, rfl, rfl, rfl, rfl, rfl, by simp [rawL]; rfl, by first | rfl | (simp; done) | (simp [R]; done) | simp [R], App.nil _ _ _, by first | rfl | (simp; done) | omega, fun j hj => by omega⟩ ?_
    rintro Am Af Ah ⟨i, fl, A0, A1, A5, A6, A7, A8, A32, A33, A9, A34, hap, hm, hok⟩ Aih
    try simp at A0 A1 A5 A6 A7 A8 A32 A33
    by_cases hi : i < l.length
    · by_cases hk : (kindG (nth l i)).2 = 0
      · have hlen : (rawL false (l.take i)).length ≤ i := by rw [rawL_len]; simp; omega
        have htk := rawL_take (right := false) hi
        rcases kind_range hk with hkk | hkk | hkk | hkk | hkk
        all_goals
          rw [hkk] at htk
          first
            | rw [strong_0] at htk
            | rw [strong_1] at htk
            | rw [strong_2] at htk
            | rw [strong_3] at htk
            | rw [strong_4] at htk
          try rw [show twoF false = 0 from rfl] at htk
          repeat' (first | (refine wpc_split _ (fun hc => ?_) (fun hc => ?_) <;> (try simp at hc)) | (refine ww_split _ (fun hc => ?_) (fun hc => ?_) <;> (try simp at hc)) | (refine wp_drawF (by kernel_rfl) ?_) | (refine wk_yldW _ ?_) | (refine layOwe _ (by kernel_rfl) ?_) | (refine owe ?_ (fun ho => ?_)) | (simp (disch := first | assumption | omega | (simp; done) | (simp; omega)) [A0, A1, A5, A6, A7, A8, A32, A33, A9, A34, eI, hk, hkk, fold_I1, -getElem?_pos, List.getElem?_cons_zero, List.getElem?_cons_succ]))
          exact Aih (Am - 1) _ _ (by omega) ⟨i + 1, _, by simp [A0, A1, A5, A6, A7, A8, A32, A33, A9, A34, htk], by simp [A0, A1, A5, A6, A7, A8, A32, A33, A9, A34, htk], by simp [A0, A1, A5, A6, A7, A8, A32, A33, A9, A34, htk], by simp [A0, A1, A5, A6, A7, A8, A32, A33, A9, A34, htk], by simp [A0, A1, A5, A6, A7, A8, A32, A33, A9, A34, htk], by simp [A0, A1, A5, A6, A7, A8, A32, A33, A9, A34, htk], by simp [A0, A1, A5, A6, A7, A8, A32, A33, A9, A34, htk], by simp [A0, A1, A5, A6, A7, A8, A32, A33, A9, A34, htk], by simp [A0, A1, A5, A6, A7, A8, A32, A33, A9, A34, htk], by simp [A0, A1, A5, A6, A7, A8, A32, A33, A9, A34, htk], App.new _ _ _, by omega, (fun j hj => by (by_cases e : j = i; (subst e; exact hk); exact hok j (by omega)))⟩
      · rw [okK_false hi hk] at hL
        simp at hL
        have hke := kind_err hk
        repeat' (first | (refine wpc_split _ (fun hc => ?_) (fun hc => ?_) <;> (try simp at hc)) | (refine ww_split _ (fun hc => ?_) (fun hc => ?_) <;> (try simp at hc)) | (refine wp_drawF (by kernel_rfl) ?_) | (refine wk_yldW _ ?_) | (refine layOwe _ (by kernel_rfl) ?_) | (refine owe ?_ (fun ho => ?_)) | (simp (disch := first | assumption | omega | (simp; done) | (simp; omega)) [A0, A1, A5, A6, A7, A8, A32, A33, A9, A34, eI, hk, hke, hL, -getElem?_pos, List.getElem?_cons_zero, List.getElem?_cons_succ]))
    rw [okK_true (fun j hj => hok j (by omega)), if_pos rfl] at hL
    have h1 : l.take i = l := List.take_of_length_le (by omega)
    rw [h1] at A9
    have hrl := rawL_len false l
    have hXl := lvL_len (0) (rawL false l)
    have hXn := fun k (h : k < (rawL false l).length) => lvL_nth (base := 0) h
    have hbb : baseF false = 0 := rfl
    rw [hbb] at hL
    generalize hraw : rawL false l = raw at *
    generalize hX : lvL (0) raw = X at *
    subst hL
    simp only at A5 A6
    clear Aih hok hap
    repeat' (first | (refine wpc_split _ (fun hc => ?_) (fun hc => ?_) <;> (try simp at hc)) | (refine ww_split _ (fun hc => ?_) (fun hc => ?_) <;> (try simp at hc)) | (refine wp_drawF (by kernel_rfl) ?_) | (refine wk_yldW _ ?_) | (refine layOwe _ (by kernel_rfl) ?_) | (refine owe ?_ (fun ho => ?_)) | (simp (disch := first | assumption | omega | (simp; done) | (simp; omega)) [A0, A1, A5, A6, A7, A8, A32, A33, A9, A34, hXl, hrl, -getElem?_pos, List.getElem?_cons_zero, List.getElem?_cons_succ]))
    refine wp_loopE cfg rfl (fun f0 h0 m fr h => ∃ i : Nat, ∃ lst : Int, ∃ frm : Nat, fr 0 = f0 0 ∧ fr 1 = f0 1 ∧ fr 5 = f0 5 ∧ fr 6 = f0 6 ∧ fr 7 = f0 7 ∧ fr 9 = f0 9 ∧ fr 15 = .int .i64 lst ∧ fr 16 = .int .i64 frm ∧ fr 17 = .int .i64 i ∧ (i + m = l.length + 1) ∧ (i ≤ l.length → lst = lastB raw i ∧ frm = fromP (gpL raw) i)) (l.length + 1) _ _ ⟨0, -1, 0, rfl, rfl, rfl, rfl, rfl, rfl, by first | rfl | (simp; done) | (simp [R]; done) | simp [R], by first | rfl | (simp; done) | (simp [R]; done) | simp [R], by first | rfl | (simp; done) | (simp [R]; done) | simp [R], by first | rfl | (simp; done) | omega, fun _ => ⟨rfl, rfl⟩⟩ ?_
    rintro Bm Bf Bh ⟨i, lst, frm, B0, B1, B5, B6, B7, B9, B15, B16, B17, hm2, hlf⟩ Bih
    try simp [A0, A1, A5, A6, A7, A8, A32, A33, A9, A34] at B0 B1 B5 B6 B7 B9
    by_cases hi2 : i < l.length
    · obtain ⟨rfl, rfl⟩ := hlf (by omega)
      have hXi := hXn i (by omega)
      cases hg : gpL raw i with
      | true =>
        have hneg : nth raw i < 0 := of_decide_eq_true hg
        repeat' (first | (refine wpc_split _ (fun hc => ?_) (fun hc => ?_) <;> (try simp at hc)) | (refine ww_split _ (fun hc => ?_) (fun hc => ?_) <;> (try simp at hc)) | (refine wp_drawF (by kernel_rfl) ?_) | (refine wk_yldW _ ?_) | (refine layOwe _ (by kernel_rfl) ?_) | (refine owe ?_ (fun ho => ?_)) | (simp (disch := first | assumption | omega | (simp; done) | (simp; omega)) [B0, B1, B5, B6, B7, B9, B15, B16, B17, eI, hrl, -getElem?_pos, List.getElem?_cons_zero, List.getElem?_cons_succ]))
        all_goals first
          | (exfalso; omega)
          | exact Bih (Bm - 1) _ _ (by omega) ⟨i + 1, lastB raw i, fromP (gpL raw) i, by simp [B0, B1, B5, B6, B7, B9, B15, B16, B17, A0, A1, A5, A6, A7, A8, A32, A33, A9, A34], by simp [B0, B1, B5, B6, B7, B9, B15, B16, B17, A0, A1, A5, A6, A7, A8, A32, A33, A9, A34], by simp [B0, B1, B5, B6, B7, B9, B15, B16, B17, A0, A1, A5, A6, A7, A8, A32, A33, A9, A34], by simp [B0, B1, B5, B6, B7, B9, B15, B16, B17, A0, A1, A5, A6, A7, A8, A32, A33, A9, A34], by simp [B0, B1, B5, B6, B7, B9, B15, B16, B17, A0, A1, A5, A6, A7, A8, A32, A33, A9, A34], by simp [B0, B1, B5, B6, B7, B9, B15, B16, B17, A0, A1, A5, A6, A7, A8, A32, A33, A9, A34], by simp [B0, B1, B5, B6, B7, B9, B15, B16, B17, A0, A1, A5, A6, A7, A8, A32, A33, A9, A34], by simp [B0, B1, B5, B6, B7, B9, B15, B16, B17, A0, A1, A5, A6, A7, A8, A32, A33, A9, A34], by simp [B0, B1, B5, B6, B7, B9, B15, B16, B17, A0, A1, A5, A6, A7, A8, A32, A33, A9, A34], by omega, fun _ => ⟨(lastB_step hg).symm, (fromP_step hg).symm⟩⟩
      | false =>
        have hpos : 0 ≤ nth raw i := by have : ¬ nth raw i < 0 := of_decide_eq_false hg; omega
        have hnn : ¬ nth raw i < 0 := by omega
        rw [lev_own (by omega) hg] at hXi
        have hfi := (fromP_spec (p := gpL raw) (i := i)).1
        generalize hfrm : fromP (gpL raw) i = frm at *
        generalize hlst : lastB raw i = lst at *
        repeat' (first | (refine wpc_split _ (fun hc => ?_) (fun hc => ?_) <;> (try simp at hc)) | (refine ww_split _ (fun hc => ?_) (fun hc => ?_) <;> (try simp at hc)) | (refine wp_drawF (by kernel_rfl) ?_) | (refine wk_yldW _ ?_) | (refine layOwe _ (by kernel_rfl) ?_) | (refine owe ?_ (fun ho => ?_)) | (simp (disch := first | assumption | omega | (simp; done) | (simp; omega)) [B0, B1, B5, B6, B7, B9, B15, B16, B17, eI, hXi, hrl, hXl, hnn, -getElem?_pos, List.getElem?_cons_zero, List.getElem?_cons_succ]))
        all_goals try (exfalso; omega)
        refine wp_loopE cfg rfl (fun f0 h0 m fr h => ∃ k : Nat, fr 0 = f0 0 ∧ fr 1 = f0 1 ∧ fr 5 = f0 5 ∧ fr 6 = f0 6 ∧ fr 7 = f0 7 ∧ fr 9 = f0 9 ∧ fr 15 = f0 15 ∧ fr 16 = f0 16 ∧ fr 17 = f0 17 ∧ fr 18 = f0 18 ∧ fr 19 = .int .i64 k ∧ (k + m = i) ∧ (frm ≤ k)) (i - frm) _ _ ⟨frm, rfl, rfl, rfl, rfl, rfl, rfl, rfl, rfl, rfl, rfl, by first | rfl | (simp; done) | (simp [R]; done) | simp [R], by first | rfl | (simp; done) | omega, by first | rfl | (simp; done) | omega⟩ ?_
        rintro Em Ef Eh ⟨k, E0, E1, E5, E6, E7, E9, E15, E16, E17, E18, E19, hm3, hfk⟩ Eih
        try simp [B0, B1, B5, B6, B7, B9, B15, B16, B17, A0, A1, A5, A6, A7, A8, A32, A33, A9, A34] at E0 E1 E5 E6 E7 E9 E15 E16 E17 E18
        by_cases hk3 : k < i
        · have hXk := hXn k (by omega)
          rw [gap_law (by omega) hfrm hfk hk3 (.inr hg), hlst, if_pos (by omega)] at hXk
          by_cases hln : lst = nth raw i
          · rw [if_pos hln] at hXk
            repeat' (first | (refine wpc_split _ (fun hc => ?_) (fun hc => ?_) <;> (try simp at hc)) | (refine ww_split _ (fun hc => ?_) (fun hc => ?_) <;> (try simp at hc)) | (refine wp_drawF (by kernel_rfl) ?_) | (refine wk_yldW _ ?_) | (refine layOwe _ (by kernel_rfl) ?_) | (refine owe ?_ (fun ho => ?_)) | (simp (disch := first | assumption | omega | (simp; done) | (simp; omega)) [E0, E1, E5, E6, E7, E9, E15, E16, E17, E18, E19, eI, hXk, hXl, hrl, hln, -getElem?_pos, List.getElem?_cons_zero, List.getElem?_cons_succ]))
            all_goals first
              | (exfalso; omega)
              | exact Eih (Em - 1) _ _ (by omega) ⟨k + 1, by simp [E0, E1, E5, E6, E7, E9, E15, E16, E17, E18, E19, B0, B1, B5, B6, B7, B9, B15, B16, B17, A0, A1, A5, A6, A7, A8, A32, A33, A9, A34], by simp [E0, E1, E5, E6, E7, E9, E15, E16, E17, E18, E19, B0, B1, B5, B6, B7, B9, B15, B16, B17, A0, A1, A5, A6, A7, A8, A32, A33, A9, A34], by simp [E0, E1, E5, E6, E7, E9, E15, E16, E17, E18, E19, B0, B1, B5, B6, B7, B9, B15, B16, B17, A0, A1, A5, A6, A7, A8, A32, A33, A9, A34], by simp [E0, E1, E5, E6, E7, E9, E15, E16, E17, E18, E19, B0, B1, B5, B6, B7, B9, B15, B16, B17, A0, A1, A5, A6, A7, A8, A32, A33, A9, A34], by simp [E0, E1, E5, E6, E7, E9, E15, E16, E17, E18, E19, B0, B1, B5, B6, B7, B9, B15, B16, B17, A0, A1, A5, A6, A7, A8, A32, A33, A9, A34], by simp [E0, E1, E5, E6, E7, E9, E15, E16, E17, E18, E19, B0, B1, B5, B6, B7, B9, B15, B16, B17, A0, A1, A5, A6, A7, A8, A32, A33, A9, A34], by simp [E0, E1, E5, E6, E7, E9, E15, E16, E17, E18, E19, B0, B1, B5, B6, B7, B9, B15, B16, B17, A0, A1, A5, A6, A7, A8, A32, A33, A9, A34], by simp [E0, E1, E5, E6, E7, E9, E15, E16, E17, E18, E19, B0, B1, B5, B6, B7, B9, B15, B16, B17, A0, A1, A5, A6, A7, A8, A32, A33, A9, A34], by simp [E0, E1, E5, E6, E7, E9, E15, E16, E17, E18, E19, B0, B1, B5, B6, B7, B9, B15, B16, B17, A0, A1, A5, A6, A7, A8, A32, A33, A9, A34], by simp [E0, E1, E5, E6, E7, E9, E15, E16, E17, E18, E19, B0, B1, B5, B6, B7, B9, B15, B16, B17, A0, A1, A5, A6, A7, A8, A32, A33, A9, A34], by simp [E0, E1, E5, E6, E7, E9, E15, E16, E17, E18, E19, B0, B1, B5, B6, B7, B9, B15, B16, B17, A0, A1, A5, A6, A7, A8, A32, A33, A9, A34], by omega, by omega⟩
          · rw [if_neg hln] at hXk
            repeat' (first | (refine wpc_split _ (fun hc => ?_) (fun hc => ?_) <;> (try simp at hc)) | (refine ww_split _ (fun hc => ?_) (fun hc => ?_) <;> (try simp at hc)) | (refine wp_drawF (by kernel_rfl) ?_) | (refine wk_yldW _ ?_) | (refine layOwe _ (by kernel_rfl) ?_) | (refine owe ?_ (fun ho => ?_)) | (simp (disch := first | assumption | omega | (simp; done) | (simp; omega)) [E0, E1, E5, E6, E7, E9, E15, E16, E17, E18, E19, eI, hXk, hXl, hrl, hln, -getElem?_pos, List.getElem?_cons_zero, List.getElem?_cons_succ]))
            all_goals first
              | (exfalso; omega)
              | exact Eih (Em - 1) _ _ (by omega) ⟨k + 1, by simp [E0, E1, E5, E6, E7, E9, E15, E16, E17, E18, E19, B0, B1, B5, B6, B7, B9, B15, B16, B17, A0, A1, A5, A6, A7, A8, A32, A33, A9, A34], by simp [E0, E1, E5, E6, E7, E9, E15, E16, E17, E18, E19, B0, B1, B5, B6, B7, B9, B15, B16, B17, A0, A1, A5, A6, A7, A8, A32, A33, A9, A34], by simp [E0, E1, E5, E6, E7, E9, E15, E16, E17, E18, E19, B0, B1, B5, B6, B7, B9, B15, B16, B17, A0, A1, A5, A6, A7, A8, A32, A33, A9, A34], by simp [E0, E1, E5, E6, E7, E9, E15, E16, E17, E18, E19, B0, B1, B5, B6, B7, B9, B15, B16, B17, A0, A1, A5, A6, A7, A8, A32, A33, A9, A34], by simp [E0, E1, E5, E6, E7, E9, E15, E16, E17, E18, E19, B0, B1, B5, B6, B7, B9, B15, B16, B17, A0, A1, A5, A6, A7, A8, A32, A33, A9, A34], by simp [E0, E1, E5, E6, E7, E9, E15, E16, E17, E18, E19, B0, B1, B5, B6, B7, B9, B15, B16, B17, A0, A1, A5, A6, A7, A8, A32, A33, A9, A34], by simp [E0, E1, E5, E6, E7, E9, E15, E16, E17, E18, E19, B0, B1, B5, B6, B7, B9, B15, B16, B17, A0, A1, A5, A6, A7, A8, A32, A33, A9, A34], by simp [E0, E1, E5, E6, E7, E9, E15, E16, E17, E18, E19, B0, B1, B5, B6, B7, B9, B15, B16, B17, A0, A1, A5, A6, A7, A8, A32, A33, A9, A34], by simp [E0, E1, E5, E6, E7, E9, E15, E16, E17, E18, E19, B0, B1, B5, B6, B7, B9, B15, B16, B17, A0, A1, A5, A6, A7, A8, A32, A33, A9, A34], by simp [E0, E1, E5, E6, E7, E9, E15, E16, E17, E18, E19, B0, B1, B5, B6, B7, B9, B15, B16, B17, A0, A1, A5, A6, A7, A8, A32, A33, A9, A34], by simp [E0, E1, E5, E6, E7, E9, E15, E16, E17, E18, E19, B0, B1, B5, B6, B7, B9, B15, B16, B17, A0, A1, A5, A6, A7, A8, A32, A33, A9, A34], by omega, by omega⟩
        · repeat' (first | (refine wpc_split _ (fun hc => ?_) (fun hc => ?_) <;> (try simp at hc)) | (refine ww_split _ (fun hc => ?_) (fun hc => ?_) <;> (try simp at hc)) | (refine wp_drawF (by kernel_rfl) ?_) | (refine wk_yldW _ ?_) | (refine layOwe _ (by kernel_rfl) ?_) | (refine owe ?_ (fun ho => ?_)) | (simp (disch := first | assumption | omega | (simp; done) | (simp; omega)) [E0, E1, E5, E6, E7, E9, E15, E16, E17, E18, E19, -getElem?_pos, List.getElem?_cons_zero, List.getElem?_cons_succ]))
          exact Bih (Bm - 1) _ _ (by omega) ⟨i + 1, nth raw i, i + 1, by simp [E0, E1, E5, E6, E7, E9, E15, E16, E17, E18, E19, B0, B1, B5, B6, B7, B9, B15, B16, B17, A0, A1, A5, A6, A7, A8, A32, A33, A9, A34], by simp [E0, E1, E5, E6, E7, E9, E15, E16, E17, E18, E19, B0, B1, B5, B6, B7, B9, B15, B16, B17, A0, A1, A5, A6, A7, A8, A32, A33, A9, A34], by simp [E0, E1, E5, E6, E7, E9, E15, E16, E17, E18, E19, B0, B1, B5, B6, B7, B9, B15, B16, B17, A0, A1, A5, A6, A7, A8, A32, A33, A9, A34], by simp [E0, E1, E5, E6, E7, E9, E15, E16, E17, E18, E19, B0, B1, B5, B6, B7, B9, B15, B16, B17, A0, A1, A5, A6, A7, A8, A32, A33, A9, A34], by simp [E0, E1, E5, E6, E7, E9, E15, E16, E17, E18, E19, B0, B1, B5, B6, B7, B9, B15, B16, B17, A0, A1, A5, A6, A7, A8, A32, A33, A9, A34], by simp [E0, E1, E5, E6, E7, E9, E15, E16, E17, E18, E19, B0, B1, B5, B6, B7, B9, B15, B16, B17, A0, A1, A5, A6, A7, A8, A32, A33, A9, A34], by simp [E0, E1, E5, E6, E7, E9, E15, E16, E17, E18, E19, B0, B1, B5, B6, B7, B9, B15, B16, B17, A0, A1, A5, A6, A7, A8, A32, A33, A9, A34], by simp [E0, E1, E5, E6, E7, E9, E15, E16, E17, E18, E19, B0, B1, B5, B6, B7, B9, B15, B16, B17, A0, A1, A5, A6, A7, A8, A32, A33, A9, A34], by simp [E0, E1, E5, E6, E7, E9, E15, E16, E17, E18, E19, B0, B1, B5, B6, B7, B9, B15, B16, B17, A0, A1, A5, A6, A7, A8, A32, A33, A9, A34], by omega, fun _ => ⟨(lastB_stop hg).symm, (fromP_stop hg).symm⟩⟩
    · by_cases hie : i = l.length
      · obtain ⟨rfl, rfl⟩ := hlf (by omega)
        have hfi := (fromP_spec (p := gpL raw) (i := i)).1
        generalize hfrm : fromP (gpL raw) i = frm at *
        generalize hlst : lastB raw i = lst at *
        have hi5 : ¬ i < raw.length := by omega
        repeat' (first | (refine wpc_split _ (fun hc => ?_) (fun hc => ?_) <;> (try simp at hc)) | (refine ww_split _ (fun hc => ?_) (fun hc => ?_) <;> (try simp at hc)) | (refine wp_drawF (by kernel_rfl) ?_) | (refine wk_yldW _ ?_) | (refine layOwe _ (by kernel_rfl) ?_) | (refine owe ?_ (fun ho => ?_)) | (simp (disch := first | assumption | omega | (simp; done) | (simp; omega)) [B0, B1, B5, B6, B7, B9, B15, B16, B17, eI, hrl, -getElem?_pos, List.getElem?_cons_zero, List.getElem?_cons_succ]))
        all_goals try (exfalso; omega)
        refine wp_loopE cfg rfl (fun f0 h0 m fr h => ∃ k : Nat, fr 0 = f0 0 ∧ fr 1 = f0 1 ∧ fr 5 = f0 5 ∧ fr 6 = f0 6 ∧ fr 7 = f0 7 ∧ fr 9 = f0 9 ∧ fr 15 = f0 15 ∧ fr 16 = f0 16 ∧ fr 17 = f0 17 ∧ fr 18 = f0 18 ∧ fr 19 = .int .i64 k ∧ (k + m = i) ∧ (frm ≤ k)) (i - frm) _ _ ⟨frm, rfl, rfl, rfl, rfl, rfl, rfl, rfl, rfl, rfl, rfl, by first | rfl | (simp; done) | (simp [R]; done) | simp [R], by first | rfl | (simp; done) | omega, by first | rfl | (simp; done) | omega⟩ ?_
        rintro Em Ef Eh ⟨k, E0, E1, E5, E6, E7, E9, E15, E16, E17, E18, E19, hm3, hfk⟩ Eih
        try simp [B0, B1, B5, B6, B7, B9, B15, B16, B17, A0, A1, A5, A6, A7, A8, A32, A33, A9, A34] at E0 E1 E5 E6 E7 E9 E15 E16 E17 E18
        by_cases hk3 : k < i
        · have hXk := hXn k (by omega)
          rw [gap_law (by omega) hfrm hfk hk3 (.inl (by omega)), if_neg (by omega)] at hXk
          by_cases hln : lst = -1
          · repeat' (first | (refine wpc_split _ (fun hc => ?_) (fun hc => ?_) <;> (try simp at hc)) | (refine ww_split _ (fun hc => ?_) (fun hc => ?_) <;> (try simp at hc)) | (refine wp_drawF (by kernel_rfl) ?_) | (refine wk_yldW _ ?_) | (refine layOwe _ (by kernel_rfl) ?_) | (refine owe ?_ (fun ho => ?_)) | (simp (disch := first | assumption | omega | (simp; done) | (simp; omega)) [E0, E1, E5, E6, E7, E9, E15, E16, E17, E18, E19, eI, hXk, hXl, hrl, hln, -getElem?_pos, List.getElem?_cons_zero, List.getElem?_cons_succ]))
            all_goals first
              | (exfalso; omega)
              | exact Eih (Em - 1) _ _ (by omega) ⟨k + 1, by simp [E0, E1, E5, E6, E7, E9, E15, E16, E17, E18, E19, B0, B1, B5, B6, B7, B9, B15, B16, B17, A0, A1, A5, A6, A7, A8, A32, A33, A9, A34], by simp [E0, E1, E5, E6, E7, E9, E15, E16, E17, E18, E19, B0, B1, B5, B6, B7, B9, B15, B16, B17, A0, A1, A5, A6, A7, A8, A32, A33, A9, A34], by simp [E0, E1, E5, E6, E7, E9, E15, E16, E17, E18, E19, B0, B1, B5, B6, B7, B9, B15, B16, B17, A0, A1, A5, A6, A7, A8, A32, A33, A9, A34], by simp [E0, E1, E5, E6, E7, E9, E15, E16, E17, E18, E19, B0, B1, B5, B6, B7, B9, B15, B16, B17, A0, A1, A5, A6, A7, A8, A32, A33, A9, A34], by simp [E0, E1, E5, E6, E7, E9, E15, E16, E17, E18, E19, B0, B1, B5, B6, B7, B9, B15, B16, B17, A0, A1, A5, A6, A7, A8, A32, A33, A9, A34], by simp [E0, E1, E5, E6, E7, E9, E15, E16, E17, E18, E19, B0, B1, B5, B6, B7, B9, B15, B16, B17, A0, A1, A5, A6, A7, A8, A32, A33, A9, A34], by simp [E0, E1, E5, E6, E7, E9, E15, E16, E17, E18, E19, B0, B1, B5, B6, B7, B9, B15, B16, B17, A0, A1, A5, A6, A7, A8, A32, A33, A9, A34], by simp [E0, E1, E5, E6, E7, E9, E15, E16, E17, E18, E19, B0, B1, B5, B6, B7, B9, B15, B16, B17, A0, A1, A5, A6, A7, A8, A32, A33, A9, A34], by simp [E0, E1, E5, E6, E7, E9, E15, E16, E17, E18, E19, B0, B1, B5, B6, B7, B9, B15, B16, B17, A0, A1, A5, A6, A7, A8, A32, A33, A9, A34], by simp [E0, E1, E5, E6, E7, E9, E15, E16, E17, E18, E19, B0, B1, B5, B6, B7, B9, B15, B16, B17, A0, A1, A5, A6, A7, A8, A32, A33, A9, A34], by simp [E0, E1, E5, E6, E7, E9, E15, E16, E17, E18, E19, B0, B1, B5, B6, B7, B9, B15, B16, B17, A0, A1, A5, A6, A7, A8, A32, A33, A9, A34], by omega, by omega⟩
          · repeat' (first | (refine wpc_split _ (fun hc => ?_) (fun hc => ?_) <;> (try simp at hc)) | (refine ww_split _ (fun hc => ?_) (fun hc => ?_) <;> (try simp at hc)) | (refine wp_drawF (by kernel_rfl) ?_) | (refine wk_yldW _ ?_) | (refine layOwe _ (by kernel_rfl) ?_) | (refine owe ?_ (fun ho => ?_)) | (simp (disch := first | assumption | omega | (simp; done) | (simp; omega)) [E0, E1, E5, E6, E7, E9, E15, E16, E17, E18, E19, eI, hXk, hXl, hrl, hln, -getElem?_pos, List.getElem?_cons_zero, List.getElem?_cons_succ]))
            all_goals first
              | (exfalso; omega)
              | exact Eih (Em - 1) _ _ (by omega) ⟨k + 1, by simp [E0, E1, E5, E6, E7, E9, E15, E16, E17, E18, E19, B0, B1, B5, B6, B7, B9, B15, B16, B17, A0, A1, A5, A6, A7, A8, A32, A33, A9, A34], by simp [E0, E1, E5, E6, E7, E9, E15, E16, E17, E18, E19, B0, B1, B5, B6, B7, B9, B15, B16, B17, A0, A1, A5, A6, A7, A8, A32, A33, A9, A34], by simp [E0, E1, E5, E6, E7, E9, E15, E16, E17, E18, E19, B0, B1, B5, B6, B7, B9, B15, B16, B17, A0, A1, A5, A6, A7, A8, A32, A33, A9, A34], by simp [E0, E1, E5, E6, E7, E9, E15, E16, E17, E18, E19, B0, B1, B5, B6, B7, B9, B15, B16, B17, A0, A1, A5, A6, A7, A8, A32, A33, A9, A34], by simp [E0, E1, E5, E6, E7, E9, E15, E16, E17, E18, E19, B0, B1, B5, B6, B7, B9, B15, B16, B17, A0, A1, A5, A6, A7, A8, A32, A33, A9, A34], by simp [E0, E1, E5, E6, E7, E9, E15, E16, E17, E18, E19, B0, B1, B5, B6, B7, B9, B15, B16, B17, A0, A1, A5, A6, A7, A8, A32, A33, A9, A34], by simp [E0, E1, E5, E6, E7, E9, E15, E16, E17, E18, E19, B0, B1, B5, B6, B7, B9, B15, B16, B17, A0, A1, A5, A6, A7, A8, A32, A33, A9, A34], by simp [E0, E1, E5, E6, E7, E9, E15, E16, E17, E18, E19, B0, B1, B5, B6, B7, B9, B15, B16, B17, A0, A1, A5, A6, A7, A8, A32, A33, A9, A34], by simp [E0, E1, E5, E6, E7, E9, E15, E16, E17, E18, E19, B0, B1, B5, B6, B7, B9, B15, B16, B17, A0, A1, A5, A6, A7, A8, A32, A33, A9, A34], by simp [E0, E1, E5, E6, E7, E9, E15, E16, E17, E18, E19, B0, B1, B5, B6, B7, B9, B15, B16, B17, A0, A1, A5, A6, A7, A8, A32, A33, A9, A34], by simp [E0, E1, E5, E6, E7, E9, E15, E16, E17, E18, E19, B0, B1, B5, B6, B7, B9, B15, B16, B17, A0, A1, A5, A6, A7, A8, A32, A33, A9, A34], by omega, by omega⟩
        · repeat' (first | (refine wpc_split _ (fun hc => ?_) (fun hc => ?_) <;> (try simp at hc)) | (refine ww_split _ (fun hc => ?_) (fun hc => ?_) <;> (try simp at hc)) | (refine wp_drawF (by kernel_rfl) ?_) | (refine wk_yldW _ ?_) | (refine layOwe _ (by kernel_rfl) ?_) | (refine owe ?_ (fun ho => ?_)) | (simp (disch := first | assumption | omega | (simp; done) | (simp; omega)) [E0, E1, E5, E6, E7, E9, E15, E16, E17, E18, E19, -getElem?_pos, List.getElem?_cons_zero, List.getElem?_cons_succ]))
          exact Bih (Bm - 1) _ _ (by omega) ⟨i + 1, -1, i + 1, by simp [E0, E1, E5, E6, E7, E9, E15, E16, E17, E18, E19, B0, B1, B5, B6, B7, B9, B15, B16, B17, A0, A1, A5, A6, A7, A8, A32, A33, A9, A34], by simp [E0, E1, E5, E6, E7, E9, E15, E16, E17, E18, E19, B0, B1, B5, B6, B7, B9, B15, B16, B17, A0, A1, A5, A6, A7, A8, A32, A33, A9, A34], by simp [E0, E1, E5, E6, E7, E9, E15, E16, E17, E18, E19, B0, B1, B5, B6, B7, B9, B15, B16, B17, A0, A1, A5, A6, A7, A8, A32, A33, A9, A34], by simp [E0, E1, E5, E6, E7, E9, E15, E16, E17, E18, E19, B0, B1, B5, B6, B7, B9, B15, B16, B17, A0, A1, A5, A6, A7, A8, A32, A33, A9, A34], by simp [E0, E1, E5, E6, E7, E9, E15, E16, E17, E18, E19, B0, B1, B5, B6, B7, B9, B15, B16, B17, A0, A1, A5, A6, A7, A8, A32, A33, A9, A34], by simp [E0, E1, E5, E6, E7, E9, E15, E16, E17, E18, E19, B0, B1, B5, B6, B7, B9, B15, B16, B17, A0, A1, A5, A6, A7, A8, A32, A33, A9, A34], by simp [E0, E1, E5, E6, E7, E9, E15, E16, E17, E18, E19, B0, B1, B5, B6, B7, B9, B15, B16, B17, A0, A1, A5, A6, A7, A8, A32, A33, A9, A34], by simp [E0, E1, E5, E6, E7, E9, E15, E16, E17, E18, E19, B0, B1, B5, B6, B7, B9, B15, B16, B17, A0, A1, A5, A6, A7, A8, A32, A33, A9, A34], by simp [E0, E1, E5, E6, E7, E9, E15, E16, E17, E18, E19, B0, B1, B5, B6, B7, B9, B15, B16, B17, A0, A1, A5, A6, A7, A8, A32, A33, A9, A34], by omega, fun h => by omega⟩
      · repeat' (first | (refine wpc_split _ (fun hc => ?_) (fun hc => ?_) <;> (try simp at hc)) | (refine ww_split _ (fun hc => ?_) (fun hc => ?_) <;> (try simp at hc)) | (refine wp_drawF (by kernel_rfl) ?_) | (refine wk_yldW _ ?_) | (refine layOwe _ (by kernel_rfl) ?_) | (refine owe ?_ (fun ho => ?_)) | (simp (disch := first | assumption | omega | (simp; done) | (simp; omega)) [B0, B1, B5, B6, B7, B9, B15, B16, B17, hrl, -getElem?_pos, List.getElem?_cons_zero, List.getElem?_cons_succ]))
        all_goals first | rfl | (exfalso; omega)
  | true =>
    generalize hLS : levS l true = LS at *
    refine outS_of_wp cfg (fn := Tryd.f7) Tryd.func7 rfl (by simp [Tryd.f7]) ?_
    simp (disch := first | assumption | omega | (simp; done) | (simp; omega)) [-getElem?_pos, List.getElem?_cons_zero, List.getElem?_cons_succ, Tryd.f7]
    repeat' (first | (refine wpc_split _ (fun hc => ?_) (fun hc => ?_) <;> (try simp at hc)) | (refine ww_split _ (fun hc => ?_) (fun hc => ?_) <;> (try simp at hc)) | (refine wp_drawF (by kernel_rfl) ?_) | (refine wk_yldW _ ?_) | (refine layOwe _ (by kernel_rfl) ?_) | (refine owe ?_ (fun ho => ?_)) | (simp (disch := first | assumption | omega | (simp; done) | (simp; omega)) [hLS, -getElem?_pos, List.getElem?_cons_zero, List.getElem?_cons_succ]))
    refine wp_loopE cfg rfl (fun f0 h0 m fr h => ∃ i : Nat, ∃ fl : Fl, fr 0 = f0 0 ∧ fr 1 = f0 1 ∧ fr 5 = f0 5 ∧ fr 6 = f0 6 ∧ fr 7 = f0 7 ∧ fr 8 = f0 8 ∧ fr 32 = f0 32 ∧ fr 33 = f0 33 ∧ fr 9 = R fl eI (rawL true (l.take i)) ∧ fr 34 = .int .i64 i ∧ (App h.ts 1 fl) ∧ (i + m = l.length) ∧ (∀ j, j < i → (kindG (nth l j)).2 = 0)) (l.length) _ _ ⟨0, (true, true, none), rfl, rfl, rfl, rfl, rfl, rfl, rfl, rfl, by simp [rawL]; rfl, by first | rfl | (simp; done) | (simp [R]; done) | simp [R], App.nil _ _ _, by first | rfl | (simp; done) | omega, fun j hj => by omega⟩ ?_
    rintro Am Af Ah ⟨i, fl, A0, A1, A5, A6, A7, A8, A32, A33, A9, A34, hap, hm, hok⟩ Aih
    try simp at A0 A1 A5 A6 A7 A8 A32 A33
    by_cases hi : i < l.length
    · by_cases hk : (kindG (nth l i)).2 = 0
      · have hlen : (rawL true (l.take i)).length ≤ i := by rw [rawL_len]; simp; omega
        have htk := rawL_take (right := true) hi
        rcases kind_range hk with hkk | hkk | hkk | hkk | hkk
        all_goals
          rw [hkk] at htk
          first
            | rw [strong_0] at htk
            | rw [strong_1] at htk
            | rw [strong_2] at htk
            | rw [strong_3] at htk
            | rw [strong_4] at htk
          try rw [show twoF true = 2 from rfl] at htk
          repeat' (first | (refine wpc_split _ (fun hc => ?_) (fun hc => ?_) <;> (try simp at hc)) | (refine ww_split _ (fun hc => ?_) (fun hc => ?_) <;> (try simp at hc)) | (refine wp_drawF (by kernel_rfl) ?_) | (refine wk_yldW _ ?_) | (refine layOwe _ (by kernel_rfl) ?_) | (refine owe ?_ (fun ho => ?_)) | (simp (disch := first | assumption | omega | (simp; done) | (simp; omega)) [A0, A1, A5, A6, A7, A8, A32, A33, A9, A34, eI, hk, hkk, fold_I1, -getElem?_pos, List.getElem?_cons_zero, List.getElem?_cons_succ]))
          exact Aih (Am - 1) _ _ (by omega) ⟨i + 1, _, by simp [A0, A1, A5, A6, A7, A8, A32, A33, A9, A34, htk], by simp [A0, A1, A5, A6, A7, A8, A32, A33, A9, A34, htk], by simp [A0, A1, A5, A6, A7, A8, A32, A33, A9, A34, htk], by simp [A0, A1, A5, A6, A7, A8, A32, A33, A9, A34, htk], by simp [A0, A1, A5, A6, A7, A8, A32, A33, A9, A34, htk], by simp [A0, A1, A5, A6, A7, A8, A32, A33, A9, A34, htk], by simp [A0, A1, A5, A6, A7, A8, A32, A33, A9, A34, htk], by simp [A0, A1, A5, A6, A7, A8, A32, A33, A9, A34, htk], by simp [A0, A1, A5, A6, A7, A8, A32, A33, A9, A34, htk], by simp [A0, A1, A5, A6, A7, A8, A32, A33, A9, A34, htk], App.new _ _ _, by omega, (fun j hj => by (by_cases e : j = i; (subst e; exact hk); exact hok j (by omega)))⟩
      · rw [okK_false hi hk] at hL
        simp at hL
        have hke := kind_err hk
        repeat' (first | (refine wpc_split _ (fun hc => ?_) (fun hc => ?_) <;> (try simp at hc)) | (refine ww_split _ (fun hc => ?_) (fun hc => ?_) <;> (try simp at hc)) | (refine wp_drawF (by kernel_rfl) ?_) | (refine wk_yldW _ ?_) | (refine layOwe _ (by kernel_rfl) ?_) | (refine owe ?_ (fun ho => ?_)) | (simp (disch := first | assumption | omega | (simp; done) | (simp; omega)) [A0, A1, A5, A6, A7, A8, A32, A33, A9, A34, eI, hk, hke, hL, -getElem?_pos, List.getElem?_cons_zero, List.getElem?_cons_succ]))
    rw [okK_true (fun j hj => hok j (by omega)), if_pos rfl] at hL
    have h1 : l.take i = l := List.take_of_length_le (by omega)
    rw [h1] at A9
    have hrl := rawL_len true l
    have hXl := lvL_len (1) (rawL true l)
    have hXn := fun k (h : k < (rawL true l).length) => lvL_nth (base := 1) h
    have hbb : baseF true = 1 := rfl
    rw [hbb] at hL
    generalize hraw : rawL true l = raw at *
    generalize hX : lvL (1) raw = X at *
    subst hL
    simp only at A5 A6
    clear Aih hok hap
    repeat' (first | (refine wpc_split _ (fun hc => ?_) (fun hc => ?_) <;> (try simp at hc)) | (refine ww_split _ (fun hc => ?_) (fun hc => ?_) <;> (try simp at hc)) | (refine wp_drawF (by kernel_rfl) ?_) | (refine wk_yldW _ ?_) | (refine layOwe _ (by kernel_rfl) ?_) | (refine owe ?_ (fun ho => ?_)) | (simp (disch := first | assumption | omega | (simp; done) | (simp; omega)) [A0, A1, A5, A6, A7, A8, A32, A33, A9, A34, hXl, hrl, -getElem?_pos, List.getElem?_cons_zero, List.getElem?_cons_succ]))
    refine wp_loopE cfg rfl (fun f0 h0 m fr h => ∃ i : Nat, ∃ lst : Int, ∃ frm : Nat, fr 0 = f0 0 ∧ fr 1 = f0 1 ∧ fr 5 = f0 5 ∧ fr 6 = f0 6 ∧ fr 7 = f0 7 ∧ fr 9 = f0 9 ∧ fr 15 = .int .i64 lst ∧ fr 16 = .int .i64 frm ∧ fr 17 = .int .i64 i ∧ (i + m = l.length + 1) ∧ (i ≤ l.length → lst = lastB raw i ∧ frm = fromP (gpL raw) i)) (l.length + 1) _ _ ⟨0, -1, 0, rfl, rfl, rfl, rfl, rfl, rfl, by first | rfl | (simp; done) | (simp [R]; done) | simp [R], by first | rfl | (simp; done) | (simp [R]; done) | simp [R], by first | rfl | (simp; done) | (simp [R]; done) | simp [R], by first | rfl | (simp; done) | omega, fun _ => ⟨rfl, rfl⟩⟩ ?_
    rintro Bm Bf Bh ⟨i, lst, frm, B0, B1, B5, B6, B7, B9, B15, B16, B17, hm2, hlf⟩ Bih
    try simp [A0, A1, A5, A6, A7, A8, A32, A33, A9, A34] at B0 B1 B5 B6 B7 B9
    by_cases hi2 : i < l.length
    · obtain ⟨rfl, rfl⟩ := hlf (by omega)
      have hXi := hXn i (by omega)
      cases hg : gpL raw i with
      | true =>
        have hneg : nth raw i < 0 := of_decide_eq_true hg
        repeat' (first | (refine wpc_split _ (fun hc => ?_) (fun hc => ?_) <;> (try simp at hc)) | (refine ww_split _ (fun hc => ?_) (fun hc => ?_) <;> (try simp at hc)) | (refine wp_drawF (by kernel_rfl) ?_) | (refine wk_yldW _ ?_) | (refine layOwe _ (by kernel_rfl) ?_) | (refine owe ?_ (fun ho => ?_)) | (simp (disch := first | assumption | omega | (simp; done) | (simp; omega)) [B0, B1, B5, B6, B7, B9, B15, B16, B17, eI, hrl, -getElem?_pos, List.getElem?_cons_zero, List.getElem?_cons_succ]))
        all_goals first
          | (exfalso; omega)
          | exact Bih (Bm - 1) _ _ (by omega) ⟨i + 1, lastB raw i, fromP (gpL raw) i, by simp [B0, B1, B5, B6, B7, B9, B15, B16, B17, A0, A1, A5, A6, A7, A8, A32, A33, A9, A34], by simp [B0, B1, B5, B6, B7, B9, B15, B16, B17, A0, A1, A5, A6, A7, A8, A32, A33, A9, A34], by simp [B0, B1, B5, B6, B7, B9, B15, B16, B17, A0, A1, A5, A6, A7, A8, A32, A33, A9, A34], by simp [B0, B1, B5, B6, B7, B9, B15, B16, B17, A0, A1, A5, A6, A7, A8, A32, A33, A9, A34], by simp [B0, B1, B5, B6, B7, B9, B15, B16, B17, A0, A1, A5, A6, A7, A8, A32, A33, A9, A34], by simp [B0, B1, B5, B6, B7, B9, B15, B16, B17, A0, A1, A5, A6, A7, A8, A32, A33, A9, A34], by simp [B0, B1, B5, B6, B7, B9, B15, B16, B17, A0, A1, A5, A6, A7, A8, A32, A33, A9, A34], by simp [B0, B1, B5, B6, B7, B9, B15, B16, B17, A0, A1, A5, A6, A7, A8, A32, A33, A9, A34], by simp [B0, B1, B5, B6, B7, B9, B15, B16, B17, A0, A1, A5, A6, A7, A8, A32, A33, A9, A34], by omega, fun _ => ⟨(lastB_step hg).symm, (fromP_step hg).symm⟩⟩
      | false =>
        have hpos : 0 ≤ nth raw i := by have : ¬ nth raw i < 0 := of_decide_eq_false hg; omega
        have hnn : ¬ nth raw i < 0 := by omega
        rw [lev_own (by omega) hg] at hXi
        have hfi := (fromP_spec (p := gpL raw) (i := i)).1
        generalize hfrm : fromP (gpL raw) i = frm at *
        generalize hlst : lastB raw i = lst at *
        repeat' (first | (refine wpc_split _ (fun hc => ?_) (fun hc => ?_) <;> (try simp at hc)) | (refine ww_split _ (fun hc => ?_) (fun hc => ?_) <;> (try simp at hc)) | (refine wp_drawF (by kernel_rfl) ?_) | (refine wk_yldW _ ?_) | (refine layOwe _ (by kernel_rfl) ?_) | (refine owe ?_ (fun ho => ?_)) | (simp (disch := first | assumption | omega | (simp; done) | (simp; omega)) [B0, B1, B5, B6, B7, B9, B15, B16, B17, eI, hXi, hrl, hXl, hnn, -getElem?_pos, List.getElem?_cons_zero, List.getElem?_cons_succ]))
        all_goals try (exfalso; omega)
        refine wp_loopE cfg rfl (fun f0 h0 m fr h => ∃ k : Nat, fr 0 = f0 0 ∧ fr 1 = f0 1 ∧ fr 5 = f0 5 ∧ fr 6 = f0 6 ∧ fr 7 = f0 7 ∧ fr 9 = f0 9 ∧ fr 15 = f0 15 ∧ fr 16 = f0 16 ∧ fr 17 = f0 17 ∧ fr 18 = f0 18 ∧ fr 19 = .int .i64 k ∧ (k + m = i) ∧ (frm ≤ k)) (i - frm) _ _ ⟨frm, rfl, rfl, rfl, rfl, rfl, rfl, rfl, rfl, rfl, rfl, by first | rfl | (simp; done) | (simp [R]; done) | simp [R], by first | rfl | (simp; done) | omega, by first | rfl | (simp; done) | omega⟩ ?_
        rintro Em Ef Eh ⟨k, E0, E1, E5, E6, E7, E9, E15, E16, E17, E18, E19, hm3, hfk⟩ Eih
        try simp [B0, B1, B5, B6, B7, B9, B15, B16, B17, A0, A1, A5, A6, A7, A8, A32, A33, A9, A34] at E0 E1 E5 E6 E7 E9 E15 E16 E17 E18
        by_cases hk3 : k < i
        · have hXk := hXn k (by omega)
          rw [gap_law (by omega) hfrm hfk hk3 (.inr hg), hlst, if_pos (by omega)] at hXk
          by_cases hln : lst = nth raw i
          · rw [if_pos hln] at hXk
            repeat' (first | (refine wpc_split _ (fun hc => ?_) (fun hc => ?_) <;> (try simp at hc)) | (refine ww_split _ (fun hc => ?_) (fun hc => ?_) <;> (try simp at hc)) | (refine wp_drawF (by kernel_rfl) ?_) | (refine wk_yldW _ ?_) | (refine layOwe _ (by kernel_rfl) ?_) | (refine owe ?_ (fun ho => ?_)) | (simp (disch := first | assumption | omega | (simp; done) | (simp; omega)) [E0, E1, E5, E6, E7, E9, E15, E16, E17, E18, E19, eI, hXk, hXl, hrl, hln, -getElem?_pos, List.getElem?_cons_zero, List.getElem?_cons_succ]))
            all_goals first
              | (exfalso; omega)
              | exact Eih (Em - 1) _ _ (by omega) ⟨k + 1, by simp [E0, E1, E5, E6, E7, E9, E15, E16, E17, E18, E19, B0, B1, B5, B6, B7, B9, B15, B16, B17, A0, A1, A5, A6, A7, A8, A32, A33, A9, A34], by simp [E0, E1, E5, E6, E7, E9, E15, E16, E17, E18, E19, B0, B1, B5, B6, B7, B9, B15, B16, B17, A0, A1, A5, A6, A7, A8, A32, A33, A9, A34], by simp [E0, E1, E5, E6, E7, E9, E15, E16, E17, E18, E19, B0, B1, B5, B6, B7, B9, B15, B16, B17, A0, A1, A5, A6, A7, A8, A32, A33, A9, A34], by simp [E0, E1, E5, E6, E7, E9, E15, E16, E17, E18, E19, B0, B1, B5, B6, B7, B9, B15, B16, B17, A0, A1, A5, A6, A7, A8, A32, A33, A9, A34], by simp [E0, E1, E5, E6, E7, E9, E15, E16, E17, E18, E19, B0, B1, B5, B6, B7, B9, B15, B16, B17, A0, A1, A5, A6, A7, A8, A32, A33, A9, A34], by simp [E0, E1, E5, E6, E7, E9, E15, E16, E17, E18, E19, B0, B1, B5, B6, B7, B9, B15, B16, B17, A0, A1, A5, A6, A7, A8, A32, A33, A9, A34], by simp [E0, E1, E5, E6, E7, E9, E15, E16, E17, E18, E19, B0, B1, B5, B6, B7, B9, B15, B16, B17, A0, A1, A5, A6, A7, A8, A32, A33, A9, A34], by simp [E0, E1, E5, E6, E7, E9, E15, E16, E17, E18, E19, B0, B1, B5, B6, B7, B9, B15, B16, B17, A0, A1, A5, A6, A7, A8, A32, A33, A9, A34], by simp [E0, E1, E5, E6, E7, E9, E15, E16, E17, E18, E19, B0, B1, B5, B6, B7, B9, B15, B16, B17, A0, A1, A5, A6, A7, A8, A32, A33, A9, A34], by simp [E0, E1, E5, E6, E7, E9, E15, E16, E17, E18, E19, B0, B1, B5, B6, B7, B9, B15, B16, B17, A0, A1, A5, A6, A7, A8, A32, A33, A9, A34], by simp [E0, E1, E5, E6, E7, E9, E15, E16, E17, E18, E19, B0, B1, B5, B6, B7, B9, B15, B16, B17, A0, A1, A5, A6, A7, A8, A32, A33, A9, A34], by omega, by omega⟩
          · rw [if_neg hln] at hXk
            repeat' (first | (refine wpc_split _ (fun hc => ?_) (fun hc => ?_) <;> (try simp at hc)) | (refine ww_split _ (fun hc => ?_) (fun hc => ?_) <;> (try simp at hc)) | (refine wp_drawF (by kernel_rfl) ?_) | (refine wk_yldW _ ?_) | (refine layOwe _ (by kernel_rfl) ?_) | (refine owe ?_ (fun ho => ?_)) | (simp (disch := first | assumption | omega | (simp; done) | (simp; omega)) [E0, E1, E5, E6, E7, E9, E15, E16, E17, E18, E19, eI, hXk, hXl, hrl, hln, -getElem?_pos, List.getElem?_cons_zero, List.getElem?_cons_succ]))
            all_goals first
              | (exfalso; omega)
              | exact Eih (Em - 1) _ _ (by omega) ⟨k + 1, by simp [E0, E1, E5, E6, E7, E9, E15, E16, E17, E18, E19, B0, B1, B5, B6, B7, B9, B15, B16, B17, A0, A1, A5, A6, A7, A8, A32, A33, A9, A34], by simp [E0, E1, E5, E6, E7, E9, E15, E16, E17, E18, E19, B0, B1, B5, B6, B7, B9, B15, B16, B17, A0, A1, A5, A6, A7, A8, A32, A33, A9, A34], by simp [E0, E1, E5, E6, E7, E9, E15, E16, E17, E18, E19, B0, B1, B5, B6, B7, B9, B15, B16, B17, A0, A1, A5, A6, A7, A8, A32, A33, A9, A34], by simp [E0, E1, E5, E6, E7, E9, E15, E16, E17, E18, E19, B0, B1, B5, B6, B7, B9, B15, B16, B17, A0, A1, A5, A6, A7, A8, A32, A33, A9, A34], by simp [E0, E1, E5, E6, E7, E9, E15, E16, E17, E18, E19, B0, B1, B5, B6, B7, B9, B15, B16, B17, A0, A1, A5, A6, A7, A8, A32, A33, A9, A34], by simp [E0, E1, E5, E6, E7, E9, E15, E16, E17, E18, E19, B0, B1, B5, B6, B7, B9, B15, B16, B17, A0, A1, A5, A6, A7, A8, A32, A33, A9, A34], by simp [E0, E1, E5, E6, E7, E9, E15, E16, E17, E18, E19, B0, B1, B5, B6, B7, B9, B15, B16, B17, A0, A1, A5, A6, A7, A8, A32, A33, A9, A34], by simp [E0, E1, E5, E6, E7, E9, E15, E16, E17, E18, E19, B0, B1, B5, B6, B7, B9, B15, B16, B17, A0, A1, A5, A6, A7, A8, A32, A33, A9, A34], by simp [E0, E1, E5, E6, E7, E9, E15, E16, E17, E18, E19, B0, B1, B5, B6, B7, B9, B15, B16, B17, A0, A1, A5, A6, A7, A8, A32, A33, A9, A34], by simp [E0, E1, E5, E6, E7, E9, E15, E16, E17, E18, E19, B0, B1, B5, B6, B7, B9, B15, B16, B17, A0, A1, A5, A6, A7, A8, A32, A33, A9, A34], by simp [E0, E1, E5, E6, E7, E9, E15, E16, E17, E18, E19, B0, B1, B5, B6, B7, B9, B15, B16, B17, A0, A1, A5, A6, A7, A8, A32, A33, A9, A34], by omega, by omega⟩
        · repeat' (first | (refine wpc_split _ (fun hc => ?_) (fun hc => ?_) <;> (try simp at hc)) | (refine ww_split _ (fun hc => ?_) (fun hc => ?_) <;> (try simp at hc)) | (refine wp_drawF (by kernel_rfl) ?_) | (refine wk_yldW _ ?_) | (refine layOwe _ (by kernel_rfl) ?_) | (refine owe ?_ (fun ho => ?_)) | (simp (disch := first | assumption | omega | (simp; done) | (simp; omega)) [E0, E1, E5, E6, E7, E9, E15, E16, E17, E18, E19, -getElem?_pos, List.getElem?_cons_zero, List.getElem?_cons_succ]))
          exact Bih (Bm - 1) _ _ (by omega) ⟨i + 1, nth raw i, i + 1, by simp [E0, E1, E5, E6, E7, E9, E15, E16, E17, E18, E19, B0, B1, B5, B6, B7, B9, B15, B16, B17, A0, A1, A5, A6, A7, A8, A32, A33, A9, A34], by simp [E0, E1, E5, E6, E7, E9, E15, E16, E17, E18, E19, B0, B1, B5, B6, B7, B9, B15, B16, B17, A0, A1, A5, A6, A7, A8, A32, A33, A9, A34], by simp [E0, E1, E5, E6, E7, E9, E15, E16, E17, E18, E19, B0, B1, B5, B6, B7, B9, B15, B16, B17, A0, A1, A5, A6, A7, A8, A32, A33, A9, A34], by simp [E0, E1, E5, E6, E7, E9, E15, E16, E17, E18, E19, B0, B1, B5, B6, B7, B9, B15, B16, B17, A0, A1, A5, A6, A7, A8, A32, A33, A9, A34], by simp [E0, E1, E5, E6, E7, E9, E15, E16, E17, E18, E19, B0, B1, B5, B6, B7, B9, B15, B16, B17, A0, A1, A5, A6, A7, A8, A32, A33, A9, A34], by simp [E0, E1, E5, E6, E7, E9, E15, E16, E17, E18, E19, B0, B1, B5, B6, B7, B9, B15, B16, B17, A0, A1, A5, A6, A7, A8, A32, A33, A9, A34], by simp [E0, E1, E5, E6, E7, E9, E15, E16, E17, E18, E19, B0, B1, B5, B6, B7, B9, B15, B16, B17, A0, A1, A5, A6, A7, A8, A32, A33, A9, A34], by simp [E0, E1, E5, E6, E7, E9, E15, E16, E17, E18, E19, B0, B1, B5, B6, B7, B9, B15, B16, B17, A0, A1, A5, A6, A7, A8, A32, A33, A9, A34], by simp [E0, E1, E5, E6, E7, E9, E15, E16, E17, E18, E19, B0, B1, B5, B6, B7, B9, B15, B16, B17, A0, A1, A5, A6, A7, A8, A32, A33, A9, A34], by omega, fun _ => ⟨(lastB_stop hg).symm, (fromP_stop hg).symm⟩⟩
    · by_cases hie : i = l.length
      · obtain ⟨rfl, rfl⟩ := hlf (by omega)
        have hfi := (fromP_spec (p := gpL raw) (i := i)).1
        generalize hfrm : fromP (gpL raw) i = frm at *
        generalize hlst : lastB raw i = lst at *
        have hi5 : ¬ i < raw.length := by omega
        repeat' (first | (refine wpc_split _ (fun hc => ?_) (fun hc => ?_) <;> (try simp at hc)) | (refine ww_split _ (fun hc => ?_) (fun hc => ?_) <;> (try simp at hc)) | (refine wp_drawF (by kernel_rfl) ?_) | (refine wk_yldW _ ?_) | (refine layOwe _ (by kernel_rfl) ?_) | (refine owe ?_ (fun ho => ?_)) | (simp (disch := first | assumption | omega | (simp; done) | (simp; omega)) [B0, B1, B5, B6, B7, B9, B15, B16, B17, eI, hrl, -getElem?_pos, List.getElem?_cons_zero, List.getElem?_cons_succ]))
        all_goals try (exfalso; omega)
        refine wp_loopE cfg rfl (fun f0 h0 m fr h => ∃ k : Nat, fr 0 = f0 0 ∧ fr 1 = f0 1 ∧ fr 5 = f0 5 ∧ fr 6 = f0 6 ∧ fr 7 = f0 7 ∧ fr 9 = f0 9 ∧ fr 15 = f0 15 ∧ fr 16 = f0 16 ∧ fr 17 = f0 17 ∧ fr 18 = f0 18 ∧ fr 19 = .int .i64 k ∧ (k + m = i) ∧ (frm ≤ k)) (i - frm) _ _ ⟨frm, rfl, rfl, rfl, rfl, rfl, rfl, rfl, rfl, rfl, rfl, by first | rfl | (simp; done) | (simp [R]; done) | simp [R], by first | rfl | (simp; done) | omega, by first | rfl | (simp; done) | omega⟩ ?_
        rintro Em Ef Eh ⟨k, E0, E1, E5, E6, E7, E9, E15, E16, E17, E18, E19, hm3, hfk⟩ Eih
        try simp [B0, B1, B5, B6, B7, B9, B15, B16, B17, A0, A1, A5, A6, A7, A8, A32, A33, A9, A34] at E0 E1 E5 E6 E7 E9 E15 E16 E17 E18
        by_cases hk3 : k < i
        · have hXk := hXn k (by omega)
          rw [gap_law (by omega) hfrm hfk hk3 (.inl (by omega)), if_neg (by omega)] at hXk
          by_cases hln : lst = -1
          · repeat' (first | (refine wpc_split _ (fun hc => ?_) (fun hc => ?_) <;> (try simp at hc)) | (refine ww_split _ (fun hc => ?_) (fun hc => ?_) <;> (try simp at hc)) | (refine wp_drawF (by kernel_rfl) ?_) | (refine wk_yldW _ ?_) | (refine layOwe _ (by kernel_rfl) ?_) | (refine owe ?_ (fun ho => ?_)) | (simp (disch := first | assumption | omega | (simp; done) | (simp; omega)) [E0, E1, E5, E6, E7, E9, E15, E16, E17, E18, E19, eI, hXk, hXl, hrl, hln, -getElem?_pos, List.getElem?_cons_zero, List.getElem?_cons_succ]))
            all_goals first
              | (exfalso; omega)
              | exact Eih (Em - 1) _ _ (by omega) ⟨k + 1, by simp [E0, E1, E5, E6, E7, E9, E15, E16, E17, E18, E19, B0, B1, B5, B6, B7, B9, B15, B16, B17, A0, A1, A5, A6, A7, A8, A32, A33, A9, A34], by simp [E0, E1, E5, E6, E7, E9, E15, E16, E17, E18, E19, B0, B1, B5, B6, B7, B9, B15, B16, B17, A0, A1, A5, A6, A7, A8, A32, A33, A9, A34], by simp [E0, E1, E5, E6, E7, E9, E15, E16, E17, E18, E19, B0, B1, B5, B6, B7, B9, B15, B16, B17, A0, A1, A5, A6, A7, A8, A32, A33, A9, A34], by simp [E0, E1, E5, E6, E7, E9, E15, E16, E17, E18, E19, B0, B1, B5, B6, B7, B9, B15, B16, B17, A0, A1, A5, A6, A7, A8, A32, A33, A9, A34], by simp [E0, E1, E5, E6, E7, E9, E15, E16, E17, E18, E19, B0, B1, B5, B6, B7, B9, B15, B16, B17, A0, A1, A5, A6, A7, A8, A32, A33, A9, A34], by simp [E0, E1, E5, E6, E7, E9, E15, E16, E17, E18, E19, B0, B1, B5, B6, B7, B9, B15, B16, B17, A0, A1, A5, A6, A7, A8, A32, A33, A9, A34], by simp [E0, E1, E5, E6, E7, E9, E15, E16, E17, E18, E19, B0, B1, B5, B6, B7, B9, B15, B16, B17, A0, A1, A5, A6, A7, A8, A32, A33, A9, A34], by simp [E0, E1, E5, E6, E7, E9, E15, E16, E17, E18, E19, B0, B1, B5, B6, B7, B9, B15, B16, B17, A0, A1, A5, A6, A7, A8, A32, A33, A9, A34], by simp [E0, E1, E5, E6, E7, E9, E15, E16, E17, E18, E19, B0, B1, B5, B6, B7, B9, B15, B16, B17, A0, A1, A5, A6, A7, A8, A32, A33, A9, A34], by simp [E0, E1, E5, E6, E7, E9, E15, E16, E17, E18, E19, B0, B1, B5, B6, B7, B9, B15, B16, B17, A0, A1, A5, A6, A7, A8, A32, A33, A9, A34], by simp [E0, E1, E5, E6, E7, E9, E15, E16, E17, E18, E19, B0, B1, B5, B6, B7, B9, B15, B16, B17, A0, A1, A5, A6, A7, A8, A32, A33, A9, A34], by omega, by omega⟩
          · repeat' (first | (refine wpc_split _ (fun hc => ?_) (fun hc => ?_) <;> (try simp at hc)) | (refine ww_split _ (fun hc => ?_) (fun hc => ?_) <;> (try simp at hc)) | (refine wp_drawF (by kernel_rfl) ?_) | (refine wk_yldW _ ?_) | (refine layOwe _ (by kernel_rfl) ?_) | (refine owe ?_ (fun ho => ?_)) | (simp (disch := first | assumption | omega | (simp; done) | (simp; omega)) [E0, E1, E5, E6, E7, E9, E15, E16, E17, E18, E19, eI, hXk, hXl, hrl, hln, -getElem?_pos, List.getElem?_cons_zero, List.getElem?_cons_succ]))
            all_goals first
              | (exfalso; omega)
              | exact Eih (Em - 1) _ _ (by omega) ⟨k + 1, by simp [E0, E1, E5, E6, E7, E9, E15, E16, E17, E18, E19, B0, B1, B5, B6, B7, B9, B15, B16, B17, A0, A1, A5, A6, A7, A8, A32, A33, A9, A34], by simp [E0, E1, E5, E6, E7, E9, E15, E16, E17, E18, E19, B0, B1, B5, B6, B7, B9, B15, B16, B17, A0, A1, A5, A6, A7, A8, A32, A33, A9, A34], by simp [E0, E1, E5, E6, E7, E9, E15, E16, E17, E18, E19, B0, B1, B5, B6, B7, B9, B15, B16, B17, A0, A1, A5, A6, A7, A8, A32, A33, A9, A34], by simp [E0, E1, E5, E6, E7, E9, E15, E16, E17, E18, E19, B0, B1, B5, B6, B7, B9, B15, B16, B17, A0, A1, A5, A6, A7, A8, A32, A33, A9, A34], by simp [E0, E1, E5, E6, E7, E9, E15, E16, E17, E18, E19, B0, B1, B5, B6, B7, B9, B15, B16, B17, A0, A1, A5, A6, A7, A8, A32, A33, A9, A34], by simp [E0, E1, E5, E6, E7, E9, E15, E16, E17, E18, E19, B0, B1, B5, B6, B7, B9, B15, B16, B17, A0, A1, A5, A6, A7, A8, A32, A33, A9, A34], by simp [E0, E1, E5, E6, E7, E9, E15, E16, E17, E18, E19, B0, B1, B5, B6, B7, B9, B15, B16, B17, A0, A1, A5, A6, A7, A8, A32, A33, A9, A34], by simp [E0, E1, E5, E6, E7, E9, E15, E16, E17, E18, E19, B0, B1, B5, B6, B7, B9, B15, B16, B17, A0, A1, A5, A6, A7, A8, A32, A33, A9, A34], by simp [E0, E1, E5, E6, E7, E9, E15, E16, E17, E18, E19, B0, B1, B5, B6, B7, B9, B15, B16, B17, A0, A1, A5, A6, A7, A8, A32, A33, A9, A34], by simp [E0, E1, E5, E6, E7, E9, E15, E16, E17, E18, E19, B0, B1, B5, B6, B7, B9, B15, B16, B17, A0, A1, A5, A6, A7, A8, A32, A33, A9, A34], by simp [E0, E1, E5, E6, E7, E9, E15, E16, E17, E18, E19, B0, B1, B5, B6, B7, B9, B15, B16, B17, A0, A1, A5, A6, A7, A8, A32, A33, A9, A34], by omega, by omega⟩
        · repeat' (first | (refine wpc_split _ (fun hc => ?_) (fun hc => ?_) <;> (try simp at hc)) | (refine ww_split _ (fun hc => ?_) (fun hc => ?_) <;> (try simp at hc)) | (refine wp_drawF (by kernel_rfl) ?_) | (refine wk_yldW _ ?_) | (refine layOwe _ (by kernel_rfl) ?_) | (refine owe ?_ (fun ho => ?_)) | (simp (disch := first | assumption | omega | (simp; done) | (simp; omega)) [E0, E1, E5, E6, E7, E9, E15, E16, E17, E18, E19, -getElem?_pos, List.getElem?_cons_zero, List.getElem?_cons_succ]))
          exact Bih (Bm - 1) _ _ (by omega) ⟨i + 1, -1, i + 1, by simp [E0, E1, E5, E6, E7, E9, E15, E16, E17, E18, E19, B0, B1, B5, B6, B7, B9, B15, B16, B17, A0, A1, A5, A6, A7, A8, A32, A33, A9, A34], by simp [E0, E1, E5, E6, E7, E9, E15, E16, E17, E18, E19, B0, B1, B5, B6, B7, B9, B15, B16, B17, A0, A1, A5, A6, A7, A8, A32, A33, A9, A34], by simp [E0, E1, E5, E6, E7, E9, E15, E16, E17, E18, E19, B0, B1, B5, B6, B7, B9, B15, B16, B17, A0, A1, A5, A6, A7, A8, A32, A33, A9, A34], by simp [E0, E1, E5, E6, E7, E9, E15, E16, E17, E18, E19, B0, B1, B5, B6, B7, B9, B15, B16, B17, A0, A1, A5, A6, A7, A8, A32, A33, A9, A34], by simp [E0, E1, E5, E6, E7, E9, E15, E16, E17, E18, E19, B0, B1, B5, B6, B7, B9, B15, B16, B17, A0, A1, A5, A6, A7, A8, A32, A33, A9, A34], by simp [E0, E1, E5, E6, E7, E9, E15, E16, E17, E18, E19, B0, B1, B5, B6, B7, B9, B15, B16, B17, A0, A1, A5, A6, A7, A8, A32, A33, A9, A34], by simp [E0, E1, E5, E6, E7, E9, E15, E16, E17, E18, E19, B0, B1, B5, B6, B7, B9, B15, B16, B17, A0, A1, A5, A6, A7, A8, A32, A33, A9, A34], by simp [E0, E1, E5, E6, E7, E9, E15, E16, E17, E18, E19, B0, B1, B5, B6, B7, B9, B15, B16, B17, A0, A1, A5, A6, A7, A8, A32, A33, A9, A34], by simp [E0, E1, E5, E6, E7, E9, E15, E16, E17, E18, E19, B0, B1, B5, B6, B7, B9, B15, B16, B17, A0, A1, A5, A6, A7, A8, A32, A33, A9, A34], by omega, fun h => by omega⟩
      · repeat' (first | (refine wpc_split _ (fun hc => ?_) (fun hc => ?_) <;> (try simp at hc)) | (refine ww_split _ (fun hc => ?_) (fun hc => ?_) <;> (try simp at hc)) | (refine wp_drawF (by kernel_rfl) ?_) | (refine wk_yldW _ ?_) | (refine layOwe _ (by kernel_rfl) ?_) | (refine owe ?_ (fun ho => ?_)) | (simp (disch := first | assumption | omega | (simp; done) | (simp; omega)) [B0, B1, B5, B6, B7, B9, B15, B16, B17, hrl, -getElem?_pos, List.getElem?_cons_zero, List.getElem?_cons_succ]))
        all_goals first | rfl | (exfalso; omega)
@[simp] theorem S7 (l : List Int) (right : Bool) (hs : l.length < 1099511627776) (q1 : Fl) (hh : Heap) : Ci cfg (.func (.func 7) [] []) [R  q1 eI l, .bool right] hh = some (.ret (.bool true), hh) :=
  Ci_K cfg rfl rfl (by simp) (by simp) (C7 l right hs)
end Go.Ab
