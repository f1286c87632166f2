/- Layer 10 (direction): the specification's Levels. -/
import Derived.Test.YtjhpmmomalaiiaaDoorT10
import Derived.Test.YtjhpmmomalaiiaaDoorP10b
import Derived.Test.YtjhpmmomalaiiaaDoorAbsD
set_option linter.unusedVariables false
set_option linter.unusedSimpArgs false
set_option linter.unusedSectionVars false
set_option linter.deprecated false
namespace Go.Ab
open Go.Proofs
set_option maxRecDepth 100000
set_option maxHeartbeats 4000000
theorem C29 (right : Bool) : Kc cfg 29 [.bool right] (.ret (.int .i64 (baseF right))) := by
  cases right with
  | true =>
    refine outS_of_wp cfg (fn := Tryd.f29) Tryd.func29 rfl (by simp [Tryd.f29]) ?_
    simp (disch := first | assumption | omega | (simp; done) | (simp; omega)) [-getElem?_pos, List.getElem?_cons_zero, List.getElem?_cons_succ, Tryd.f29]
    repeat' (first | (refine wpc_split _ (fun hc => ?_) (fun hc => ?_) <;> (try simp at hc)) | (refine ww_split _ (fun hc => ?_) (fun hc => ?_) <;> (try simp at hc)) | (refine wp_drawF (by kernel_rfl) ?_) | (refine wk_yldW _ ?_) | (refine layOwe _ (by kernel_rfl) ?_) | (refine owe ?_ (fun ho => ?_)) | (simp (disch := first | assumption | omega | (simp; done) | (simp; omega)) [baseF, -getElem?_pos, List.getElem?_cons_zero, List.getElem?_cons_succ]))
  | false =>
    refine outS_of_wp cfg (fn := Tryd.f29) Tryd.func29 rfl (by simp [Tryd.f29]) ?_
    simp (disch := first | assumption | omega | (simp; done) | (simp; omega)) [-getElem?_pos, List.getElem?_cons_zero, List.getElem?_cons_succ, Tryd.f29]
    repeat' (first | (refine wpc_split _ (fun hc => ?_) (fun hc => ?_) <;> (try simp at hc)) | (refine ww_split _ (fun hc => ?_) (fun hc => ?_) <;> (try simp at hc)) | (refine wp_drawF (by kernel_rfl) ?_) | (refine wk_yldW _ ?_) | (refine layOwe _ (by kernel_rfl) ?_) | (refine owe ?_ (fun ho => ?_)) | (simp (disch := first | assumption | omega | (simp; done) | (simp; omega)) [baseF, -getElem?_pos, List.getElem?_cons_zero, List.getElem?_cons_succ]))
@[simp] theorem S29 (right : Bool) (hh : Heap) : Ci cfg (.func (.func 29) [] []) [.bool right] hh = some (.ret (.int .i64 (baseF right)), hh) :=
  Ci_K cfg rfl rfl (by simp) (by simp) (C29 right)
theorem C28 (k : Int) (right : Bool) : Kc cfg 28 [.int .i64 k, .bool right] (.ret (.int .i64 (strongF right k))) := by
  by_cases h4 : k = 4
  · have hs : strongF right k = 1 := by unfold strongF; rw [if_pos h4]
    rw [hs]
    refine outS_of_wp cfg (fn := Tryd.f28) Tryd.func28 rfl (by simp [Tryd.f28]) ?_
    simp (disch := first | assumption | omega | (simp; done) | (simp; omega)) [-getElem?_pos, List.getElem?_cons_zero, List.getElem?_cons_succ, Tryd.f28]
    repeat' (first | (refine wpc_split _ (fun hc => ?_) (fun hc => ?_) <;> (try simp at hc)) | (refine ww_split _ (fun hc => ?_) (fun hc => ?_) <;> (try simp at hc)) | (refine wp_drawF (by kernel_rfl) ?_) | (refine wk_yldW _ ?_) | (refine layOwe _ (by kernel_rfl) ?_) | (refine owe ?_ (fun ho => ?_)) | (simp (disch := first | assumption | omega | (simp; done) | (simp; omega)) [h4, -getElem?_pos, List.getElem?_cons_zero, List.getElem?_cons_succ]))
  · by_cases h3 : k = 3
    · have hs : strongF right k = 2 * baseF right := by unfold strongF baseF; rw [if_neg h4, if_pos (.inl h3)]; cases right <;> rfl
      rw [hs]
      have hb : 0 ≤ baseF right ∧ baseF right ≤ 1 := by unfold baseF; split <;> omega
      refine outS_of_wp cfg (fn := Tryd.f28) Tryd.func28 rfl (by simp [Tryd.f28]) ?_
      simp (disch := first | assumption | omega | (simp; done) | (simp; omega)) [-getElem?_pos, List.getElem?_cons_zero, List.getElem?_cons_succ, Tryd.f28]
      repeat' (first | (refine wpc_split _ (fun hc => ?_) (fun hc => ?_) <;> (try simp at hc)) | (refine ww_split _ (fun hc => ?_) (fun hc => ?_) <;> (try simp at hc)) | (refine wp_drawF (by kernel_rfl) ?_) | (refine wk_yldW _ ?_) | (refine layOwe _ (by kernel_rfl) ?_) | (refine owe ?_ (fun ho => ?_)) | (simp (disch := first | assumption | omega | (simp; done) | (simp; omega)) [h3, -getElem?_pos, List.getElem?_cons_zero, List.getElem?_cons_succ]))
    · by_cases h2 : k = 2
      · have hs : strongF right k = 2 * baseF right := by unfold strongF baseF; rw [if_neg h4, if_pos (.inr h2)]; cases right <;> rfl
        rw [hs]
        have hb : 0 ≤ baseF right ∧ baseF right ≤ 1 := by unfold baseF; split <;> omega
        refine outS_of_wp cfg (fn := Tryd.f28) Tryd.func28 rfl (by simp [Tryd.f28]) ?_
        simp (disch := first | assumption | omega | (simp; done) | (simp; omega)) [-getElem?_pos, List.getElem?_cons_zero, List.getElem?_cons_succ, Tryd.f28]
        repeat' (first | (refine wpc_split _ (fun hc => ?_) (fun hc => ?_) <;> (try simp at hc)) | (refine ww_split _ (fun hc => ?_) (fun hc => ?_) <;> (try simp at hc)) | (refine wp_drawF (by kernel_rfl) ?_) | (refine wk_yldW _ ?_) | (refine layOwe _ (by kernel_rfl) ?_) | (refine owe ?_ (fun ho => ?_)) | (simp (disch := first | assumption | omega | (simp; done) | (simp; omega)) [h2, -getElem?_pos, List.getElem?_cons_zero, List.getElem?_cons_succ]))
      · have hs : strongF right k = -1 := by unfold strongF; rw [if_neg h4, if_neg (fun x => by omega)]
        rw [hs]
        refine outS_of_wp cfg (fn := Tryd.f28) Tryd.func28 rfl (by simp [Tryd.f28]) ?_
        simp (disch := first | assumption | omega | (simp; done) | (simp; omega)) [-getElem?_pos, List.getElem?_cons_zero, List.getElem?_cons_succ, Tryd.f28]
        repeat' (first | (refine wpc_split _ (fun hc => ?_) (fun hc => ?_) <;> (try simp at hc)) | (refine ww_split _ (fun hc => ?_) (fun hc => ?_) <;> (try simp at hc)) | (refine wp_drawF (by kernel_rfl) ?_) | (refine wk_yldW _ ?_) | (refine layOwe _ (by kernel_rfl) ?_) | (refine owe ?_ (fun ho => ?_)) | (simp (disch := first | assumption | omega | (simp; done) | (simp; omega)) [h4, h3, h2, -getElem?_pos, List.getElem?_cons_zero, List.getElem?_cons_succ]))
@[simp] theorem S28 (k : Int) (right : Bool) (hh : Heap) : Ci cfg (.func (.func 28) [] []) [.int .i64 k, .bool right] hh = some (.ret (.int .i64 (strongF right k)), hh) :=
  Ci_K cfg rfl rfl (by simp) (by simp) (C28 k right)
theorem okK_false {l : List Int} {i : Nat} (hi : i < l.length) (h : ¬ (kindG (nth l i)).2 = 0) : okK l = false := by
  unfold okK
  rw [← Bool.not_eq_true, List.all_eq_true]
  intro hx; exact h (of_decide_eq_true (hx _ (nth_mem hi)))
theorem okK_true {l : List Int} (h : ∀ i, i < l.length → (kindG (nth l i)).2 = 0) : okK l = true := by
  unfold okK
  rw [List.all_eq_true]
  intro x hx
  obtain ⟨i, hi, rfl⟩ := List.mem_iff_getElem.1 hx
  rw [← nth_eq hi]; exact decide_eq_true (h i hi)
theorem okK_nth {l : List Int} (h : okK l = true) {i : Nat} (hi : i < l.length) : (kindG (nth l i)).2 = 0 := of_decide_eq_true (List.all_eq_true.1 h _ (nth_mem hi))
theorem rawL_take {right : Bool} {l : List Int} {i : Nat} (h : i < l.length) : rawL right (l.take (i + 1)) = rawL right (l.take i) ++ [strongF right (kindG (nth l i)).1] := by unfold rawL; rw [nth_take h]; simp
theorem levs_take {base : Int} {L : List Int} {i : Nat} : (List.range (i + 1)).map (levAt base L) = (List.range i).map (levAt base L) ++ [levAt base L i] := by rw [List.range_succ, List.map_append]; rfl
theorem C12 (l : List Int) (right : Bool) (hs : l.length < 1099511627776) : Kc cfg 12 [R fl0 eI l, .bool right] (.ret (.tuple [R fl0 eI (levS l right).1, .int .i64 (levS l right).2])) := by
  by_cases hlong : 4096 < l.length
  · have hL : levS l right = ([], 2) := by unfold levS; rw [if_pos hlong]
    rw [hL]
    refine outS_of_wp cfg (fn := Tryd.f12) Tryd.func12 rfl (by simp [Tryd.f12]) ?_
    simp (disch := first | assumption | omega | (simp; done) | (simp; omega)) [-getElem?_pos, List.getElem?_cons_zero, List.getElem?_cons_succ, Tryd.f12]
    repeat' (first | (refine wpc_split _ (fun hc => ?_) (fun hc => ?_) <;> (try simp at hc)) | (refine ww_split _ (fun hc => ?_) (fun hc => ?_) <;> (try simp at hc)) | (refine wp_drawF (by kernel_rfl) ?_) | (refine wk_yldW _ ?_) | (refine layOwe _ (by kernel_rfl) ?_) | (refine owe ?_ (fun ho => ?_)) | (simp (disch := first | assumption | omega | (simp; done) | (simp; omega)) [-getElem?_pos, List.getElem?_cons_zero, List.getElem?_cons_succ]))
    all_goals first | rfl | (exfalso; omega)
  · have hL : levS l right = if okK l = true then (lvL (baseF right) (rawL right l), 0) else ([], 90) := by unfold levS; rw [if_neg hlong]
    generalize hLS : levS l right = LS at *
    refine outS_of_wp cfg (fn := Tryd.f12) Tryd.func12 rfl (by simp [Tryd.f12]) ?_
    simp (disch := first | assumption | omega | (simp; done) | (simp; omega)) [-getElem?_pos, List.getElem?_cons_zero, List.getElem?_cons_succ, Tryd.f12]
    repeat' (first | (refine wpc_split _ (fun hc => ?_) (fun hc => ?_) <;> (try simp at hc)) | (refine ww_split _ (fun hc => ?_) (fun hc => ?_) <;> (try simp at hc)) | (refine wp_drawF (by kernel_rfl) ?_) | (refine wk_yldW _ ?_) | (refine layOwe _ (by kernel_rfl) ?_) | (refine owe ?_ (fun ho => ?_)) | (simp (disch := first | assumption | omega | (simp; done) | (simp; omega)) [-getElem?_pos, List.getElem?_cons_zero, List.getElem?_cons_succ]))
    all_goals first
      | (exfalso; omega)
      | skip
    refine wp_loopE cfg rfl (fun f0 h0 m fr h => ∃ i : Nat, ∃ fl : Fl, fr 0 = f0 0 ∧ fr 1 = f0 1 ∧ fr 6 = R fl eI (rawL right (l.take i)) ∧ fr 7 = .int .i64 i ∧ (App h.ts 1 fl) ∧ (i + m = l.length) ∧ (∀ j, j < i → (kindG (nth l j)).2 = 0)) (l.length) _ _ ⟨0, (false, true, none), rfl, rfl, by first | rfl | (simp; done) | (simp [R]; done) | simp [R], by first | rfl | (simp; done) | (simp [R]; done) | simp [R], App.full _ _ _, by first | rfl | (simp; done) | omega, fun j hj => by omega⟩ ?_
    rintro Am Af Ah ⟨i, fl, A0, A1, A6, A7, hap, hm, hok⟩ Aih
    try simp at A0 A1
    by_cases hi : i < l.length
    · by_cases hk : (kindG (nth l i)).2 = 0
      · have htk := rawL_take (right := right) hi
        have hlen : (rawL right (l.take i)).length ≤ i := by rw [rawL_len]; simp; omega
        repeat' (first | (refine wpc_split _ (fun hc => ?_) (fun hc => ?_) <;> (try simp at hc)) | (refine ww_split _ (fun hc => ?_) (fun hc => ?_) <;> (try simp at hc)) | (refine wp_drawF (by kernel_rfl) ?_) | (refine wk_yldW _ ?_) | (refine layOwe _ (by kernel_rfl) ?_) | (refine owe ?_ (fun ho => ?_)) | (simp (disch := first | assumption | omega | (simp; done) | (simp; omega)) [A0, A1, A6, A7, eI, hk, fold_I1, -getElem?_pos, List.getElem?_cons_zero, List.getElem?_cons_succ]))
        exact Aih (Am - 1) _ _ (by omega) ⟨i + 1, _, by simp [A0, A1, A6, A7, htk], by simp [A0, A1, A6, A7, htk], by simp [A0, A1, A6, A7, htk], by simp [A0, A1, A6, A7, htk], App.new _ _ _, by omega, fun j hj => by (by_cases e : j = i; (subst e; exact hk); exact hok j (by omega))⟩
      · rw [okK_false hi hk] at hL
        simp at hL
        repeat' (first | (refine wpc_split _ (fun hc => ?_) (fun hc => ?_) <;> (try simp at hc)) | (refine ww_split _ (fun hc => ?_) (fun hc => ?_) <;> (try simp at hc)) | (refine wp_drawF (by kernel_rfl) ?_) | (refine wk_yldW _ ?_) | (refine layOwe _ (by kernel_rfl) ?_) | (refine owe ?_ (fun ho => ?_)) | (simp (disch := first | assumption | omega | (simp; done) | (simp; omega)) [A0, A1, A6, A7, eI, hk, -getElem?_pos, List.getElem?_cons_zero, List.getElem?_cons_succ]))
        rw [hL]; exact ⟨rfl, rfl⟩
    · rw [okK_true (fun j hj => hok j (by omega)), if_pos rfl] at hL
      have h1 : l.take i = l := List.take_of_length_le (by omega)
      rw [h1] at A6
      have hrl := rawL_len right l
      have hrr : ∀ x ∈ rawL right l, True := fun _ _ => trivial
      generalize hraw : rawL right l = raw at *
      have hbr : 0 ≤ baseF right ∧ baseF right ≤ 1 := by unfold baseF; split <;> omega
      repeat' (first | (refine wpc_split _ (fun hc => ?_) (fun hc => ?_) <;> (try simp at hc)) | (refine ww_split _ (fun hc => ?_) (fun hc => ?_) <;> (try simp at hc)) | (refine wp_drawF (by kernel_rfl) ?_) | (refine wk_yldW _ ?_) | (refine layOwe _ (by kernel_rfl) ?_) | (refine owe ?_ (fun ho => ?_)) | (simp (disch := first | assumption | omega | (simp; done) | (simp; omega)) [A0, A1, A6, A7, -getElem?_pos, List.getElem?_cons_zero, List.getElem?_cons_succ]))
      refine wp_loopE cfg rfl (fun f0 h0 m fr h => ∃ i : Nat, ∃ fl2 : Fl, fr 0 = f0 0 ∧ fr 1 = f0 1 ∧ fr 6 = f0 6 ∧ fr 10 = R fl2 eI ((List.range i).map (levAt (baseF right) raw)) ∧ fr 11 = .int .i64 i ∧ (App h.ts 1 fl2) ∧ (i + m = l.length)) (l.length) _ _ ⟨0, (false, true, none), rfl, rfl, rfl, by first | rfl | (simp; done) | (simp [R]; done) | simp [R], by first | rfl | (simp; done) | (simp [R]; done) | simp [R], App.full _ _ _, by first | rfl | (simp; done) | omega⟩ ?_
      rintro Bm Bf Bh ⟨i, fl2, B0, B1, B6, B10, B11, hap2, hm2⟩ Bih
      try simp [A0, A1, A6, A7] at B0 B1 B6
      by_cases hi2 : i < l.length
      · have hst := levs_take (base := baseF right) (L := raw) (i := i)
        have hlv : levAt (baseF right) raw i = if 0 < fromP (gpL raw) (i + 1) ∧ untilP (gpL raw) raw.length i < raw.length ∧ nth raw (fromP (gpL raw) (i + 1) - 1) = nth raw (untilP (gpL raw) raw.length i) then nth raw (fromP (gpL raw) (i + 1) - 1) else baseF right := rfl
        have hlen2 : ((List.range i).map (levAt (baseF right) raw)).length ≤ i := by simp
        repeat' (first | (refine wpc_split _ (fun hc => ?_) (fun hc => ?_) <;> (try simp at hc)) | (refine ww_split _ (fun hc => ?_) (fun hc => ?_) <;> (try simp at hc)) | (refine wp_drawF (by kernel_rfl) ?_) | (refine wk_yldW _ ?_) | (refine layOwe _ (by kernel_rfl) ?_) | (refine owe ?_ (fun ho => ?_)) | (simp (disch := first | assumption | omega | (simp; done) | (simp; omega)) [B0, B1, B6, B10, B11, -getElem?_pos, List.getElem?_cons_zero, List.getElem?_cons_succ]))
        refine wp_loopE cfg rfl (fun f0 h0 m fr h => ∃ q : Nat, fr 0 = f0 0 ∧ fr 1 = f0 1 ∧ fr 6 = f0 6 ∧ fr 10 = f0 10 ∧ fr 11 = f0 11 ∧ fr 12 = .int .i64 ((q : Int) - 1) ∧ (App h.ts 1 fl2) ∧ (m = q) ∧ (q ≤ i + 1) ∧ (fromP (gpL raw) q = fromP (gpL raw) (i + 1))) (i + 1) _ _ ⟨i + 1, rfl, rfl, rfl, rfl, rfl, by first | (simp; done) | (simp; omega), hap2, by first | rfl | (simp; done) | omega, by first | rfl | (simp; done) | omega, by first | rfl | (simp; done) | omega⟩ ?_
        rintro Em Ef Eh ⟨q, E0, E1, E6, E10, E11, E12, hap3, hm3, hq, hf⟩ Eih
        try simp [B0, B1, B6, B10, B11, A0, A1, A6, A7] at E0 E1 E6 E10 E11
        by_cases hgo : 0 < q ∧ gpL raw (q - 1) = true
        · obtain ⟨k, rfl⟩ : ∃ k, q = k + 1 := ⟨q - 1, by omega⟩
          have hg := hgo.2
          simp only [Nat.add_sub_cancel] at hg
          have hg2 : nth raw k < 0 := of_decide_eq_true hg
          rw [fromP_step hg] at hf
          have hk2 : k < raw.length := by omega
          repeat' (first | (refine wpc_split _ (fun hc => ?_) (fun hc => ?_) <;> (try simp at hc)) | (refine ww_split _ (fun hc => ?_) (fun hc => ?_) <;> (try simp at hc)) | (refine wp_drawF (by kernel_rfl) ?_) | (refine wk_yldW _ ?_) | (refine layOwe _ (by kernel_rfl) ?_) | (refine owe ?_ (fun ho => ?_)) | (simp (disch := first | assumption | omega | (simp; done) | (simp; omega)) [E0, E1, E6, E10, E11, E12, eI, -getElem?_pos, List.getElem?_cons_zero, List.getElem?_cons_succ]))
          all_goals first
            | (exfalso; omega)
            | exact Eih (Em - 1) _ _ (by omega) ⟨k, by simp [E0, E1, E6, E10, E11, E12, B0, B1, B6, B10, B11, A0, A1, A6, A7], by simp [E0, E1, E6, E10, E11, E12, B0, B1, B6, B10, B11, A0, A1, A6, A7], by simp [E0, E1, E6, E10, E11, E12, B0, B1, B6, B10, B11, A0, A1, A6, A7], by simp [E0, E1, E6, E10, E11, E12, B0, B1, B6, B10, B11, A0, A1, A6, A7], by simp [E0, E1, E6, E10, E11, E12, B0, B1, B6, B10, B11, A0, A1, A6, A7], by simp [E0, E1, E6, E10, E11, E12, B0, B1, B6, B10, B11, A0, A1, A6, A7], hap3, by omega, by omega, hf⟩
        · have hfq : fromP (gpL raw) (i + 1) = q := by
            rw [← hf]
            cases q with
            | zero => rfl
            | succ k =>
              have : gpL raw k = false := by
                cases h : gpL raw k with
                | false => rfl
                | true => exact absurd ⟨by omega, by simpa using h⟩ hgo
              exact fromP_stop this
          have hnq : 0 < q → 0 ≤ nth raw (q - 1) := by
            intro h0
            cases h : gpL raw (q - 1) with
            | false => unfold gpL at h; simpa using h
            | true => exact absurd ⟨h0, h⟩ hgo
          have hq3 : ((q : Int) - 1).toNat = q - 1 := by omega
          have hqle : q ≤ raw.length := by omega
          clear Eih hm3 hgo hf
          rcases Nat.eq_zero_or_pos q with hq0 | hq0
          · subst hq0
            repeat' (first | (refine wpc_split _ (fun hc => ?_) (fun hc => ?_) <;> (try simp at hc)) | (refine ww_split _ (fun hc => ?_) (fun hc => ?_) <;> (try simp at hc)) | (refine wp_drawF (by kernel_rfl) ?_) | (refine wk_yldW _ ?_) | (refine layOwe _ (by kernel_rfl) ?_) | (refine owe ?_ (fun ho => ?_)) | (simp (disch := first | assumption | omega | (simp; done) | (simp; omega)) [E0, E1, E6, E10, E11, E12, eI, -getElem?_pos, List.getElem?_cons_zero, List.getElem?_cons_succ]))
            all_goals first
              | (exfalso; omega)
              | skip
            refine wp_loopE cfg rfl (fun f0 h0 m fr h => ∃ j : Nat, fr 0 = f0 0 ∧ fr 1 = f0 1 ∧ fr 6 = f0 6 ∧ fr 10 = f0 10 ∧ fr 11 = f0 11 ∧ fr 12 = f0 12 ∧ fr 13 = .int .i64 j ∧ (App h.ts 1 fl2) ∧ (j + m = l.length) ∧ (i ≤ j) ∧ (untP (gpL raw) (raw.length - j) j = untilP (gpL raw) raw.length i)) (l.length - i) _ _ ⟨i, rfl, rfl, rfl, rfl, rfl, rfl, by first | rfl | (simp; done) | (simp [R]; done) | simp [R], hap3, by first | rfl | (simp; done) | omega, by first | rfl | (simp; done) | omega, by first | rfl | (simp; done) | omega⟩ ?_
            rintro Fm Ff Fh ⟨j, F0, F1, F6, F10, F11, F12, F13, hap4, hm4, hj, hu⟩ Fih
            try simp [E0, E1, E6, E10, E11, E12, B0, B1, B6, B10, B11, A0, A1, A6, A7] at F0 F1 F6 F10 F11 F12
            by_cases hgo : j < raw.length ∧ gpL raw j = true
            · have hg2 : nth raw j < 0 := of_decide_eq_true hgo.2
              rw [untP_step hgo.1 hgo.2] at hu
              have hjl := hgo.1
              repeat' (first | (refine wpc_split _ (fun hc => ?_) (fun hc => ?_) <;> (try simp at hc)) | (refine ww_split _ (fun hc => ?_) (fun hc => ?_) <;> (try simp at hc)) | (refine wp_drawF (by kernel_rfl) ?_) | (refine wk_yldW _ ?_) | (refine layOwe _ (by kernel_rfl) ?_) | (refine owe ?_ (fun ho => ?_)) | (simp (disch := first | assumption | omega | (simp; done) | (simp; omega)) [F0, F1, F6, F10, F11, F12, F13, eI, -getElem?_pos, List.getElem?_cons_zero, List.getElem?_cons_succ]))
              all_goals first
                | (exfalso; omega)
                | exact Fih (Fm - 1) _ _ (by omega) ⟨j + 1, by simp [F0, F1, F6, F10, F11, F12, F13, E0, E1, E6, E10, E11, E12, B0, B1, B6, B10, B11, A0, A1, A6, A7], by simp [F0, F1, F6, F10, F11, F12, F13, E0, E1, E6, E10, E11, E12, B0, B1, B6, B10, B11, A0, A1, A6, A7], by simp [F0, F1, F6, F10, F11, F12, F13, E0, E1, E6, E10, E11, E12, B0, B1, B6, B10, B11, A0, A1, A6, A7], by simp [F0, F1, F6, F10, F11, F12, F13, E0, E1, E6, E10, E11, E12, B0, B1, B6, B10, B11, A0, A1, A6, A7], by simp [F0, F1, F6, F10, F11, F12, F13, E0, E1, E6, E10, E11, E12, B0, B1, B6, B10, B11, A0, A1, A6, A7], by simp [F0, F1, F6, F10, F11, F12, F13, E0, E1, E6, E10, E11, E12, B0, B1, B6, B10, B11, A0, A1, A6, A7], by simp [F0, F1, F6, F10, F11, F12, F13, E0, E1, E6, E10, E11, E12, B0, B1, B6, B10, B11, A0, A1, A6, A7], hap4, by omega, by omega, hu⟩
            · have hlv2 : levAt (baseF right) raw i = baseF right := by rw [hlv, hfq, if_neg (by omega)]
              rw [hlv2] at hst
              by_cases hjl : j < raw.length
              · have hg2 : 0 ≤ nth raw j := by
                  cases h : gpL raw j with
                  | false => unfold gpL at h; simpa using h
                  | true => exact absurd ⟨hjl, h⟩ hgo
                repeat' (first | (refine wpc_split _ (fun hc => ?_) (fun hc => ?_) <;> (try simp at hc)) | (refine ww_split _ (fun hc => ?_) (fun hc => ?_) <;> (try simp at hc)) | (refine wp_drawF (by kernel_rfl) ?_) | (refine wk_yldW _ ?_) | (refine layOwe _ (by kernel_rfl) ?_) | (refine owe ?_ (fun ho => ?_)) | (simp (disch := first | assumption | omega | (simp; done) | (simp; omega)) [F0, F1, F6, F10, F11, F12, F13, eI, fold_I1, -getElem?_pos, List.getElem?_cons_zero, List.getElem?_cons_succ]))
                all_goals first
                  | (exfalso; omega)
                  | exact Bih (Bm - 1) _ _ (by omega) ⟨i + 1, _, by simp [F0, F1, F6, F10, F11, F12, F13, E0, E1, E6, E10, E11, E12, B0, B1, B6, B10, B11, A0, A1, A6, A7, hst], by simp [F0, F1, F6, F10, F11, F12, F13, E0, E1, E6, E10, E11, E12, B0, B1, B6, B10, B11, A0, A1, A6, A7, hst], by simp [F0, F1, F6, F10, F11, F12, F13, E0, E1, E6, E10, E11, E12, B0, B1, B6, B10, B11, A0, A1, A6, A7, hst], by simp [F0, F1, F6, F10, F11, F12, F13, E0, E1, E6, E10, E11, E12, B0, B1, B6, B10, B11, A0, A1, A6, A7, hst], by simp [F0, F1, F6, F10, F11, F12, F13, E0, E1, E6, E10, E11, E12, B0, B1, B6, B10, B11, A0, A1, A6, A7, hst], App.new _ _ _, by omega⟩
              · repeat' (first | (refine wpc_split _ (fun hc => ?_) (fun hc => ?_) <;> (try simp at hc)) | (refine ww_split _ (fun hc => ?_) (fun hc => ?_) <;> (try simp at hc)) | (refine wp_drawF (by kernel_rfl) ?_) | (refine wk_yldW _ ?_) | (refine layOwe _ (by kernel_rfl) ?_) | (refine owe ?_ (fun ho => ?_)) | (simp (disch := first | assumption | omega | (simp; done) | (simp; omega)) [F0, F1, F6, F10, F11, F12, F13, eI, fold_I1, -getElem?_pos, List.getElem?_cons_zero, List.getElem?_cons_succ]))
                all_goals first
                  | (exfalso; omega)
                  | exact Bih (Bm - 1) _ _ (by omega) ⟨i + 1, _, by simp [F0, F1, F6, F10, F11, F12, F13, E0, E1, E6, E10, E11, E12, B0, B1, B6, B10, B11, A0, A1, A6, A7, hst], by simp [F0, F1, F6, F10, F11, F12, F13, E0, E1, E6, E10, E11, E12, B0, B1, B6, B10, B11, A0, A1, A6, A7, hst], by simp [F0, F1, F6, F10, F11, F12, F13, E0, E1, E6, E10, E11, E12, B0, B1, B6, B10, B11, A0, A1, A6, A7, hst], by simp [F0, F1, F6, F10, F11, F12, F13, E0, E1, E6, E10, E11, E12, B0, B1, B6, B10, B11, A0, A1, A6, A7, hst], by simp [F0, F1, F6, F10, F11, F12, F13, E0, E1, E6, E10, E11, E12, B0, B1, B6, B10, B11, A0, A1, A6, A7, hst], App.new _ _ _, by omega⟩
          · have hn0 := hnq hq0
            have hqr : q - 1 < raw.length := by omega
            repeat' (first | (refine wpc_split _ (fun hc => ?_) (fun hc => ?_) <;> (try simp at hc)) | (refine ww_split _ (fun hc => ?_) (fun hc => ?_) <;> (try simp at hc)) | (refine wp_drawF (by kernel_rfl) ?_) | (refine wk_yldW _ ?_) | (refine layOwe _ (by kernel_rfl) ?_) | (refine owe ?_ (fun ho => ?_)) | (simp (disch := first | assumption | omega | (simp; done) | (simp; omega)) [E0, E1, E6, E10, E11, E12, eI, hq3, -getElem?_pos, List.getElem?_cons_zero, List.getElem?_cons_succ]))
            all_goals first
              | (exfalso; omega)
              | skip
            refine wp_loopE cfg rfl (fun f0 h0 m fr h => ∃ j : Nat, fr 0 = f0 0 ∧ fr 1 = f0 1 ∧ fr 6 = f0 6 ∧ fr 10 = f0 10 ∧ fr 11 = f0 11 ∧ fr 12 = f0 12 ∧ fr 13 = .int .i64 j ∧ (App h.ts 1 fl2) ∧ (j + m = l.length) ∧ (i ≤ j) ∧ (untP (gpL raw) (raw.length - j) j = untilP (gpL raw) raw.length i)) (l.length - i) _ _ ⟨i, rfl, rfl, rfl, rfl, rfl, rfl, by first | rfl | (simp; done) | (simp [R]; done) | simp [R], hap3, by first | rfl | (simp; done) | omega, by first | rfl | (simp; done) | omega, by first | rfl | (simp; done) | omega⟩ ?_
            rintro Fm Ff Fh ⟨j, F0, F1, F6, F10, F11, F12, F13, hap4, hm4, hj, hu⟩ Fih
            try simp [E0, E1, E6, E10, E11, E12, B0, B1, B6, B10, B11, A0, A1, A6, A7] at F0 F1 F6 F10 F11 F12
            by_cases hgo : j < raw.length ∧ gpL raw j = true
            · have hg2 : nth raw j < 0 := of_decide_eq_true hgo.2
              rw [untP_step hgo.1 hgo.2] at hu
              have hjl := hgo.1
              repeat' (first | (refine wpc_split _ (fun hc => ?_) (fun hc => ?_) <;> (try simp at hc)) | (refine ww_split _ (fun hc => ?_) (fun hc => ?_) <;> (try simp at hc)) | (refine wp_drawF (by kernel_rfl) ?_) | (refine wk_yldW _ ?_) | (refine layOwe _ (by kernel_rfl) ?_) | (refine owe ?_ (fun ho => ?_)) | (simp (disch := first | assumption | omega | (simp; done) | (simp; omega)) [F0, F1, F6, F10, F11, F12, F13, eI, -getElem?_pos, List.getElem?_cons_zero, List.getElem?_cons_succ]))
              all_goals first
                | (exfalso; omega)
                | exact Fih (Fm - 1) _ _ (by omega) ⟨j + 1, by simp [F0, F1, F6, F10, F11, F12, F13, E0, E1, E6, E10, E11, E12, B0, B1, B6, B10, B11, A0, A1, A6, A7], by simp [F0, F1, F6, F10, F11, F12, F13, E0, E1, E6, E10, E11, E12, B0, B1, B6, B10, B11, A0, A1, A6, A7], by simp [F0, F1, F6, F10, F11, F12, F13, E0, E1, E6, E10, E11, E12, B0, B1, B6, B10, B11, A0, A1, A6, A7], by simp [F0, F1, F6, F10, F11, F12, F13, E0, E1, E6, E10, E11, E12, B0, B1, B6, B10, B11, A0, A1, A6, A7], by simp [F0, F1, F6, F10, F11, F12, F13, E0, E1, E6, E10, E11, E12, B0, B1, B6, B10, B11, A0, A1, A6, A7], by simp [F0, F1, F6, F10, F11, F12, F13, E0, E1, E6, E10, E11, E12, B0, B1, B6, B10, B11, A0, A1, A6, A7], by simp [F0, F1, F6, F10, F11, F12, F13, E0, E1, E6, E10, E11, E12, B0, B1, B6, B10, B11, A0, A1, A6, A7], hap4, by omega, by omega, hu⟩
            · have hstop : raw.length ≤ j ∨ gpL raw j = false := by
                by_cases h : j < raw.length
                · right
                  cases h2 : gpL raw j with
                  | false => rfl
                  | true => exact absurd ⟨h, h2⟩ hgo
                · left; omega
              have huj : untilP (gpL raw) raw.length i = j := by rw [← hu]; exact untP_stop hstop
              rw [hfq, huj] at hlv
              by_cases hjl : j < raw.length
              · have hg2 : 0 ≤ nth raw j := by
                  cases h : gpL raw j with
                  | false => unfold gpL at h; simpa using h
                  | true => exact absurd ⟨hjl, h⟩ hgo
                by_cases he : nth raw (q - 1) = nth raw j
                · rw [if_pos ⟨hq0, hjl, he⟩] at hlv
                  rw [hlv] at hst
                  have he2 : (nth raw (q - 1) == nth raw j) = true := by rw [he]; simp
                  repeat' (first | (refine wpc_split _ (fun hc => ?_) (fun hc => ?_) <;> (try simp at hc)) | (refine ww_split _ (fun hc => ?_) (fun hc => ?_) <;> (try simp at hc)) | (refine wp_drawF (by kernel_rfl) ?_) | (refine wk_yldW _ ?_) | (refine layOwe _ (by kernel_rfl) ?_) | (refine owe ?_ (fun ho => ?_)) | (simp (disch := first | assumption | omega | (simp; done) | (simp; omega)) [F0, F1, F6, F10, F11, F12, F13, eI, fold_I1, hq3, he2, -getElem?_pos, List.getElem?_cons_zero, List.getElem?_cons_succ]))
                  all_goals first
                    | (exfalso; omega)
                    | exact Bih (Bm - 1) _ _ (by omega) ⟨i + 1, _, by simp [F0, F1, F6, F10, F11, F12, F13, E0, E1, E6, E10, E11, E12, B0, B1, B6, B10, B11, A0, A1, A6, A7, hst], by simp [F0, F1, F6, F10, F11, F12, F13, E0, E1, E6, E10, E11, E12, B0, B1, B6, B10, B11, A0, A1, A6, A7, hst], by simp [F0, F1, F6, F10, F11, F12, F13, E0, E1, E6, E10, E11, E12, B0, B1, B6, B10, B11, A0, A1, A6, A7, hst], by simp [F0, F1, F6, F10, F11, F12, F13, E0, E1, E6, E10, E11, E12, B0, B1, B6, B10, B11, A0, A1, A6, A7, hst], by simp [F0, F1, F6, F10, F11, F12, F13, E0, E1, E6, E10, E11, E12, B0, B1, B6, B10, B11, A0, A1, A6, A7, hst], App.new _ _ _, by omega⟩
                · rw [if_neg (fun x => he x.2.2)] at hlv
                  rw [hlv] at hst
                  have he2 : (nth raw (q - 1) == nth raw j) = false := by rw [beq_eq_false_iff_ne]; exact he
                  repeat' (first | (refine wpc_split _ (fun hc => ?_) (fun hc => ?_) <;> (try simp at hc)) | (refine ww_split _ (fun hc => ?_) (fun hc => ?_) <;> (try simp at hc)) | (refine wp_drawF (by kernel_rfl) ?_) | (refine wk_yldW _ ?_) | (refine layOwe _ (by kernel_rfl) ?_) | (refine owe ?_ (fun ho => ?_)) | (simp (disch := first | assumption | omega | (simp; done) | (simp; omega)) [F0, F1, F6, F10, F11, F12, F13, eI, fold_I1, hq3, he2, -getElem?_pos, List.getElem?_cons_zero, List.getElem?_cons_succ]))
                  all_goals first
                    | (exfalso; omega)
                    | exact Bih (Bm - 1) _ _ (by omega) ⟨i + 1, _, by simp [F0, F1, F6, F10, F11, F12, F13, E0, E1, E6, E10, E11, E12, B0, B1, B6, B10, B11, A0, A1, A6, A7, hst], by simp [F0, F1, F6, F10, F11, F12, F13, E0, E1, E6, E10, E11, E12, B0, B1, B6, B10, B11, A0, A1, A6, A7, hst], by simp [F0, F1, F6, F10, F11, F12, F13, E0, E1, E6, E10, E11, E12, B0, B1, B6, B10, B11, A0, A1, A6, A7, hst], by simp [F0, F1, F6, F10, F11, F12, F13, E0, E1, E6, E10, E11, E12, B0, B1, B6, B10, B11, A0, A1, A6, A7, hst], by simp [F0, F1, F6, F10, F11, F12, F13, E0, E1, E6, E10, E11, E12, B0, B1, B6, B10, B11, A0, A1, A6, A7, hst], App.new _ _ _, by omega⟩
              · rw [if_neg (fun x => hjl x.2.1)] at hlv
                rw [hlv] at hst
                repeat' (first | (refine wpc_split _ (fun hc => ?_) (fun hc => ?_) <;> (try simp at hc)) | (refine ww_split _ (fun hc => ?_) (fun hc => ?_) <;> (try simp at hc)) | (refine wp_drawF (by kernel_rfl) ?_) | (refine wk_yldW _ ?_) | (refine layOwe _ (by kernel_rfl) ?_) | (refine owe ?_ (fun ho => ?_)) | (simp (disch := first | assumption | omega | (simp; done) | (simp; omega)) [F0, F1, F6, F10, F11, F12, F13, eI, fold_I1, hq3, -getElem?_pos, List.getElem?_cons_zero, List.getElem?_cons_succ]))
                all_goals first
                  | (exfalso; omega)
                  | exact Bih (Bm - 1) _ _ (by omega) ⟨i + 1, _, by simp [F0, F1, F6, F10, F11, F12, F13, E0, E1, E6, E10, E11, E12, B0, B1, B6, B10, B11, A0, A1, A6, A7, hst], by simp [F0, F1, F6, F10, F11, F12, F13, E0, E1, E6, E10, E11, E12, B0, B1, B6, B10, B11, A0, A1, A6, A7, hst], by simp [F0, F1, F6, F10, F11, F12, F13, E0, E1, E6, E10, E11, E12, B0, B1, B6, B10, B11, A0, A1, A6, A7, hst], by simp [F0, F1, F6, F10, F11, F12, F13, E0, E1, E6, E10, E11, E12, B0, B1, B6, B10, B11, A0, A1, A6, A7, hst], by simp [F0, F1, F6, F10, F11, F12, F13, E0, E1, E6, E10, E11, E12, B0, B1, B6, B10, B11, A0, A1, A6, A7, hst], App.new _ _ _, by omega⟩
      · have hil : i = raw.length := by omega
        have hlvl : (List.range i).map (levAt (baseF right) raw) = lvL (baseF right) raw := by rw [hil]; rfl
        rw [hlvl] at B10
        repeat' (first | (refine wpc_split _ (fun hc => ?_) (fun hc => ?_) <;> (try simp at hc)) | (refine ww_split _ (fun hc => ?_) (fun hc => ?_) <;> (try simp at hc)) | (refine wp_drawF (by kernel_rfl) ?_) | (refine wk_yldW _ ?_) | (refine layOwe _ (by kernel_rfl) ?_) | (refine owe ?_ (fun ho => ?_)) | (simp (disch := first | assumption | omega | (simp; done) | (simp; omega)) [B0, B1, B6, B10, B11, -getElem?_pos, List.getElem?_cons_zero, List.getElem?_cons_succ]))
        rw [hL]; exact ⟨rfl, rfl⟩
@[simp] theorem S12 (l : List Int) (right : Bool) (hs : l.length < 1099511627776) (q1 : Fl) (hh : Heap) : Ci cfg (.func (.func 12) [] []) [R  q1 eI l, .bool right] hh = some (.ret (.tuple [R fl0 eI (levS l right).1, .int .i64 (levS l right).2]), hh) :=
  Ci_K cfg rfl rfl (by simp) (by simp) (C12 l right hs)
end Go.Ab
