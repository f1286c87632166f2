/- Layer 22 (fuse): Choose. -/
import Derived.Test.YtackmibobdoecaaDoorH5b
import Derived.Test.YtackmibobdoecaaDoorH4c
set_option linter.unusedVariables false
set_option linter.unusedSimpArgs false
set_option linter.unusedSectionVars false
set_option linter.deprecated false
namespace Go.Ab
open Go.Proofs
set_option maxRecDepth 100000
set_option maxHeartbeats 4000000
def badS (n : Nat) (x : List Cell) : Bool := decide (x.length ≠ n) || decide (textS x = []) || x.any oddP
def chR (l : List (List Cell)) : (List Wd × List Int) × Int := if 1024 < l.length ∨ l.any (longP 16) = true then (([], []), 2) else if l.any (badS (nth l 0).length) = true then (([], []), 220) else (chL 0 l, 0)
theorem chR_many {l : List (List Cell)} (h : 1024 < l.length) : chR l = (([], []), 2) := by unfold chR; rw [if_pos (.inl h)]
theorem chR_long {l : List (List Cell)} (h : l.any (longP 16) = true) : chR l = (([], []), 2) := by unfold chR; rw [if_pos (.inr h)]
theorem chR_bad {l : List (List Cell)} (h : ¬ 1024 < l.length) (h2 : l.any (longP 16) = false) {i : Nat} (hi : i < l.length) (hb : badS (nth l 0).length (nth l i) = true) : chR l = (([], []), 220) := by
  unfold chR; rw [if_neg (by rw [h2]; simpa using h), if_pos (List.any_eq_true.2 ⟨_, nth_mem hi, hb⟩)]
theorem chR_good {l : List (List Cell)} (h : ¬ 1024 < l.length) (h2 : l.any (longP 16) = false) (hb : ∀ j, j < l.length → badS (nth l 0).length (nth l j) = false) : chR l = (chL 0 l, 0) := by
  unfold chR; rw [if_neg (by rw [h2]; simpa using h), if_neg]
  intro e
  obtain ⟨x, hx, e⟩ := List.any_eq_true.1 e
  obtain ⟨j, hj, rfl⟩ := List.getElem_of_mem hx
  have := hb j hj
  rw [nth_eq hj, e] at this; cases this
theorem C14 (l : List (List Cell)) (hs : smL l) : Kc cfg 14 [R fl0 (eR eC) l] (.ret (.tuple [R fl0 eS (chR l).1.1, R fl0 eI (chR l).1.2, .int .i64 (chR l).2])) := by
  have hs1 := hs.1
  by_cases h16 : 1024 < l.length
  · rw [chR_many h16]
    refine outS_of_wp cfg (fn := Tryd.f14) Tryd.func14 rfl (by simp [Tryd.f14]) ?_
    simp (disch := first | assumption | omega | (simp; done) | (simp; omega)) [-getElem?_pos, List.getElem?_cons_zero, List.getElem?_cons_succ, Tryd.f14, hs, emptyH]
    repeat' (first | (refine wpc_split _ (fun hc => ?_) (fun hc => ?_) <;> (try simp at hc)) | (refine ww_split _ (fun hc => ?_) (fun hc => ?_) <;> (try simp at hc)) | (refine wp_drawF (by kernel_rfl) ?_) | (refine wk_yldW _ ?_) | (refine layOwe _ (by kernel_rfl) ?_) | (refine owe ?_ (fun ho => ?_)) | (simp (disch := first | assumption | omega | (simp; done) | (simp; omega)) [hs, emptyH, -getElem?_pos, List.getElem?_cons_zero, List.getElem?_cons_succ]))
    all_goals first | rfl | exact ⟨rfl, rfl⟩ | exact ⟨rfl, rfl, rfl⟩ | (exfalso; omega)
  cases hlong : l.any (longP 16) with
  | true =>
    rw [chR_long hlong]
    refine outS_of_wp cfg (fn := Tryd.f14) Tryd.func14 rfl (by simp [Tryd.f14]) ?_
    simp (disch := first | assumption | omega | (simp; done) | (simp; omega)) [-getElem?_pos, List.getElem?_cons_zero, List.getElem?_cons_succ, Tryd.f14, hs, hlong, emptyH]
    repeat' (first | (refine wpc_split _ (fun hc => ?_) (fun hc => ?_) <;> (try simp at hc)) | (refine ww_split _ (fun hc => ?_) (fun hc => ?_) <;> (try simp at hc)) | (refine wp_drawF (by kernel_rfl) ?_) | (refine wk_yldW _ ?_) | (refine layOwe _ (by kernel_rfl) ?_) | (refine owe ?_ (fun ho => ?_)) | (simp (disch := first | assumption | omega | (simp; done) | (simp; omega)) [hs, hlong, emptyH, -getElem?_pos, List.getElem?_cons_zero, List.getElem?_cons_succ]))
    all_goals first | rfl | exact ⟨rfl, rfl⟩ | exact ⟨rfl, rfl, rfl⟩ | (exfalso; omega)
  | false =>
    generalize hF : chR l = F
    refine outS_of_wp cfg (fn := Tryd.f14) Tryd.func14 rfl (by simp [Tryd.f14]) ?_
    simp (disch := first | assumption | omega | (simp; done) | (simp; omega)) [-getElem?_pos, List.getElem?_cons_zero, List.getElem?_cons_succ, Tryd.f14, hs, hlong, emptyH]
    repeat' (first | (refine wpc_split _ (fun hc => ?_) (fun hc => ?_) <;> (try simp at hc)) | (refine ww_split _ (fun hc => ?_) (fun hc => ?_) <;> (try simp at hc)) | (refine wp_drawF (by kernel_rfl) ?_) | (refine wk_yldW _ ?_) | (refine layOwe _ (by kernel_rfl) ?_) | (refine owe ?_ (fun ho => ?_)) | (simp (disch := first | assumption | omega | (simp; done) | (simp; omega)) [hs, hlong, emptyH, -getElem?_pos, List.getElem?_cons_zero, List.getElem?_cons_succ]))
    all_goals try (exfalso; omega)
    refine wp_loopE cfg rfl (fun f0 h0 m fr h => ∃ i : Nat, fr 0 = f0 0 ∧ fr 2 = f0 2 ∧ fr 3 = f0 3 ∧ fr 6 = f0 6 ∧ fr 20 = f0 20 ∧ fr 21 = f0 21 ∧ fr 22 = .int .i64 i ∧ h.bs = h0.bs ∧ (i + m = l.length) ∧ (∀ j, j < i → badS (nth l 0).length (nth l j) = false)) (l.length) _ _ ⟨0, rfl, rfl, rfl, rfl, rfl, rfl, by first | rfl | (simp; done) | (simp [R]; done) | simp [R], rfl, by first | rfl | (simp; done) | omega, fun j hj => by omega⟩ ?_
    rintro Am Af Ah ⟨i, A0, A2, A3, A6, A20, A21, A22, Abs, hm, ht⟩ Aih
    try simp at A0 A2 A3 A6 A20 A21 Abs
    by_cases hi : i < l.length
    · have hsi := smL_nth hs hi
      have hsi1 := hsi.1
      have hs0 := smL_nth hs (i := 0) (by omega)
      have hs01 := hs0.1
      have h0l : 0 < l.length := by omega
      have hbe : badS (nth l 0).length (nth l i) = (decide ((nth l i).length ≠ (nth l 0).length) || decide (textS (nth l i) = []) || (nth l i).any oddP) := rfl
      by_cases g1 : (nth l i).length = (nth l 0).length
      · by_cases g2 : textS (nth l i) = []
        · have hb : badS (nth l 0).length (nth l i) = true := by rw [hbe, decide_eq_true g2]; simp
          have hF2 := chR_bad h16 hlong hi hb
          rw [hF] at hF2
          subst hF2
          repeat' (first | (refine wpc_split _ (fun hc => ?_) (fun hc => ?_) <;> (try simp at hc)) | (refine ww_split _ (fun hc => ?_) (fun hc => ?_) <;> (try simp at hc)) | (refine wp_drawF (by kernel_rfl) ?_) | (refine wk_yldW _ ?_) | (refine layOwe _ (by kernel_rfl) ?_) | (refine owe ?_ (fun ho => ?_)) | (simp (disch := first | assumption | omega | (simp; done) | (simp; omega)) [A0, A2, A3, A6, A20, A21, A22, Abs, eR, g1, g2, hsi, h0l, -getElem?_pos, List.getElem?_cons_zero, List.getElem?_cons_succ]))
          all_goals first | rfl | exact ⟨rfl, rfl⟩ | exact ⟨rfl, rfl, rfl⟩ | (exfalso; omega)
        · cases g3 : (nth l i).any oddP with
          | true =>
            have hb : badS (nth l 0).length (nth l i) = true := by rw [hbe, g3]; simp
            have hF2 := chR_bad h16 hlong hi hb
            rw [hF] at hF2
            subst hF2
            repeat' (first | (refine wpc_split _ (fun hc => ?_) (fun hc => ?_) <;> (try simp at hc)) | (refine ww_split _ (fun hc => ?_) (fun hc => ?_) <;> (try simp at hc)) | (refine wp_drawF (by kernel_rfl) ?_) | (refine wk_yldW _ ?_) | (refine layOwe _ (by kernel_rfl) ?_) | (refine owe ?_ (fun ho => ?_)) | (simp (disch := first | assumption | omega | (simp; done) | (simp; omega)) [A0, A2, A3, A6, A20, A21, A22, Abs, eR, g1, g2, g3, hsi, h0l, -getElem?_pos, List.getElem?_cons_zero, List.getElem?_cons_succ]))
            all_goals first | rfl | exact ⟨rfl, rfl⟩ | exact ⟨rfl, rfl, rfl⟩ | (exfalso; omega)
          | false =>
            have hb : badS (nth l 0).length (nth l i) = false := by rw [hbe, g3, decide_eq_false g2]; simpa using g1
            repeat' (first | (refine wpc_split _ (fun hc => ?_) (fun hc => ?_) <;> (try simp at hc)) | (refine ww_split _ (fun hc => ?_) (fun hc => ?_) <;> (try simp at hc)) | (refine wp_drawF (by kernel_rfl) ?_) | (refine wk_yldW _ ?_) | (refine layOwe _ (by kernel_rfl) ?_) | (refine owe ?_ (fun ho => ?_)) | (simp (disch := first | assumption | omega | (simp; done) | (simp; omega)) [A0, A2, A3, A6, A20, A21, A22, Abs, eR, g1, g2, g3, hsi, h0l, -getElem?_pos, List.getElem?_cons_zero, List.getElem?_cons_succ]))
            all_goals try (exfalso; omega)
            exact Aih (Am - 1) _ _ (by omega) ⟨i + 1, by simp [A0, A2, A3, A6, A20, A21, A22, Abs], by simp [A0, A2, A3, A6, A20, A21, A22, Abs], by simp [A0, A2, A3, A6, A20, A21, A22, Abs], by simp [A0, A2, A3, A6, A20, A21, A22, Abs], by simp [A0, A2, A3, A6, A20, A21, A22, Abs], by simp [A0, A2, A3, A6, A20, A21, A22, Abs], by simp [A0, A2, A3, A6, A20, A21, A22, Abs], by simp [A0, A2, A3, A6, A20, A21, A22, Abs], by omega, fun j hj => by (by_cases e : j = i; (subst e; exact hb); exact ht j (by omega))⟩
      · have hb : badS (nth l 0).length (nth l i) = true := by rw [hbe, decide_eq_true (by exact g1)]; simp
        have hF2 := chR_bad h16 hlong hi hb
        rw [hF] at hF2
        subst hF2
        repeat' (first | (refine wpc_split _ (fun hc => ?_) (fun hc => ?_) <;> (try simp at hc)) | (refine ww_split _ (fun hc => ?_) (fun hc => ?_) <;> (try simp at hc)) | (refine wp_drawF (by kernel_rfl) ?_) | (refine wk_yldW _ ?_) | (refine layOwe _ (by kernel_rfl) ?_) | (refine owe ?_ (fun ho => ?_)) | (simp (disch := first | assumption | omega | (simp; done) | (simp; omega)) [A0, A2, A3, A6, A20, A21, A22, Abs, eR, g1, hsi, h0l, -getElem?_pos, List.getElem?_cons_zero, List.getElem?_cons_succ]))
        all_goals first | rfl | exact ⟨rfl, rfl⟩ | exact ⟨rfl, rfl, rfl⟩ | (exfalso; omega)
    · have hg := chR_good h16 hlong (fun j hj => ht j (by omega))
      rw [hF] at hg
      subst hg
      clear ht hm
      repeat' (first | (refine wpc_split _ (fun hc => ?_) (fun hc => ?_) <;> (try simp at hc)) | (refine ww_split _ (fun hc => ?_) (fun hc => ?_) <;> (try simp at hc)) | (refine wp_drawF (by kernel_rfl) ?_) | (refine wk_yldW _ ?_) | (refine layOwe _ (by kernel_rfl) ?_) | (refine owe ?_ (fun ho => ?_)) | (simp (disch := first | assumption | omega | (simp; done) | (simp; omega)) [A0, A2, A3, A6, A20, A21, A22, Abs, -getElem?_pos, List.getElem?_cons_zero, List.getElem?_cons_succ]))
      refine wp_loopE cfg rfl (fun f0 h0 m fr h => ∃ i : Nat, ∃ fl : Fl, ∃ fl2 : Fl, fr 0 = f0 0 ∧ fr 44 = f0 44 ∧ fr 45 = f0 45 ∧ fr 2 = R fl eS (chL 0 (l.take i)).1 ∧ fr 3 = R fl2 eI (chL 0 (l.take i)).2 ∧ fr 46 = .int .i64 i ∧ h.bs = h0.bs ∧ (App h.ts 1 fl) ∧ (App h.ts 1 fl2) ∧ (fl2.2.2 = none ∨ fl2.2.2 ≠ fl.2.2) ∧ (i + m = l.length)) (l.length) _ _ ⟨0, (true, true, none), (true, true, none), rfl, rfl, rfl, by simp [A2, chL, R], by simp [A3, chL, R], by first | rfl | (simp; done) | (simp [R]; done) | simp [R], rfl, App.nil _ _ _, App.nil _ _ _, .inl rfl, by first | rfl | (simp; done) | omega⟩ ?_
      rintro Bm Bf Bh ⟨i, fl, fl2, B0, B44, B45, B2, B3, B46, Bbs, hap, hap2, hne, hm⟩ Bih
      try simp at B0 B44 B45 Bbs
      by_cases hi : i < l.length
      · have hsi := smL_nth hs hi
        have hct := chL_take hi
        have hcl := chL_len (l.take i) 0
        have hll : (l.take i).length ≤ i := by simp; omega
        by_cases g1 : chooseS (nth l i) = []
        · rw [if_pos g1] at hct
          repeat' (first | (refine wpc_split _ (fun hc => ?_) (fun hc => ?_) <;> (try simp at hc)) | (refine ww_split _ (fun hc => ?_) (fun hc => ?_) <;> (try simp at hc)) | (refine wp_drawF (by kernel_rfl) ?_) | (refine wk_yldW _ ?_) | (refine layOwe _ (by kernel_rfl) ?_) | (refine owe ?_ (fun ho => ?_)) | (simp (disch := first | assumption | omega | (simp; done) | (simp; omega)) [B0, B44, B45, B2, B3, B46, Bbs, A0, A2, A3, A6, A20, A21, A22, Abs, eR, g1, hsi, -getElem?_pos, List.getElem?_cons_zero, List.getElem?_cons_succ]))
          exact Bih (Bm - 1) _ _ (by omega) ⟨i + 1, fl, fl2, by simp [B0, B44, B45, B2, B3, B46, Bbs, hct], by simp [B0, B44, B45, B2, B3, B46, Bbs, hct], by simp [B0, B44, B45, B2, B3, B46, Bbs, hct], by simp [B0, B44, B45, B2, B3, B46, Bbs, hct], by simp [B0, B44, B45, B2, B3, B46, Bbs, hct], by simp [B0, B44, B45, B2, B3, B46, Bbs, hct], by simp [B0, B44, B45, B2, B3, B46, Bbs, hct], hap, hap2, hne, by omega⟩
        · rw [if_neg g1] at hct
          have hap3 : App (bumpT Bh.ts fl.2.2 1) 1 fl2 := hap2.keep hne
          repeat' (first | (refine wpc_split _ (fun hc => ?_) (fun hc => ?_) <;> (try simp at hc)) | (refine ww_split _ (fun hc => ?_) (fun hc => ?_) <;> (try simp at hc)) | (refine wp_drawF (by kernel_rfl) ?_) | (refine wk_yldW _ ?_) | (refine layOwe _ (by kernel_rfl) ?_) | (refine owe ?_ (fun ho => ?_)) | (simp (disch := first | assumption | omega | (simp; done) | (simp; omega)) [B0, B44, B45, B2, B3, B46, Bbs, A0, A2, A3, A6, A20, A21, A22, Abs, eR, g1, hsi, fold_S1, fold_I1, hap3, -getElem?_pos, List.getElem?_cons_zero, List.getElem?_cons_succ]))
          have hn1 : some Bh.ts.length ≠ fl2.2.2 := fun e => by rcases hap2.lt with h | h; (rw [h] at e; cases e); exact h e.symm
          exact Bih (Bm - 1) _ _ (by omega) ⟨i + 1, _, _, by simp [B0, B44, B45, B2, B3, B46, Bbs, hct, Abs], by simp [B0, B44, B45, B2, B3, B46, Bbs, hct, Abs], by simp [B0, B44, B45, B2, B3, B46, Bbs, hct, Abs], by simp [B0, B44, B45, B2, B3, B46, Bbs, hct, Abs], by simp [B0, B44, B45, B2, B3, B46, Bbs, hct, Abs], by simp [B0, B44, B45, B2, B3, B46, Bbs, hct, Abs], by simp [B0, B44, B45, B2, B3, B46, Bbs, hct, Abs], (App.new _ _ _).keep (.inr hn1), App.new _ _ _, .inr (by simp [bump_len]), by omega⟩
      · have h1 : l.take i = l := List.take_of_length_le (by omega)
        rw [h1] at B2 B3
        repeat' (first | (refine wpc_split _ (fun hc => ?_) (fun hc => ?_) <;> (try simp at hc)) | (refine ww_split _ (fun hc => ?_) (fun hc => ?_) <;> (try simp at hc)) | (refine wp_drawF (by kernel_rfl) ?_) | (refine wk_yldW _ ?_) | (refine layOwe _ (by kernel_rfl) ?_) | (refine owe ?_ (fun ho => ?_)) | (simp (disch := first | assumption | omega | (simp; done) | (simp; omega)) [B0, B44, B45, B2, B3, B46, Bbs, -getElem?_pos, List.getElem?_cons_zero, List.getElem?_cons_succ]))
@[simp] theorem S14 (l : List (List Cell)) (hs : smL l) (q1 : Fl) (hh : Heap) : Ci cfg (.func (.func 14) [] []) [R  q1 (eR eC) l] hh = some (.ret (.tuple [R fl0 eS (chR l).1.1, R fl0 eI (chR l).1.2, .int .i64 (chR l).2]), hh) :=
  Ci_K cfg rfl rfl (by simp) (by simp) (C14 l hs)
theorem C15 (l : List (List Cell)) (hs : smL l) (hq : ∀ x ∈ l, ∀ c ∈ x, c.alts.length ≤ 1000000) : Kc cfg 15 [R fl0 (eR eC) l] (.ret (.tuple [R fl0 eS (chR l).1.1, R fl0 eI (chR l).1.2, .int .i64 (chR l).2])) := by
  have hs1 := hs.1
  by_cases h16 : 1024 < l.length
  · rw [chR_many h16]
    refine outS_of_wp cfg (fn := Tryd.f15) Tryd.func15 rfl (by simp [Tryd.f15]) ?_
    simp (disch := first | assumption | omega | (simp; done) | (simp; omega)) [-getElem?_pos, List.getElem?_cons_zero, List.getElem?_cons_succ, Tryd.f15, hs, emptyH]
    repeat' (first | (refine wpc_split _ (fun hc => ?_) (fun hc => ?_) <;> (try simp at hc)) | (refine ww_split _ (fun hc => ?_) (fun hc => ?_) <;> (try simp at hc)) | (refine wp_drawF (by kernel_rfl) ?_) | (refine wk_yldW _ ?_) | (refine layOwe _ (by kernel_rfl) ?_) | (refine owe ?_ (fun ho => ?_)) | (simp (disch := first | assumption | omega | (simp; done) | (simp; omega)) [hs, emptyH, -getElem?_pos, List.getElem?_cons_zero, List.getElem?_cons_succ]))
    all_goals first | rfl | exact ⟨rfl, rfl⟩ | exact ⟨rfl, rfl, rfl⟩ | (exfalso; omega)
  generalize hF : chR l = F
  refine outS_of_wp cfg (fn := Tryd.f15) Tryd.func15 rfl (by simp [Tryd.f15]) ?_
  simp (disch := first | assumption | omega | (simp; done) | (simp; omega)) [-getElem?_pos, List.getElem?_cons_zero, List.getElem?_cons_succ, Tryd.f15, hs, emptyH]
  repeat' (first | (refine wpc_split _ (fun hc => ?_) (fun hc => ?_) <;> (try simp at hc)) | (refine ww_split _ (fun hc => ?_) (fun hc => ?_) <;> (try simp at hc)) | (refine wp_drawF (by kernel_rfl) ?_) | (refine wk_yldW _ ?_) | (refine layOwe _ (by kernel_rfl) ?_) | (refine owe ?_ (fun ho => ?_)) | (simp (disch := first | assumption | omega | (simp; done) | (simp; omega)) [hs, emptyH, -getElem?_pos, List.getElem?_cons_zero, List.getElem?_cons_succ]))
  all_goals try (exfalso; omega)
  refine wp_loopE cfg rfl (fun f0 h0 m fr h => ∃ i : Nat, fr 0 = f0 0 ∧ fr 5 = .int .i64 i ∧ h.bs = h0.bs ∧ (i + m = l.length) ∧ (∀ j, j < i → longP 16 (nth l j) = false)) (l.length) _ _ ⟨0, rfl, by first | rfl | (simp; done) | (simp [R]; done) | simp [R], rfl, by first | rfl | (simp; done) | omega, fun j hj => by omega⟩ ?_
  rintro Am Af Ah ⟨i, A0, A5, Abs, hm, ht⟩ Aih
  try simp at A0 Abs
  by_cases hi : i < l.length
  · have hsi := (smL_nth hs hi).1
    cases hw : longP 16 (nth l i) with
    | true =>
      have hlg := longP_t hw
      have hF2 := chR_long (l := l) (List.any_eq_true.2 ⟨_, nth_mem hi, hw⟩)
      rw [hF] at hF2
      subst hF2
      repeat' (first | (refine wpc_split _ (fun hc => ?_) (fun hc => ?_) <;> (try simp at hc)) | (refine ww_split _ (fun hc => ?_) (fun hc => ?_) <;> (try simp at hc)) | (refine wp_drawF (by kernel_rfl) ?_) | (refine wk_yldW _ ?_) | (refine layOwe _ (by kernel_rfl) ?_) | (refine owe ?_ (fun ho => ?_)) | (simp (disch := first | assumption | omega | (simp; done) | (simp; omega)) [A0, A5, Abs, eR, -getElem?_pos, List.getElem?_cons_zero, List.getElem?_cons_succ]))
      all_goals first | rfl | exact ⟨rfl, rfl⟩ | exact ⟨rfl, rfl, rfl⟩ | (exfalso; omega)
    | false =>
      have hlg := longP_f hw
      repeat' (first | (refine wpc_split _ (fun hc => ?_) (fun hc => ?_) <;> (try simp at hc)) | (refine ww_split _ (fun hc => ?_) (fun hc => ?_) <;> (try simp at hc)) | (refine wp_drawF (by kernel_rfl) ?_) | (refine wk_yldW _ ?_) | (refine layOwe _ (by kernel_rfl) ?_) | (refine owe ?_ (fun ho => ?_)) | (simp (disch := first | assumption | omega | (simp; done) | (simp; omega)) [A0, A5, Abs, eR, -getElem?_pos, List.getElem?_cons_zero, List.getElem?_cons_succ]))
      all_goals try (exfalso; omega)
      exact Aih (Am - 1) _ _ (by omega) ⟨i + 1, by simp [A0, A5, Abs], by simp [A0, A5, Abs], by simp [A0, A5, Abs], by omega, fun j hj => by (by_cases e : j = i; (subst e; exact hw); exact ht j (by omega))⟩
  · have hlong : l.any (longP 16) = false := by
      cases e : l.any (longP 16) with
      | false => rfl
      | true =>
        obtain ⟨x, hx, e⟩ := List.any_eq_true.1 e
        obtain ⟨j, hj, rfl⟩ := List.getElem_of_mem hx
        have := ht j (by omega)
        rw [nth_eq hj, e] at this; cases this
    clear ht hm
    repeat' (first | (refine wpc_split _ (fun hc => ?_) (fun hc => ?_) <;> (try simp at hc)) | (refine ww_split _ (fun hc => ?_) (fun hc => ?_) <;> (try simp at hc)) | (refine wp_drawF (by kernel_rfl) ?_) | (refine wk_yldW _ ?_) | (refine layOwe _ (by kernel_rfl) ?_) | (refine owe ?_ (fun ho => ?_)) | (simp (disch := first | assumption | omega | (simp; done) | (simp; omega)) [A0, A5, Abs, -getElem?_pos, List.getElem?_cons_zero, List.getElem?_cons_succ]))
    refine wp_loopE cfg rfl (fun f0 h0 m fr h => ∃ i : Nat, fr 0 = f0 0 ∧ fr 6 = .int .i64 i ∧ h.bs = h0.bs ∧ (i + m = l.length) ∧ (∀ j, j < i → badS (nth l 0).length (nth l j) = false)) (l.length) _ _ ⟨0, rfl, by first | rfl | (simp; done) | (simp [R]; done) | simp [R], rfl, by first | rfl | (simp; done) | omega, fun j hj => by omega⟩ ?_
    rintro Bm Bf Bh ⟨i, B0, B6, Bbs, hm, ht⟩ Bih
    try simp at B0 Bbs
    by_cases hi : i < l.length
    · have hsi := smL_nth hs hi
      have hsi1 := hsi.1
      have hs0 := smL_nth hs (i := 0) (by omega)
      have hs01 := hs0.1
      have h0l : 0 < l.length := by omega
      have hbe : badS (nth l 0).length (nth l i) = (decide ((nth l i).length ≠ (nth l 0).length) || decide (textS (nth l i) = []) || (nth l i).any oddP) := rfl
      by_cases g1 : (nth l i).length = (nth l 0).length
      · by_cases g2 : textS (nth l i) = []
        · have hb : badS (nth l 0).length (nth l i) = true := by rw [hbe, decide_eq_true g2]; simp
          have hF2 := chR_bad h16 hlong hi hb
          rw [hF] at hF2
          subst hF2
          repeat' (first | (refine wpc_split _ (fun hc => ?_) (fun hc => ?_) <;> (try simp at hc)) | (refine ww_split _ (fun hc => ?_) (fun hc => ?_) <;> (try simp at hc)) | (refine wp_drawF (by kernel_rfl) ?_) | (refine wk_yldW _ ?_) | (refine layOwe _ (by kernel_rfl) ?_) | (refine owe ?_ (fun ho => ?_)) | (simp (disch := first | assumption | omega | (simp; done) | (simp; omega)) [B0, B6, Bbs, A0, A5, Abs, eR, g1, g2, hsi, h0l, -getElem?_pos, List.getElem?_cons_zero, List.getElem?_cons_succ]))
          all_goals first | rfl | exact ⟨rfl, rfl⟩ | exact ⟨rfl, rfl, rfl⟩ | (exfalso; omega)
        · repeat' (first | (refine wpc_split _ (fun hc => ?_) (fun hc => ?_) <;> (try simp at hc)) | (refine ww_split _ (fun hc => ?_) (fun hc => ?_) <;> (try simp at hc)) | (refine wp_drawF (by kernel_rfl) ?_) | (refine wk_yldW _ ?_) | (refine layOwe _ (by kernel_rfl) ?_) | (refine owe ?_ (fun ho => ?_)) | (simp (disch := first | assumption | omega | (simp; done) | (simp; omega)) [B0, B6, Bbs, A0, A5, Abs, eR, g1, g2, hsi, h0l, -getElem?_pos, List.getElem?_cons_zero, List.getElem?_cons_succ]))
          all_goals try (exfalso; omega)
          refine wp_loopE cfg rfl (fun f0 h0 m fr h => ∃ k : Nat, fr 0 = f0 0 ∧ fr 6 = f0 6 ∧ fr 7 = .int .i64 k ∧ h.bs = h0.bs ∧ (k + m = (nth l i).length) ∧ (∀ j, j < k → oddP (nth (nth l i) j) = false)) ((nth l i).length) _ _ ⟨0, rfl, rfl, by first | rfl | (simp; done) | (simp [R]; done) | simp [R], rfl, by first | rfl | (simp; done) | omega, fun j hj => by omega⟩ ?_
          rintro Cm Cf Ch ⟨k, C0, C6, C7, Cbs, hm2, ht2⟩ Cih
          try simp [B0, B6, Bbs] at C0 C6 Cbs
          by_cases hk : k < (nth l i).length
          · have hck := smS_nth hsi hk
            have hr : rightC ⟨(nth (nth l i) k).text, (nth (nth l i) k).alts⟩ = rightC (nth (nth l i) k) := rfl
            have he : emptyC ⟨(nth (nth l i) k).text, (nth (nth l i) k).alts⟩ = emptyC (nth (nth l i) k) := rfl
            have hoe : oddP (nth (nth l i) k) = (!emptyC (nth (nth l i) k) && !rightC (nth (nth l i) k)) := by
              unfold oddP emptyC; by_cases a : (nth (nth l i) k).text = [] <;> by_cases b : (nth (nth l i) k).alts = [] <;> simp [a, b]
            cases hw : oddP (nth (nth l i) k) with
            | true =>
              rw [hw] at hoe
              have hoe2 := hoe.symm
              simp only [Bool.and_eq_true, Bool.not_eq_true'] at hoe2
              have hb : badS (nth l 0).length (nth l i) = true := by rw [hbe, (List.any_eq_true.2 ⟨_, nth_mem hk, hw⟩ : (nth l i).any oddP = true)]; simp
              have hF2 := chR_bad h16 hlong hi hb
              rw [hF] at hF2
              subst hF2
              repeat' (first | (refine wpc_split _ (fun hc => ?_) (fun hc => ?_) <;> (try simp at hc)) | (refine ww_split _ (fun hc => ?_) (fun hc => ?_) <;> (try simp at hc)) | (refine wp_drawF (by kernel_rfl) ?_) | (refine wk_yldW _ ?_) | (refine layOwe _ (by kernel_rfl) ?_) | (refine owe ?_ (fun ho => ?_)) | (simp (disch := first | assumption | omega | (simp; done) | (simp; omega)) [C0, C6, C7, Cbs, B0, B6, Bbs, A0, A5, Abs, eR, g1, g2, hsi, h0l, hck, hr, he, hoe2, -getElem?_pos, List.getElem?_cons_zero, List.getElem?_cons_succ]))
              all_goals first | rfl | exact ⟨rfl, rfl⟩ | exact ⟨rfl, rfl, rfl⟩ | (exfalso; omega)
            | false =>
              rw [hw] at hoe
              cases h1 : rightC (nth (nth l i) k) with
              | true =>
                repeat' (first | (refine wpc_split _ (fun hc => ?_) (fun hc => ?_) <;> (try simp at hc)) | (refine ww_split _ (fun hc => ?_) (fun hc => ?_) <;> (try simp at hc)) | (refine wp_drawF (by kernel_rfl) ?_) | (refine wk_yldW _ ?_) | (refine layOwe _ (by kernel_rfl) ?_) | (refine owe ?_ (fun ho => ?_)) | (simp (disch := first | assumption | omega | (simp; done) | (simp; omega)) [C0, C6, C7, Cbs, B0, B6, Bbs, A0, A5, Abs, eR, g1, g2, hsi, h0l, hck, hr, he, h1, -getElem?_pos, List.getElem?_cons_zero, List.getElem?_cons_succ]))
                exact Cih (Cm - 1) _ _ (by omega) ⟨k + 1, by simp [C0, C6, C7, Cbs, B0, B6, Bbs], by simp [C0, C6, C7, Cbs, B0, B6, Bbs], by simp [C0, C6, C7, Cbs, B0, B6, Bbs], by simp [C0, C6, C7, Cbs, B0, B6, Bbs], by omega, fun j hj => by (by_cases e : j = k; (subst e; exact hw); exact ht2 j (by omega))⟩
              | false =>
                have h2 : emptyC (nth (nth l i) k) = true := by rw [h1] at hoe; simpa using hoe
                repeat' (first | (refine wpc_split _ (fun hc => ?_) (fun hc => ?_) <;> (try simp at hc)) | (refine ww_split _ (fun hc => ?_) (fun hc => ?_) <;> (try simp at hc)) | (refine wp_drawF (by kernel_rfl) ?_) | (refine wk_yldW _ ?_) | (refine layOwe _ (by kernel_rfl) ?_) | (refine owe ?_ (fun ho => ?_)) | (simp (disch := first | assumption | omega | (simp; done) | (simp; omega)) [C0, C6, C7, Cbs, B0, B6, Bbs, A0, A5, Abs, eR, g1, g2, hsi, h0l, hck, hr, he, h1, h2, -getElem?_pos, List.getElem?_cons_zero, List.getElem?_cons_succ]))
                exact Cih (Cm - 1) _ _ (by omega) ⟨k + 1, by simp [C0, C6, C7, Cbs, B0, B6, Bbs], by simp [C0, C6, C7, Cbs, B0, B6, Bbs], by simp [C0, C6, C7, Cbs, B0, B6, Bbs], by simp [C0, C6, C7, Cbs, B0, B6, Bbs], by omega, fun j hj => by (by_cases e : j = k; (subst e; exact hw); exact ht2 j (by omega))⟩
          · have g3 : (nth l i).any oddP = false := by
              cases e : (nth l i).any oddP with
              | false => rfl
              | true =>
                obtain ⟨x, hx, e⟩ := List.any_eq_true.1 e
                obtain ⟨j, hj, rfl⟩ := List.getElem_of_mem hx
                have := ht2 j (by omega)
                rw [nth_eq hj, e] at this; cases this
            have hb : badS (nth l 0).length (nth l i) = false := by rw [hbe, g3, decide_eq_false g2]; simpa using g1
            repeat' (first | (refine wpc_split _ (fun hc => ?_) (fun hc => ?_) <;> (try simp at hc)) | (refine ww_split _ (fun hc => ?_) (fun hc => ?_) <;> (try simp at hc)) | (refine wp_drawF (by kernel_rfl) ?_) | (refine wk_yldW _ ?_) | (refine layOwe _ (by kernel_rfl) ?_) | (refine owe ?_ (fun ho => ?_)) | (simp (disch := first | assumption | omega | (simp; done) | (simp; omega)) [C0, C6, C7, Cbs, B0, B6, Bbs, A0, A5, Abs, eR, -getElem?_pos, List.getElem?_cons_zero, List.getElem?_cons_succ]))
            exact Bih (Bm - 1) _ _ (by omega) ⟨i + 1, by simp [C0, C6, C7, Cbs, B0, B6, Bbs], by simp [C0, C6, C7, Cbs, B0, B6, Bbs], by simp [C0, C6, C7, Cbs, B0, B6, Bbs], by omega, fun j hj => by (by_cases e : j = i; (subst e; exact hb); exact ht j (by omega))⟩
      · have hb : badS (nth l 0).length (nth l i) = true := by rw [hbe, decide_eq_true (by exact g1)]; simp
        have hF2 := chR_bad h16 hlong hi hb
        rw [hF] at hF2
        subst hF2
        repeat' (first | (refine wpc_split _ (fun hc => ?_) (fun hc => ?_) <;> (try simp at hc)) | (refine ww_split _ (fun hc => ?_) (fun hc => ?_) <;> (try simp at hc)) | (refine wp_drawF (by kernel_rfl) ?_) | (refine wk_yldW _ ?_) | (refine layOwe _ (by kernel_rfl) ?_) | (refine owe ?_ (fun ho => ?_)) | (simp (disch := first | assumption | omega | (simp; done) | (simp; omega)) [B0, B6, Bbs, A0, A5, Abs, eR, g1, hsi, h0l, -getElem?_pos, List.getElem?_cons_zero, List.getElem?_cons_succ]))
        all_goals first | rfl | exact ⟨rfl, rfl⟩ | exact ⟨rfl, rfl, rfl⟩ | (exfalso; omega)
    · have hg := chR_good h16 hlong (fun j hj => ht j (by omega))
      rw [hF] at hg
      subst hg
      clear ht hm
      repeat' (first | (refine wpc_split _ (fun hc => ?_) (fun hc => ?_) <;> (try simp at hc)) | (refine ww_split _ (fun hc => ?_) (fun hc => ?_) <;> (try simp at hc)) | (refine wp_drawF (by kernel_rfl) ?_) | (refine wk_yldW _ ?_) | (refine layOwe _ (by kernel_rfl) ?_) | (refine owe ?_ (fun ho => ?_)) | (simp (disch := first | assumption | omega | (simp; done) | (simp; omega)) [B0, B6, Bbs, A0, A5, Abs, -getElem?_pos, List.getElem?_cons_zero, List.getElem?_cons_succ]))
      refine wp_loopE cfg rfl (fun f0 h0 m fr h => ∃ i : Nat, ∃ fl : Fl, ∃ fl2 : Fl, fr 0 = f0 0 ∧ fr 8 = R fl eS (chL 0 (l.take i)).1 ∧ fr 9 = R fl2 eI (chL 0 (l.take i)).2 ∧ fr 10 = .int .i64 i ∧ (App h.ts 1 fl) ∧ (App h.ts 1 fl2) ∧ (fl2.2.2 = none ∨ fl2.2.2 ≠ fl.2.2) ∧ (i + m = l.length)) (l.length) _ _ ⟨0, (false, true, none), (false, true, none), rfl, by simp [chL, R], by simp [chL, R], by first | rfl | (simp; done) | (simp [R]; done) | simp [R], App.full _ _ _, App.full _ _ _, .inl rfl, by first | rfl | (simp; done) | omega⟩ ?_
      rintro Gm Gf Gh ⟨i, fl, fl2, G0, G8, G9, G10, hap, hap2, hne, hm⟩ Gih
      try simp at G0
      by_cases hi : i < l.length
      · have hsi := smL_nth hs hi
        have hqi := hq _ (nth_mem hi)
        have hct := chL_take hi
        have hcl := chL_len (l.take i) 0
        have hll : (l.take i).length ≤ i := by simp; omega
        by_cases g1 : chooseS (nth l i) = []
        · rw [if_pos g1] at hct
          repeat' (first | (refine wpc_split _ (fun hc => ?_) (fun hc => ?_) <;> (try simp at hc)) | (refine ww_split _ (fun hc => ?_) (fun hc => ?_) <;> (try simp at hc)) | (refine wp_drawF (by kernel_rfl) ?_) | (refine wk_yldW _ ?_) | (refine layOwe _ (by kernel_rfl) ?_) | (refine owe ?_ (fun ho => ?_)) | (simp (disch := first | assumption | omega | (simp; done) | (simp; omega)) [G0, G8, G9, G10, B0, B6, Bbs, A0, A5, Abs, eR, g1, hsi, hqi, -getElem?_pos, List.getElem?_cons_zero, List.getElem?_cons_succ]))
          exact Gih (Gm - 1) _ _ (by omega) ⟨i + 1, fl, fl2, by simp [G0, G8, G9, G10, hct], by simp [G0, G8, G9, G10, hct], by simp [G0, G8, G9, G10, hct], by simp [G0, G8, G9, G10, hct], hap, hap2, hne, by omega⟩
        · rw [if_neg g1] at hct
          have hap3 : App (bumpT Gh.ts fl.2.2 1) 1 fl2 := hap2.keep hne
          repeat' (first | (refine wpc_split _ (fun hc => ?_) (fun hc => ?_) <;> (try simp at hc)) | (refine ww_split _ (fun hc => ?_) (fun hc => ?_) <;> (try simp at hc)) | (refine wp_drawF (by kernel_rfl) ?_) | (refine wk_yldW _ ?_) | (refine layOwe _ (by kernel_rfl) ?_) | (refine owe ?_ (fun ho => ?_)) | (simp (disch := first | assumption | omega | (simp; done) | (simp; omega)) [G0, G8, G9, G10, B0, B6, Bbs, A0, A5, Abs, eR, g1, hsi, hqi, fold_S1, fold_I1, hap3, -getElem?_pos, List.getElem?_cons_zero, List.getElem?_cons_succ]))
          have hn1 : some Gh.ts.length ≠ fl2.2.2 := fun e => by rcases hap2.lt with h | h; (rw [h] at e; cases e); exact h e.symm
          exact Gih (Gm - 1) _ _ (by omega) ⟨i + 1, _, _, by simp [G0, G8, G9, G10, hct], by simp [G0, G8, G9, G10, hct], by simp [G0, G8, G9, G10, hct], by simp [G0, G8, G9, G10, hct], (App.new _ _ _).keep (.inr hn1), App.new _ _ _, .inr (by simp [bump_len]), by omega⟩
      · have h1 : l.take i = l := List.take_of_length_le (by omega)
        rw [h1] at G8 G9
        repeat' (first | (refine wpc_split _ (fun hc => ?_) (fun hc => ?_) <;> (try simp at hc)) | (refine ww_split _ (fun hc => ?_) (fun hc => ?_) <;> (try simp at hc)) | (refine wp_drawF (by kernel_rfl) ?_) | (refine wk_yldW _ ?_) | (refine layOwe _ (by kernel_rfl) ?_) | (refine owe ?_ (fun ho => ?_)) | (simp (disch := first | assumption | omega | (simp; done) | (simp; omega)) [G0, G8, G9, G10, B0, B6, Bbs, A0, A5, Abs, -getElem?_pos, List.getElem?_cons_zero, List.getElem?_cons_succ]))
@[simp] theorem S15 (l : List (List Cell)) (hs : smL l) (hq : ∀ x ∈ l, ∀ c ∈ x, c.alts.length ≤ 1000000) (q1 : Fl) (hh : Heap) : Ci cfg (.func (.func 15) [] []) [R  q1 (eR eC) l] hh = some (.ret (.tuple [R fl0 eS (chR l).1.1, R fl0 eI (chR l).1.2, .int .i64 (chR l).2]), hh) :=
  Ci_K cfg rfl rfl (by simp) (by simp) (C15 l hs hq)
end Go.Ab
