/- Layer 22 (fuse): the laws' functions: right, fused, say. -/
import Derived.Test.YtackmibobdoecaaDoorH7
set_option linter.unusedVariables false
set_option linter.unusedSimpArgs false
set_option linter.unusedSectionVars false
set_option linter.deprecated false
namespace Go.Ab
open Go.Proofs
set_option maxRecDepth 100000
set_option maxHeartbeats 4000000
def rightR (r : List Cell) : Bool := decide (r.length ≤ 12) && r.all rightC
def rightL (l : List (List Cell)) : Bool := decide (l.length ≤ 5) && fewB l && l.all rightR
theorem C18 (l : List (List Cell)) (hs : smL l) : Kc cfg 18 [R fl0 (eR eC) l] (.ret (.bool (rightL l))) := by
  have hs1 := hs.1
  have hd : rightL l = (decide (l.length ≤ 5) && fewB l && l.all rightR) := rfl
  by_cases g0 : l.length ≤ 5
  · cases g1 : fewB l with
    | false =>
      rw [hd, g1, decide_eq_true g0]
      refine outS_of_wp cfg (fn := Tryd.f18) Tryd.func18 rfl (by simp [Tryd.f18]) ?_
      simp (disch := first | assumption | omega | (simp; done) | (simp; omega)) [-getElem?_pos, List.getElem?_cons_zero, List.getElem?_cons_succ, Tryd.f18, hs, g1, emptyH]
      repeat' (first | (refine wpc_split _ (fun hc => ?_) (fun hc => ?_) <;> (try simp at hc)) | (refine ww_split _ (fun hc => ?_) (fun hc => ?_) <;> (try simp at hc)) | (refine wp_drawF (by kernel_rfl) ?_) | (refine wk_yldW _ ?_) | (refine layOwe _ (by kernel_rfl) ?_) | (refine owe ?_ (fun ho => ?_)) | (simp (disch := first | assumption | omega | (simp; done) | (simp; omega)) [hs, g1, emptyH, -getElem?_pos, List.getElem?_cons_zero, List.getElem?_cons_succ]))
      all_goals first | rfl | (exfalso; omega)
    | true =>
      rw [hd, g1, decide_eq_true g0]
      simp only [Bool.true_and]
      generalize hF : l.all rightR = F
      refine outS_of_wp cfg (fn := Tryd.f18) Tryd.func18 rfl (by simp [Tryd.f18]) ?_
      simp (disch := first | assumption | omega | (simp; done) | (simp; omega)) [-getElem?_pos, List.getElem?_cons_zero, List.getElem?_cons_succ, Tryd.f18, hs, g1, emptyH]
      repeat' (first | (refine wpc_split _ (fun hc => ?_) (fun hc => ?_) <;> (try simp at hc)) | (refine ww_split _ (fun hc => ?_) (fun hc => ?_) <;> (try simp at hc)) | (refine wp_drawF (by kernel_rfl) ?_) | (refine wk_yldW _ ?_) | (refine layOwe _ (by kernel_rfl) ?_) | (refine owe ?_ (fun ho => ?_)) | (simp (disch := first | assumption | omega | (simp; done) | (simp; omega)) [hs, g1, emptyH, -getElem?_pos, List.getElem?_cons_zero, List.getElem?_cons_succ]))
      all_goals try (exfalso; omega)
      refine wp_loopE cfg rfl (fun f0 h0 m fr h => ∃ i : Nat, ∃ AX : List Blk, fr 0 = f0 0 ∧ fr 15 = f0 15 ∧ fr 16 = f0 16 ∧ fr 17 = .int .i64 i ∧ h.bs = h0.bs ++ AX ∧ (i + m = l.length) ∧ (∀ j, j < i → rightR (nth l j) = true)) (l.length) _ _ ⟨0, [], rfl, rfl, rfl, by first | rfl | (simp; done) | (simp [R]; done) | simp [R], by simp, by first | rfl | (simp; done) | omega, fun j hj => by omega⟩ ?_
      rintro Am Af Ah ⟨i, AX, A0, A15, A16, A17, Abs, hm, ht⟩ Aih
      try simp at A0 A15 A16 Abs
      by_cases hi : i < l.length
      · have hsi := smL_nth hs hi
        have hsi1 := hsi.1
        have hr : rightR (nth l i) = (decide ((nth l i).length ≤ 12) && (nth l i).all rightC) := rfl
        by_cases g2 : (nth l i).length ≤ 12
        · repeat' (first | (refine wpc_split _ (fun hc => ?_) (fun hc => ?_) <;> (try simp at hc)) | (refine ww_split _ (fun hc => ?_) (fun hc => ?_) <;> (try simp at hc)) | (refine wp_drawF (by kernel_rfl) ?_) | (refine wk_yldW _ ?_) | (refine layOwe _ (by kernel_rfl) ?_) | (refine owe ?_ (fun ho => ?_)) | (simp (disch := first | assumption | omega | (simp; done) | (simp; omega)) [A0, A15, A16, A17, Abs, eR, -getElem?_pos, List.getElem?_cons_zero, List.getElem?_cons_succ]))
          all_goals try (exfalso; omega)
          refine wp_loopE cfg rfl (fun f0 h0 m fr h => ∃ k : Nat, ∃ BX : List Blk, fr 0 = f0 0 ∧ fr 15 = f0 15 ∧ fr 16 = f0 16 ∧ fr 17 = f0 17 ∧ fr 24 = f0 24 ∧ fr 25 = f0 25 ∧ fr 26 = .int .i64 k ∧ h.bs = h0.bs ++ BX ∧ (k + m = (nth l i).length) ∧ (∀ j, j < k → rightC (nth (nth l i) j) = true)) ((nth l i).length) _ _ ⟨0, [], rfl, rfl, rfl, rfl, rfl, rfl, by first | rfl | (simp; done) | (simp [R]; done) | simp [R], by simp, by first | rfl | (simp; done) | omega, fun j hj => by omega⟩ ?_
          rintro Bm Bf Bh ⟨k, BX, B0, B15, B16, B17, B24, B25, B26, Bbs, hm2, ht2⟩ Bih
          try simp [A0, A15, A16, A17, Abs] at B0 B15 B16 B17 B24 B25 Bbs
          by_cases hk : k < (nth l i).length
          · have hck := smS_nth hsi hk
            cases hw : rightC (nth (nth l i) k) with
            | false =>
              have hw2 : rightR (nth l i) = false := by rw [hr, allB_f hk hw]; simp
              rw [allB_f hi hw2] at hF
              subst hF
              have hw3 : rightC ⟨(nth (nth l i) k).text, (nth (nth l i) k).alts⟩ = false := hw
              repeat' (first | (refine wpc_split _ (fun hc => ?_) (fun hc => ?_) <;> (try simp at hc)) | (refine ww_split _ (fun hc => ?_) (fun hc => ?_) <;> (try simp at hc)) | (refine wp_drawF (by kernel_rfl) ?_) | (refine wk_yldW _ ?_) | (refine layOwe _ (by kernel_rfl) ?_) | (refine owe ?_ (fun ho => ?_)) | (simp (disch := first | assumption | omega | (simp; done) | (simp; omega)) [B0, B15, B16, B17, B24, B25, B26, Bbs, A0, A15, A16, A17, Abs, eR, hw3, hck, -getElem?_pos, List.getElem?_cons_zero, List.getElem?_cons_succ]))
              all_goals first | rfl | (exfalso; omega)
            | true =>
              have hw3 : rightC ⟨(nth (nth l i) k).text, (nth (nth l i) k).alts⟩ = true := hw
              repeat' (first | (refine wpc_split _ (fun hc => ?_) (fun hc => ?_) <;> (try simp at hc)) | (refine ww_split _ (fun hc => ?_) (fun hc => ?_) <;> (try simp at hc)) | (refine wp_drawF (by kernel_rfl) ?_) | (refine wk_yldW _ ?_) | (refine layOwe _ (by kernel_rfl) ?_) | (refine owe ?_ (fun ho => ?_)) | (simp (disch := first | assumption | omega | (simp; done) | (simp; omega)) [B0, B15, B16, B17, B24, B25, B26, Bbs, A0, A15, A16, A17, Abs, eR, hw3, hck, -getElem?_pos, List.getElem?_cons_zero, List.getElem?_cons_succ]))
              exact Bih (Bm - 1) _ _ (by omega) ⟨k + 1, BX ++ [.cells (eC (nth (nth l i) k))], by simp [B0, B15, B16, B17, B24, B25, B26, Bbs, A0, A15, A16, A17, Abs], by simp [B0, B15, B16, B17, B24, B25, B26, Bbs, A0, A15, A16, A17, Abs], by simp [B0, B15, B16, B17, B24, B25, B26, Bbs, A0, A15, A16, A17, Abs], by simp [B0, B15, B16, B17, B24, B25, B26, Bbs, A0, A15, A16, A17, Abs], by simp [B0, B15, B16, B17, B24, B25, B26, Bbs, A0, A15, A16, A17, Abs], by simp [B0, B15, B16, B17, B24, B25, B26, Bbs, A0, A15, A16, A17, Abs], by simp [B0, B15, B16, B17, B24, B25, B26, Bbs, A0, A15, A16, A17, Abs], by simp [B0, B15, B16, B17, B24, B25, B26, Bbs, A0, A15, A16, A17, Abs], by omega, fun j hj => by (by_cases e : j = k; (subst e; exact hw); exact ht2 j (by omega))⟩
          · have hw2 : rightR (nth l i) = true := by rw [hr, allB_t (fun j hj => ht2 j (by omega)), decide_eq_true g2]; rfl
            repeat' (first | (refine wpc_split _ (fun hc => ?_) (fun hc => ?_) <;> (try simp at hc)) | (refine ww_split _ (fun hc => ?_) (fun hc => ?_) <;> (try simp at hc)) | (refine wp_drawF (by kernel_rfl) ?_) | (refine wk_yldW _ ?_) | (refine layOwe _ (by kernel_rfl) ?_) | (refine owe ?_ (fun ho => ?_)) | (simp (disch := first | assumption | omega | (simp; done) | (simp; omega)) [B0, B15, B16, B17, B24, B25, B26, Bbs, A0, A15, A16, A17, Abs, eR, -getElem?_pos, List.getElem?_cons_zero, List.getElem?_cons_succ]))
            exact Aih (Am - 1) _ _ (by omega) ⟨i + 1, AX ++ BX, by simp [B0, B15, B16, B17, B24, B25, B26, Bbs, A0, A15, A16, A17, Abs], by simp [B0, B15, B16, B17, B24, B25, B26, Bbs, A0, A15, A16, A17, Abs], by simp [B0, B15, B16, B17, B24, B25, B26, Bbs, A0, A15, A16, A17, Abs], by simp [B0, B15, B16, B17, B24, B25, B26, Bbs, A0, A15, A16, A17, Abs], by simp [B0, B15, B16, B17, B24, B25, B26, Bbs, A0, A15, A16, A17, Abs], by omega, fun j hj => by (by_cases e : j = i; (subst e; exact hw2); exact ht j (by omega))⟩
        · have hw2 : rightR (nth l i) = false := by rw [hr, decide_eq_false g2]; simp
          rw [allB_f hi hw2] at hF
          subst hF
          repeat' (first | (refine wpc_split _ (fun hc => ?_) (fun hc => ?_) <;> (try simp at hc)) | (refine ww_split _ (fun hc => ?_) (fun hc => ?_) <;> (try simp at hc)) | (refine wp_drawF (by kernel_rfl) ?_) | (refine wk_yldW _ ?_) | (refine layOwe _ (by kernel_rfl) ?_) | (refine owe ?_ (fun ho => ?_)) | (simp (disch := first | assumption | omega | (simp; done) | (simp; omega)) [A0, A15, A16, A17, Abs, eR, -getElem?_pos, List.getElem?_cons_zero, List.getElem?_cons_succ]))
          all_goals first | rfl | (exfalso; omega)
      · rw [allB_t (fun j hj => ht j (by omega))] at hF
        subst hF
        repeat' (first | (refine wpc_split _ (fun hc => ?_) (fun hc => ?_) <;> (try simp at hc)) | (refine ww_split _ (fun hc => ?_) (fun hc => ?_) <;> (try simp at hc)) | (refine wp_drawF (by kernel_rfl) ?_) | (refine wk_yldW _ ?_) | (refine layOwe _ (by kernel_rfl) ?_) | (refine owe ?_ (fun ho => ?_)) | (simp (disch := first | assumption | omega | (simp; done) | (simp; omega)) [A0, A15, A16, A17, Abs, -getElem?_pos, List.getElem?_cons_zero, List.getElem?_cons_succ]))
        all_goals first | rfl | (exfalso; omega)
  · rw [hd, decide_eq_false g0]
    refine outS_of_wp cfg (fn := Tryd.f18) Tryd.func18 rfl (by simp [Tryd.f18]) ?_
    simp (disch := first | assumption | omega | (simp; done) | (simp; omega)) [-getElem?_pos, List.getElem?_cons_zero, List.getElem?_cons_succ, Tryd.f18, hs]
    repeat' (first | (refine wpc_split _ (fun hc => ?_) (fun hc => ?_) <;> (try simp at hc)) | (refine ww_split _ (fun hc => ?_) (fun hc => ?_) <;> (try simp at hc)) | (refine wp_drawF (by kernel_rfl) ?_) | (refine wk_yldW _ ?_) | (refine layOwe _ (by kernel_rfl) ?_) | (refine owe ?_ (fun ho => ?_)) | (simp (disch := first | assumption | omega | (simp; done) | (simp; omega)) [hs, -getElem?_pos, List.getElem?_cons_zero, List.getElem?_cons_succ]))
    all_goals first | rfl | (exfalso; omega)
@[simp] theorem S18 (l : List (List Cell)) (hs : smL l) (q1 : Fl) (hh : Heap) : Ci cfg (.func (.func 18) [] []) [R  q1 (eR eC) l] hh = some (.ret (.bool (rightL l)), hh) :=
  Ci_K cfg rfl rfl (by simp) (by simp) (C18 l hs)
def wideP (n : Nat) (x : List Cell) : Bool := decide (x.length = n)
def fdS (l : List (List Cell)) : List (List Cell) × Bool := if (fuS l).2 = 0 ∧ (fuS l).1.length ≤ 60 ∧ (fuS l).1.all (wideP l.length) = true then ((fuS l).1, true) else ([], false)
theorem fdS_t {l : List (List Cell)} (h : (fuS l).2 = 0 ∧ (fuS l).1.length ≤ 60 ∧ (fuS l).1.all (wideP l.length) = true) : fdS l = ((fuS l).1, true) := if_pos h
theorem fdS_f {l : List (List Cell)} (h : ¬ ((fuS l).2 = 0 ∧ (fuS l).1.length ≤ 60 ∧ (fuS l).1.all (wideP l.length) = true)) : fdS l = ([], false) := if_neg h
theorem C19 (l : List (List Cell)) (hs : smL l) (hf : smL (fuS l).1) : Kc cfg 19 [R fl0 (eR eC) l] (.ret (.tuple [R fl0 (eR eC) (fdS l).1, .bool (fdS l).2])) := by
  have hs1 := hs.1
  have hf1 := hf.1
  have ht0 := fdS_t (l := l)
  have hf0 := fdS_f (l := l)
  generalize hG : fdS l = G at *
  generalize hF : fuS l = F at *
  by_cases g0 : F.2 = 0
  · by_cases g1 : F.1.length ≤ 60
    · skip
      refine outS_of_wp cfg (fn := Tryd.f19) Tryd.func19 rfl (by simp [Tryd.f19]) ?_
      simp (disch := first | assumption | omega | (simp; done) | (simp; omega)) [-getElem?_pos, List.getElem?_cons_zero, List.getElem?_cons_succ, Tryd.f19, hs, hF, g0, emptyH]
      repeat' (first | (refine wpc_split _ (fun hc => ?_) (fun hc => ?_) <;> (try simp at hc)) | (refine ww_split _ (fun hc => ?_) (fun hc => ?_) <;> (try simp at hc)) | (refine wp_drawF (by kernel_rfl) ?_) | (refine wk_yldW _ ?_) | (refine layOwe _ (by kernel_rfl) ?_) | (refine owe ?_ (fun ho => ?_)) | (simp (disch := first | assumption | omega | (simp; done) | (simp; omega)) [hs, hF, g0, emptyH, -getElem?_pos, List.getElem?_cons_zero, List.getElem?_cons_succ]))
      all_goals try (exfalso; omega)
      refine wp_loopE cfg rfl (fun f0 h0 m fr h => ∃ i : Nat, fr 0 = f0 0 ∧ fr 2 = f0 2 ∧ fr 19 = f0 19 ∧ fr 20 = f0 20 ∧ fr 21 = .int .i64 i ∧ h.bs = h0.bs ∧ (i + m = F.1.length) ∧ (∀ j, j < i → wideP l.length (nth F.1 j) = true)) (F.1.length) _ _ ⟨0, rfl, rfl, rfl, rfl, by first | rfl | (simp; done) | (simp [R]; done) | simp [R], rfl, by first | rfl | (simp; done) | omega, fun j hj => by omega⟩ ?_
      rintro Am Af Ah ⟨i, A0, A2, A19, A20, A21, Abs, hm, ht⟩ Aih
      try simp at A0 A2 A19 A20 Abs
      by_cases hi : i < F.1.length
      · have hsi := smL_nth hf hi
        have hsi1 := hsi.1
        by_cases g2 : (nth F.1 i).length = l.length
        · have hw : wideP l.length (nth F.1 i) = true := decide_eq_true g2
          repeat' (first | (refine wpc_split _ (fun hc => ?_) (fun hc => ?_) <;> (try simp at hc)) | (refine ww_split _ (fun hc => ?_) (fun hc => ?_) <;> (try simp at hc)) | (refine wp_drawF (by kernel_rfl) ?_) | (refine wk_yldW _ ?_) | (refine layOwe _ (by kernel_rfl) ?_) | (refine owe ?_ (fun ho => ?_)) | (simp (disch := first | assumption | omega | (simp; done) | (simp; omega)) [A0, A2, A19, A20, A21, Abs, eR, g2, -getElem?_pos, List.getElem?_cons_zero, List.getElem?_cons_succ]))
          all_goals try (exfalso; omega)
          exact Aih (Am - 1) _ _ (by omega) ⟨i + 1, by simp [A0, A2, A19, A20, A21, Abs], by simp [A0, A2, A19, A20, A21, Abs], by simp [A0, A2, A19, A20, A21, Abs], by simp [A0, A2, A19, A20, A21, Abs], by simp [A0, A2, A19, A20, A21, Abs], by simp [A0, A2, A19, A20, A21, Abs], by omega, fun j hj => by (by_cases e : j = i; (subst e; exact hw); exact ht j (by omega))⟩
        · have hw : wideP l.length (nth F.1 i) = false := decide_eq_false g2
          have hG2 := hf0 (fun e => by rw [allB_f hi hw] at e; cases e.2.2)
          subst hG2
          repeat' (first | (refine wpc_split _ (fun hc => ?_) (fun hc => ?_) <;> (try simp at hc)) | (refine ww_split _ (fun hc => ?_) (fun hc => ?_) <;> (try simp at hc)) | (refine wp_drawF (by kernel_rfl) ?_) | (refine wk_yldW _ ?_) | (refine layOwe _ (by kernel_rfl) ?_) | (refine owe ?_ (fun ho => ?_)) | (simp (disch := first | assumption | omega | (simp; done) | (simp; omega)) [A0, A2, A19, A20, A21, Abs, eR, g2, -getElem?_pos, List.getElem?_cons_zero, List.getElem?_cons_succ]))
          all_goals first | rfl | exact ⟨rfl, rfl⟩ | (exfalso; omega)
      · have hG2 := ht0 ⟨g0, g1, allB_t (fun j hj => ht j (by omega))⟩
        subst hG2
        repeat' (first | (refine wpc_split _ (fun hc => ?_) (fun hc => ?_) <;> (try simp at hc)) | (refine ww_split _ (fun hc => ?_) (fun hc => ?_) <;> (try simp at hc)) | (refine wp_drawF (by kernel_rfl) ?_) | (refine wk_yldW _ ?_) | (refine layOwe _ (by kernel_rfl) ?_) | (refine owe ?_ (fun ho => ?_)) | (simp (disch := first | assumption | omega | (simp; done) | (simp; omega)) [A0, A2, A19, A20, A21, Abs, -getElem?_pos, List.getElem?_cons_zero, List.getElem?_cons_succ]))
        all_goals first | rfl | exact ⟨rfl, rfl⟩ | (exfalso; omega)
    · have hG2 := hf0 (fun e => g1 e.2.1)
      subst hG2
      refine outS_of_wp cfg (fn := Tryd.f19) Tryd.func19 rfl (by simp [Tryd.f19]) ?_
      simp (disch := first | assumption | omega | (simp; done) | (simp; omega)) [-getElem?_pos, List.getElem?_cons_zero, List.getElem?_cons_succ, Tryd.f19, hs, hF, g0, emptyH]
      repeat' (first | (refine wpc_split _ (fun hc => ?_) (fun hc => ?_) <;> (try simp at hc)) | (refine ww_split _ (fun hc => ?_) (fun hc => ?_) <;> (try simp at hc)) | (refine wp_drawF (by kernel_rfl) ?_) | (refine wk_yldW _ ?_) | (refine layOwe _ (by kernel_rfl) ?_) | (refine owe ?_ (fun ho => ?_)) | (simp (disch := first | assumption | omega | (simp; done) | (simp; omega)) [hs, hF, g0, emptyH, -getElem?_pos, List.getElem?_cons_zero, List.getElem?_cons_succ]))
      all_goals first | rfl | exact ⟨rfl, rfl⟩ | (exfalso; omega)
  · have hG2 := hf0 (fun e => g0 e.1)
    subst hG2
    refine outS_of_wp cfg (fn := Tryd.f19) Tryd.func19 rfl (by simp [Tryd.f19]) ?_
    simp (disch := first | assumption | omega | (simp; done) | (simp; omega)) [-getElem?_pos, List.getElem?_cons_zero, List.getElem?_cons_succ, Tryd.f19, hs, hF, g0, emptyH]
    repeat' (first | (refine wpc_split _ (fun hc => ?_) (fun hc => ?_) <;> (try simp at hc)) | (refine ww_split _ (fun hc => ?_) (fun hc => ?_) <;> (try simp at hc)) | (refine wp_drawF (by kernel_rfl) ?_) | (refine wk_yldW _ ?_) | (refine layOwe _ (by kernel_rfl) ?_) | (refine owe ?_ (fun ho => ?_)) | (simp (disch := first | assumption | omega | (simp; done) | (simp; omega)) [hs, hF, g0, emptyH, -getElem?_pos, List.getElem?_cons_zero, List.getElem?_cons_succ]))
    all_goals first | rfl | exact ⟨rfl, rfl⟩ | (exfalso; omega)
@[simp] theorem S19 (l : List (List Cell)) (hs : smL l) (hf : smL (fuS l).1) (q1 : Fl) (hh : Heap) : Ci cfg (.func (.func 19) [] []) [R  q1 (eR eC) l] hh = some (.ret (.tuple [R fl0 (eR eC) (fdS l).1, .bool (fdS l).2]), hh) :=
  Ci_K cfg rfl rfl (by simp) (by simp) (C19 l hs hf)
def sayL (l : List Wd) : List Cell := l.map fun t => ⟨t, []⟩
theorem sayL_take {l : List Wd} {i : Nat} (h : i < l.length) : sayL (l.take (i + 1)) = sayL (l.take i) ++ [⟨nth l i, []⟩] := by
  unfold sayL; rw [nth_take h, List.map_append]; rfl
theorem C25 (l : List (List UInt8)) (hl : l.length ≤ 4294967290) : Kc cfg 25 [R fl0 eS l] (.ret (R fl0 eC (sayL l))) := by
  refine outS_of_wp cfg (fn := Tryd.f25) Tryd.func25 rfl (by simp [Tryd.f25]) ?_
  simp (disch := first | assumption | omega | (simp; done) | (simp; omega)) [-getElem?_pos, List.getElem?_cons_zero, List.getElem?_cons_succ, Tryd.f25, ]
  repeat' (first | (refine wpc_split _ (fun hc => ?_) (fun hc => ?_) <;> (try simp at hc)) | (refine ww_split _ (fun hc => ?_) (fun hc => ?_) <;> (try simp at hc)) | (refine wp_drawF (by kernel_rfl) ?_) | (refine wk_yldW _ ?_) | (refine layOwe _ (by kernel_rfl) ?_) | (refine owe ?_ (fun ho => ?_)) | (simp (disch := first | assumption | omega | (simp; done) | (simp; omega)) [-getElem?_pos, List.getElem?_cons_zero, List.getElem?_cons_succ]))
  refine wp_loopE cfg rfl (fun f0 h0 m fr h => ∃ i : Nat, ∃ fl : Fl, fr 5 = f0 5 ∧ fr 6 = f0 6 ∧ fr 2 = R fl eC (sayL (l.take i)) ∧ fr 7 = .int .i64 i ∧ h.bs = h0.bs ∧ (App h.ts 2 fl) ∧ (i + m = l.length)) (l.length) _ _ ⟨0, (true, true, none), rfl, rfl, by simp [R, sayL], by first | rfl | (simp; done) | (simp [R]; done) | simp [R], rfl, App.nil _ _ _, by first | rfl | (simp; done) | omega⟩ ?_
  rintro Am Af Ah ⟨i, fl, A5, A6, A2, A7, Abs, hap, hm⟩ Aih
  try simp at A5 A6 Abs
  by_cases hi : i < l.length
  · have hst := sayL_take hi
    have hll : (sayL (l.take i)).length ≤ i := by unfold sayL; simp; omega
    repeat' (first | (refine wpc_split _ (fun hc => ?_) (fun hc => ?_) <;> (try simp at hc)) | (refine ww_split _ (fun hc => ?_) (fun hc => ?_) <;> (try simp at hc)) | (refine wp_drawF (by kernel_rfl) ?_) | (refine wk_yldW _ ?_) | (refine layOwe _ (by kernel_rfl) ?_) | (refine owe ?_ (fun ho => ?_)) | (simp (disch := first | assumption | omega | (simp; done) | (simp; omega)) [A5, A6, A2, A7, Abs, eS, -getElem?_pos, List.getElem?_cons_zero, List.getElem?_cons_succ]))
    exact Aih (Am - 1) _ _ (by omega) ⟨i + 1, _, by simp [A5, A6, A2, A7, Abs, hst], by simp [A5, A6, A2, A7, Abs, hst], by simp [A5, A6, A2, A7, Abs, hst], by simp [A5, A6, A2, A7, Abs, hst], by simp [A5, A6, A2, A7, Abs, hst], App.new _ _ _, by omega⟩
  · have h1 : l.take i = l := List.take_of_length_le (by omega)
    rw [h1] at A2
    repeat' (first | (refine wpc_split _ (fun hc => ?_) (fun hc => ?_) <;> (try simp at hc)) | (refine ww_split _ (fun hc => ?_) (fun hc => ?_) <;> (try simp at hc)) | (refine wp_drawF (by kernel_rfl) ?_) | (refine wk_yldW _ ?_) | (refine layOwe _ (by kernel_rfl) ?_) | (refine owe ?_ (fun ho => ?_)) | (simp (disch := first | assumption | omega | (simp; done) | (simp; omega)) [A5, A6, A2, A7, Abs, -getElem?_pos, List.getElem?_cons_zero, List.getElem?_cons_succ]))
@[simp] theorem S25 (l : List (List UInt8)) (hl : l.length ≤ 4294967290) (q1 : Fl) (hh : Heap) : Ci cfg (.func (.func 25) [] []) [R  q1 eS l] hh = some (.ret (R fl0 eC (sayL l)), hh) :=
  Ci_K cfg rfl rfl (by simp) (by simp) (C25 l hl)
end Go.Ab
