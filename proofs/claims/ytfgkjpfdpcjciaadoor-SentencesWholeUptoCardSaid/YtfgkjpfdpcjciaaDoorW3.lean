/- Layer 32 (sentences): streams checked; the arguments' error. -/
import Derived.Test.YtfgkjpfdpcjciaaDoorW2
set_option linter.unusedVariables false
set_option linter.unusedSimpArgs false
set_option linter.unusedSectionVars false
set_option linter.deprecated false
namespace Go.Ab
open Go.Proofs
set_option maxRecDepth 100000
set_option maxHeartbeats 4000000
attribute [local simp] typeAssertV
@[simp] theorem DcaughtS_no (a : Nat) (h : Heap) : Di cfg (.func (.func 39) [] []) [.ptr a 0] h .no = some (h, .no) := by
  refine Di_of_wp cfg (fn := Tryd.f39) Tryd.func39 rfl (by simp [Tryd.f39]) ?_
  simp (disch := first | assumption | omega | (simp; done) | (simp; omega)) [-getElem?_pos, List.getElem?_cons_zero, List.getElem?_cons_succ, Tryd.f39]
@[simp] theorem DcaughtS_int (b : Blk) (e : V) (n : Int) (bs : List Blk) (ts : List (Option Nat)) :
    Di cfg (.func (.func 39) [] []) [.ptr 1 0] ⟨b :: .cells [e] :: bs, ts⟩ (.pan (.iface 26 (.int .i64 n))) = some (⟨b :: .cells [.int .i64 n] :: bs, ts⟩, .got (.iface 26 (.int .i64 n))) := by
  refine Di_of_wp cfg (fn := Tryd.f39) Tryd.func39 rfl (by simp [Tryd.f39]) ?_
  simp (disch := first | assumption | omega | (simp; done) | (simp; omega)) [-getElem?_pos, List.getElem?_cons_zero, List.getElem?_cons_succ, Tryd.f39]
def ckS (w : List Wrd) : Int := if 4096 < w.length then 2 else if okL w = false then 170 else 0
theorem ckS_many {w : List Wrd} (h : 4096 < w.length) : ckS w = 2 := if_pos h
theorem ckS_bad {w : List Wrd} (h : ¬ 4096 < w.length) (h2 : okL w = false) : ckS w = 170 := by unfold ckS; rw [if_neg h, if_pos h2]
theorem ckS_ok {w : List Wrd} (h : ¬ 4096 < w.length) (h2 : okL w = true) : ckS w = 0 := by unfold ckS; rw [if_neg h, if_neg (by rw [h2]; simp)]
def lastF (w : List Wrd) (i : Nat) : Int := if i = 0 then 0 else (nth w (i - 1)).frm
theorem C26 (w : List Wrd) (hs : smXs w) : Kc cfg 26 [.agg [R fl0 eW w, .int .i64 0]] (.ret (.int .i64 (ckS w))) := by
  have hs1 := hs.1
  by_cases h1 : 4096 < w.length
  · rw [ckS_many h1]
    refine outS_of_wp cfg (fn := Tryd.f26) Tryd.func26 rfl (by simp [Tryd.f26]) ?_
    simp (disch := first | assumption | omega | (simp; done) | (simp; omega)) [-getElem?_pos, List.getElem?_cons_zero, List.getElem?_cons_succ, Tryd.f26, emptyH, Tryd.f40, Tryd.f44]
    repeat' (first | (refine wpc_split _ (fun hc => ?_) (fun hc => ?_) <;> (try simp at hc)) | (refine ww_split _ (fun hc => ?_) (fun hc => ?_) <;> (try simp at hc)) | (refine wp_drawF (by kernel_rfl) ?_) | (refine wk_yldW _ ?_) | (refine layOwe _ (by kernel_rfl) ?_) | (refine owe ?_ (fun ho => ?_)) | (simp (disch := first | assumption | omega | (simp; done) | (simp; omega)) [emptyH, Tryd.f40, Tryd.f44, -getElem?_pos, List.getElem?_cons_zero, List.getElem?_cons_succ]))
    all_goals first | rfl | (exfalso; omega)
  · generalize hF : ckS w = F
    refine outS_of_wp cfg (fn := Tryd.f26) Tryd.func26 rfl (by simp [Tryd.f26]) ?_
    simp (disch := first | assumption | omega | (simp; done) | (simp; omega)) [-getElem?_pos, List.getElem?_cons_zero, List.getElem?_cons_succ, Tryd.f26, emptyH, Tryd.f40, Tryd.f44]
    repeat' (first | (refine wpc_split _ (fun hc => ?_) (fun hc => ?_) <;> (try simp at hc)) | (refine ww_split _ (fun hc => ?_) (fun hc => ?_) <;> (try simp at hc)) | (refine wp_drawF (by kernel_rfl) ?_) | (refine wk_yldW _ ?_) | (refine layOwe _ (by kernel_rfl) ?_) | (refine owe ?_ (fun ho => ?_)) | (simp (disch := first | assumption | omega | (simp; done) | (simp; omega)) [emptyH, Tryd.f40, Tryd.f44, -getElem?_pos, List.getElem?_cons_zero, List.getElem?_cons_succ]))
    all_goals try (exfalso; omega)
    refine wp_loopE cfg rfl (fun f0 h0 m fr h => ∃ i : Nat, ∃ AX : List Blk, fr 1 = f0 1 ∧ fr 23 = f0 23 ∧ fr 24 = f0 24 ∧ fr 2 = .int .i64 (lastF w i) ∧ fr 25 = .int .i64 i ∧ h.bs = h0.bs ++ AX ∧ (i + m = w.length) ∧ (∀ j, j < i → okI w j = true)) (w.length) _ _ ⟨0, [], rfl, rfl, rfl, by first | rfl | (simp; done) | (simp [R]; done) | simp [R], by first | rfl | (simp; done) | (simp [R]; done) | simp [R], by simp, by first | rfl | (simp; done) | omega, fun j hj => by omega⟩ ?_
    rintro Am Af Ah ⟨i, AX, A1, A23, A24, A2, A25, Abs, hm, ht⟩ Aih
    try simp at A1 A23 A24 Abs
    by_cases hi : i < w.length
    · have hx := smXs_nth hs hi
      have he : okW ⟨(nth w i).text, (nth w i).frm, (nth w i).til, (nth w i).sp, (nth w i).alts⟩ = okW (nth w i) := rfl
      have hd : okI w i = (okW (nth w i) && decide (lastF w i ≤ (nth w i).frm)) := by
        unfold okI lastF
        cases g : okW (nth w i) with
        | false => rfl
        | true =>
          have h2 := (okH_of (okW_H g)).2.1
          by_cases e : i = 0
          · rw [if_pos e, decide_eq_true e, decide_eq_true h2]; rfl
          · rw [if_neg e, decide_eq_false e]; rfl
      have hl2 : lastF w (i + 1) = (nth w i).frm := by unfold lastF; rw [if_neg (by omega)]; rfl
      cases g1 : okW (nth w i) with
      | false =>
        rw [g1, Bool.false_and] at hd
        rw [ckS_bad h1 (okL_f hi hd)] at hF
        subst hF
        rw [g1] at he
        repeat' (first | (refine wpc_split _ (fun hc => ?_) (fun hc => ?_) <;> (try simp at hc)) | (refine ww_split _ (fun hc => ?_) (fun hc => ?_) <;> (try simp at hc)) | (refine wp_drawF (by kernel_rfl) ?_) | (refine wk_yldW _ ?_) | (refine layOwe _ (by kernel_rfl) ?_) | (refine owe ?_ (fun ho => ?_)) | (simp (disch := first | assumption | omega | (simp; done) | (simp; omega)) [A1, A23, A24, A2, A25, Abs, he, hx, Tryd.f44, -getElem?_pos, List.getElem?_cons_zero, List.getElem?_cons_succ]))
        all_goals first | rfl | (exfalso; omega)
      | true =>
        rw [g1] at he
        by_cases g2 : lastF w i ≤ (nth w i).frm
        · rw [g1, decide_eq_true g2] at hd
          repeat' (first | (refine wpc_split _ (fun hc => ?_) (fun hc => ?_) <;> (try simp at hc)) | (refine ww_split _ (fun hc => ?_) (fun hc => ?_) <;> (try simp at hc)) | (refine wp_drawF (by kernel_rfl) ?_) | (refine wk_yldW _ ?_) | (refine layOwe _ (by kernel_rfl) ?_) | (refine owe ?_ (fun ho => ?_)) | (simp (disch := first | assumption | omega | (simp; done) | (simp; omega)) [A1, A23, A24, A2, A25, Abs, he, hx, g2, Tryd.f44, -getElem?_pos, List.getElem?_cons_zero, List.getElem?_cons_succ]))
          all_goals try (exfalso; omega)
          exact Aih (Am - 1) _ _ (by omega) ⟨i + 1, AX ++ [.cells (eW (nth w i))], by simp [A1, A23, A24, A2, A25, Abs, hl2], by simp [A1, A23, A24, A2, A25, Abs, hl2], by simp [A1, A23, A24, A2, A25, Abs, hl2], by simp [A1, A23, A24, A2, A25, Abs, hl2], by simp [A1, A23, A24, A2, A25, Abs, hl2], by simp [A1, A23, A24, A2, A25, Abs, hl2], by omega, fun j hj => by (by_cases e : j = i; (subst e; exact hd); exact ht j (by omega))⟩
        · rw [g1, decide_eq_false g2] at hd
          rw [ckS_bad h1 (okL_f hi hd)] at hF
          subst hF
          repeat' (first | (refine wpc_split _ (fun hc => ?_) (fun hc => ?_) <;> (try simp at hc)) | (refine ww_split _ (fun hc => ?_) (fun hc => ?_) <;> (try simp at hc)) | (refine wp_drawF (by kernel_rfl) ?_) | (refine wk_yldW _ ?_) | (refine layOwe _ (by kernel_rfl) ?_) | (refine owe ?_ (fun ho => ?_)) | (simp (disch := first | assumption | omega | (simp; done) | (simp; omega)) [A1, A23, A24, A2, A25, Abs, he, hx, g2, Tryd.f44, -getElem?_pos, List.getElem?_cons_zero, List.getElem?_cons_succ]))
          all_goals first | rfl | (exfalso; omega)
    · rw [ckS_ok h1 (okL_t (fun j hj => ht j (by omega)))] at hF
      subst hF
      repeat' (first | (refine wpc_split _ (fun hc => ?_) (fun hc => ?_) <;> (try simp at hc)) | (refine ww_split _ (fun hc => ?_) (fun hc => ?_) <;> (try simp at hc)) | (refine wp_drawF (by kernel_rfl) ?_) | (refine wk_yldW _ ?_) | (refine layOwe _ (by kernel_rfl) ?_) | (refine owe ?_ (fun ho => ?_)) | (simp (disch := first | assumption | omega | (simp; done) | (simp; omega)) [A1, A23, A24, A2, A25, Abs, -getElem?_pos, List.getElem?_cons_zero, List.getElem?_cons_succ]))
      all_goals first | rfl | (exfalso; omega)
@[simp] theorem S26 (w : List Wrd) (hs : smXs w) (q1 : Fl) (hh : Heap) : Ci cfg (.func (.func 26) [] []) [.agg [R  q1 eW w, .int .i64 0]] hh = some (.ret (.int .i64 (ckS w)), hh) :=
  Ci_K cfg rfl rfl (by simp) (by simp) (C26 w hs)
theorem C25 (n a b : Int) : Kc cfg 25 [.int .i64 n, .int .i64 a, .int .i64 b] (.ret (.bool (decide (a ≤ n) && decide (n ≤ b)))) := by
  by_cases h1 : a ≤ n <;> by_cases h2 : n ≤ b <;> simp only [h1, h2]
  all_goals
    refine outS_of_wp cfg (fn := Tryd.f25) Tryd.func25 rfl (by simp [Tryd.f25]) ?_
    simp (disch := first | assumption | omega | (simp; done) | (simp; omega)) [-getElem?_pos, List.getElem?_cons_zero, List.getElem?_cons_succ, Tryd.f25, h1, h2]
    repeat' (first | (refine wpc_split _ (fun hc => ?_) (fun hc => ?_) <;> (try simp at hc)) | (refine ww_split _ (fun hc => ?_) (fun hc => ?_) <;> (try simp at hc)) | (refine wp_drawF (by kernel_rfl) ?_) | (refine wk_yldW _ ?_) | (refine layOwe _ (by kernel_rfl) ?_) | (refine owe ?_ (fun ho => ?_)) | (simp (disch := first | assumption | omega | (simp; done) | (simp; omega)) [h1, h2, -getElem?_pos, List.getElem?_cons_zero, List.getElem?_cons_succ]))
    all_goals first | rfl | (exfalso; omega)
@[simp] theorem S25 (n a b : Int) (hh : Heap) : Ci cfg (.func (.func 25) [] []) [.int .i64 n, .int .i64 a, .int .i64 b] hh = some (.ret (.bool (decide (a ≤ n) && decide (n ≤ b))), hh) :=
  Ci_K cfg rfl rfl (by simp) (by simp) (C25 n a b)
end Go.Ab
