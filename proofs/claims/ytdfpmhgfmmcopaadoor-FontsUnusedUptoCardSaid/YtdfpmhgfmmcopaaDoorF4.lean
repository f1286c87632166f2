/- Layer 11 (fonts): the program's Check. -/
import Derived.Test.YtdfpmhgfmmcopaaDoorF3
set_option linter.unusedVariables false
set_option linter.unusedSimpArgs false
set_option linter.unusedSectionVars false
set_option linter.deprecated false
namespace Go.Ab
open Go.Proofs
set_option maxRecDepth 100000
set_option maxHeartbeats 4000000
def gTo (f : Font) (i : Nat) : Bool := widthN f.other && allTo i (fun i => gOk (nth f.gs i))
def kTo (f : Font) (i : Nat) : Bool := gTo f f.gs.length && allTo i (fun i => kOk (nth f.ks i))
theorem gTo_zero (f : Font) : gTo f 0 = widthN f.other := by unfold gTo; rw [allTo_zero]; simp
theorem kTo_zero (f : Font) : kTo f 0 = gTo f f.gs.length := by unfold kTo; rw [allTo_zero]; simp
theorem gTo_succ (f : Font) (i : Nat) : gTo f (i + 1) = (gTo f i && gOk (nth f.gs i)) := by unfold gTo; rw [allTo_succ, Bool.and_assoc]
theorem kTo_succ (f : Font) (i : Nat) : kTo f (i + 1) = (kTo f i && kOk (nth f.ks i)) := by unfold kTo; rw [allTo_succ, Bool.and_assoc]
theorem check_parts (f : Font) : (kTo f f.ks.length && gUp f.gs && kUp f.ks) = (widthN f.other && gAll f.gs && kAll f.ks) := by
  unfold kTo gTo gAll kAll gUp kUp
  rw [allTo_and, allTo_and]
  cases widthN f.other <;> cases allTo f.gs.length (fun i => gOk (nth f.gs i)) <;> cases allTo f.gs.length (gRise f.gs) <;> cases allTo f.ks.length (fun i => kOk (nth f.ks i)) <;> cases allTo f.ks.length (kRise f.ks) <;> rfl
theorem C13 (f : Font) (hs : f.gs.length < 1099511627776 ∧ f.ks.length < 1099511627776) : Kc cfg 13 [.agg [R fl0 eG f.gs, .int .i64 f.other, R fl0 eK f.ks]] (.ret (.int .i64 (checkS f))) := by
  by_cases hl : 1024 < f.gs.length ∨ 1024 < f.ks.length
  · rw [checkS_long hl]
    refine outS_of_wp cfg (fn := Tryd.f13) Tryd.func13 rfl (by simp [Tryd.f13]) ?_
    simp (disch := first | assumption | omega | (simp; done) | (simp; omega)) [-getElem?_pos, List.getElem?_cons_zero, List.getElem?_cons_succ, Tryd.f13]
    repeat' (first | (refine wpc_split _ (fun hc => ?_) (fun hc => ?_) <;> (try simp at hc)) | (refine ww_split _ (fun hc => ?_) (fun hc => ?_) <;> (try simp at hc)) | (refine wp_drawF (by kernel_rfl) ?_) | (refine wk_yldW _ ?_) | (refine owe ?_ (fun ho => ?_)) | (simp (disch := first | assumption | omega | (simp; done) | (simp; omega)) [-getElem?_pos, List.getElem?_cons_zero, List.getElem?_cons_succ]))
    all_goals omega
  rw [checkS_short hl, ← check_parts]
  have hw : decide (0 ≤ f.other ∧ f.other ≤ 4096) = gTo f 0 := by rw [gTo_zero]; rfl
  refine outS_of_wp cfg (fn := Tryd.f13) Tryd.func13 rfl (by simp [Tryd.f13]) ?_
  simp (disch := first | assumption | omega | (simp; done) | (simp; omega)) [-getElem?_pos, List.getElem?_cons_zero, List.getElem?_cons_succ, Tryd.f13, hw]
  repeat' (first | (refine wpc_split _ (fun hc => ?_) (fun hc => ?_) <;> (try simp at hc)) | (refine ww_split _ (fun hc => ?_) (fun hc => ?_) <;> (try simp at hc)) | (refine wp_drawF (by kernel_rfl) ?_) | (refine wk_yldW _ ?_) | (refine owe ?_ (fun ho => ?_)) | (simp (disch := first | assumption | omega | (simp; done) | (simp; omega)) [hw, -getElem?_pos, List.getElem?_cons_zero, List.getElem?_cons_succ]))
  all_goals first
    | (exfalso; omega)
    | skip
  refine wp_loopE cfg rfl (fun f0 h0 m fr h => ∃ i : Nat, ∃ AX : List Blk, fr 1 = f0 1 ∧ fr 22 = f0 22 ∧ fr 23 = f0 23 ∧ fr 24 = .int .i64 i ∧ fr 3 = .bool (gTo f i) ∧ h.bs = h0.bs ++ AX ∧ (i + m = f.gs.length)) (f.gs.length) _ _ ⟨0, [], rfl, rfl, rfl, by first | rfl | (simp; done) | (simp [R]; done) | simp [R], by first | rfl | (simp; done) | (simp [R]; done) | simp [R], by simp, by first | rfl | (simp; done) | omega⟩ ?_
  rintro Am Af Ah ⟨i, AX, A1, A22, A23, A24, A3, Abs, hm⟩ Aih
  try simp at A1 A22 A23 Abs
  by_cases hi : i < f.gs.length
  · have hsu := gTo_succ f i
    have hok : gOk (nth f.gs i) = decide (0 ≤ (nth f.gs i).lo ∧ (nth f.gs i).lo ≤ (nth f.gs i).hi ∧ (nth f.gs i).hi ≤ 1114111 ∧ 0 ≤ (nth f.gs i).width ∧ (nth f.gs i).width ≤ 4096) := rfl
    cases hb : gTo f i with
    | false =>
      rw [hb] at A3 hsu
      repeat' (first | (refine wpc_split _ (fun hc => ?_) (fun hc => ?_) <;> (try simp at hc)) | (refine ww_split _ (fun hc => ?_) (fun hc => ?_) <;> (try simp at hc)) | (refine wp_drawF (by kernel_rfl) ?_) | (refine wk_yldW _ ?_) | (refine owe ?_ (fun ho => ?_)) | (simp (disch := first | assumption | omega | (simp; done) | (simp; omega)) [A1, A22, A23, A24, A3, Abs, eG, -getElem?_pos, List.getElem?_cons_zero, List.getElem?_cons_succ]))
      exact Aih (Am - 1) _ _ (by omega) ⟨i + 1, AX ++ [.cells (eG (nth f.gs i))], by simp [A1, A22, A23, A24, A3, Abs, eG, hsu], by simp [A1, A22, A23, A24, A3, Abs, eG, hsu], by simp [A1, A22, A23, A24, A3, Abs, eG, hsu], by simp [A1, A22, A23, A24, A3, Abs, eG, hsu], by simp [A1, A22, A23, A24, A3, Abs, eG, hsu], by simp [A1, A22, A23, A24, A3, Abs, eG, hsu], by omega⟩
    | true =>
      rw [hb] at A3 hsu
      repeat' (first | (refine wpc_split _ (fun hc => ?_) (fun hc => ?_) <;> (try simp at hc)) | (refine ww_split _ (fun hc => ?_) (fun hc => ?_) <;> (try simp at hc)) | (refine wp_drawF (by kernel_rfl) ?_) | (refine wk_yldW _ ?_) | (refine owe ?_ (fun ho => ?_)) | (simp (disch := first | assumption | omega | (simp; done) | (simp; omega)) [A1, A22, A23, A24, A3, Abs, eG, -getElem?_pos, List.getElem?_cons_zero, List.getElem?_cons_succ]))
      all_goals first
        | (have e : gTo f (i + 1) = decide (0 ≤ (nth f.gs i).width ∧ (nth f.gs i).width ≤ 4096) := by rw [hsu, hok, Bool.true_and, decide_eq_decide]; omega
           exact Aih (Am - 1) _ _ (by omega) ⟨i + 1, AX ++ [.cells (eG (nth f.gs i))], by simp [A1, A22, A23, A24, A3, Abs, eG, e], by simp [A1, A22, A23, A24, A3, Abs, eG, e], by simp [A1, A22, A23, A24, A3, Abs, eG, e], by simp [A1, A22, A23, A24, A3, Abs, eG, e], by simp [A1, A22, A23, A24, A3, Abs, eG, e], by simp [A1, A22, A23, A24, A3, Abs, eG, e], by omega⟩)
        | (have e : gTo f (i + 1) = false := by rw [hsu, hok, Bool.true_and, decide_eq_false_iff_not]; omega
           exact Aih (Am - 1) _ _ (by omega) ⟨i + 1, AX ++ [.cells (eG (nth f.gs i))], by simp [A1, A22, A23, A24, A3, Abs, eG, e], by simp [A1, A22, A23, A24, A3, Abs, eG, e], by simp [A1, A22, A23, A24, A3, Abs, eG, e], by simp [A1, A22, A23, A24, A3, Abs, eG, e], by simp [A1, A22, A23, A24, A3, Abs, eG, e], by simp [A1, A22, A23, A24, A3, Abs, eG, e], by omega⟩)
  · have hie : i = f.gs.length := by omega
    rw [hie, ← kTo_zero] at A3
    repeat' (first | (refine wpc_split _ (fun hc => ?_) (fun hc => ?_) <;> (try simp at hc)) | (refine ww_split _ (fun hc => ?_) (fun hc => ?_) <;> (try simp at hc)) | (refine wp_drawF (by kernel_rfl) ?_) | (refine wk_yldW _ ?_) | (refine owe ?_ (fun ho => ?_)) | (simp (disch := first | assumption | omega | (simp; done) | (simp; omega)) [A1, A22, A23, A24, A3, Abs, -getElem?_pos, List.getElem?_cons_zero, List.getElem?_cons_succ]))
    refine wp_loopE cfg rfl (fun f0 h0 m fr h => ∃ i : Nat, ∃ BX : List Blk, fr 1 = f0 1 ∧ fr 48 = f0 48 ∧ fr 49 = f0 49 ∧ fr 50 = .int .i64 i ∧ fr 3 = .bool (kTo f i) ∧ h.bs = h0.bs ++ BX ∧ (i + m = f.ks.length)) (f.ks.length) _ _ ⟨0, [], rfl, rfl, rfl, by first | rfl | (simp; done) | (simp [R]; done) | simp [R], by simp [A3], by simp, by first | rfl | (simp; done) | omega⟩ ?_
    rintro Bm Bf Bh ⟨i, BX, B1, B48, B49, B50, B3, Bbs, hm⟩ Bih
    try simp [A1, A22, A23, A24, A3, Abs] at B1 B48 B49 Bbs
    by_cases hi : i < f.ks.length
    · have hsu := kTo_succ f i
      have hok : kOk (nth f.ks i) = decide ((0 ≤ (nth f.ks i).a ∧ (nth f.ks i).a ≤ 1114111) ∧ (0 ≤ (nth f.ks i).b ∧ (nth f.ks i).b ≤ 1114111) ∧ -4096 ≤ (nth f.ks i).by' ∧ (nth f.ks i).by' ≤ 4096) := rfl
      cases hb : kTo f i with
      | false =>
        rw [hb] at B3 hsu
        repeat' (first | (refine wpc_split _ (fun hc => ?_) (fun hc => ?_) <;> (try simp at hc)) | (refine ww_split _ (fun hc => ?_) (fun hc => ?_) <;> (try simp at hc)) | (refine wp_drawF (by kernel_rfl) ?_) | (refine wk_yldW _ ?_) | (refine owe ?_ (fun ho => ?_)) | (simp (disch := first | assumption | omega | (simp; done) | (simp; omega)) [B1, B48, B49, B50, B3, Bbs, eK, -getElem?_pos, List.getElem?_cons_zero, List.getElem?_cons_succ]))
        exact Bih (Bm - 1) _ _ (by omega) ⟨i + 1, BX ++ [.cells (eK (nth f.ks i))], by simp [B1, B48, B49, B50, B3, Bbs, A1, A22, A23, A24, A3, Abs, eK, hsu], by simp [B1, B48, B49, B50, B3, Bbs, A1, A22, A23, A24, A3, Abs, eK, hsu], by simp [B1, B48, B49, B50, B3, Bbs, A1, A22, A23, A24, A3, Abs, eK, hsu], by simp [B1, B48, B49, B50, B3, Bbs, A1, A22, A23, A24, A3, Abs, eK, hsu], by simp [B1, B48, B49, B50, B3, Bbs, A1, A22, A23, A24, A3, Abs, eK, hsu], by simp [B1, B48, B49, B50, B3, Bbs, A1, A22, A23, A24, A3, Abs, eK, hsu], by omega⟩
      | true =>
        rw [hb] at B3 hsu
        repeat' (first | (refine wpc_split _ (fun hc => ?_) (fun hc => ?_) <;> (try simp at hc)) | (refine ww_split _ (fun hc => ?_) (fun hc => ?_) <;> (try simp at hc)) | (refine wp_drawF (by kernel_rfl) ?_) | (refine wk_yldW _ ?_) | (refine owe ?_ (fun ho => ?_)) | (simp (disch := first | assumption | omega | (simp; done) | (simp; omega)) [B1, B48, B49, B50, B3, Bbs, eK, -getElem?_pos, List.getElem?_cons_zero, List.getElem?_cons_succ]))
        all_goals first
          | (have e : kTo f (i + 1) = decide (-4096 ≤ (nth f.ks i).by' ∧ (nth f.ks i).by' ≤ 4096) := by rw [hsu, hok, Bool.true_and, decide_eq_decide]; omega
             exact Bih (Bm - 1) _ _ (by omega) ⟨i + 1, BX ++ [.cells (eK (nth f.ks i))], by simp [B1, B48, B49, B50, B3, Bbs, A1, A22, A23, A24, A3, Abs, eK, e], by simp [B1, B48, B49, B50, B3, Bbs, A1, A22, A23, A24, A3, Abs, eK, e], by simp [B1, B48, B49, B50, B3, Bbs, A1, A22, A23, A24, A3, Abs, eK, e], by simp [B1, B48, B49, B50, B3, Bbs, A1, A22, A23, A24, A3, Abs, eK, e], by simp [B1, B48, B49, B50, B3, Bbs, A1, A22, A23, A24, A3, Abs, eK, e], by simp [B1, B48, B49, B50, B3, Bbs, A1, A22, A23, A24, A3, Abs, eK, e], by omega⟩)
          | (have e : kTo f (i + 1) = false := by rw [hsu, hok, Bool.true_and, decide_eq_false_iff_not]; omega
             exact Bih (Bm - 1) _ _ (by omega) ⟨i + 1, BX ++ [.cells (eK (nth f.ks i))], by simp [B1, B48, B49, B50, B3, Bbs, A1, A22, A23, A24, A3, Abs, eK, e], by simp [B1, B48, B49, B50, B3, Bbs, A1, A22, A23, A24, A3, Abs, eK, e], by simp [B1, B48, B49, B50, B3, Bbs, A1, A22, A23, A24, A3, Abs, eK, e], by simp [B1, B48, B49, B50, B3, Bbs, A1, A22, A23, A24, A3, Abs, eK, e], by simp [B1, B48, B49, B50, B3, Bbs, A1, A22, A23, A24, A3, Abs, eK, e], by simp [B1, B48, B49, B50, B3, Bbs, A1, A22, A23, A24, A3, Abs, eK, e], by omega⟩)
    · have hie2 : i = f.ks.length := by omega
      rw [hie2] at B3
      cases hk : kTo f f.ks.length <;> rw [hk] at B3
      · repeat' (first | (refine wpc_split _ (fun hc => ?_) (fun hc => ?_) <;> (try simp at hc)) | (refine ww_split _ (fun hc => ?_) (fun hc => ?_) <;> (try simp at hc)) | (refine wp_drawF (by kernel_rfl) ?_) | (refine wk_yldW _ ?_) | (refine owe ?_ (fun ho => ?_)) | (simp (disch := first | assumption | omega | (simp; done) | (simp; omega)) [B1, B48, B49, B50, B3, Bbs, -getElem?_pos, List.getElem?_cons_zero, List.getElem?_cons_succ]))
      · cases hg : gUp f.gs with
        | false => repeat' (first | (refine wpc_split _ (fun hc => ?_) (fun hc => ?_) <;> (try simp at hc)) | (refine ww_split _ (fun hc => ?_) (fun hc => ?_) <;> (try simp at hc)) | (refine wp_drawF (by kernel_rfl) ?_) | (refine wk_yldW _ ?_) | (refine owe ?_ (fun ho => ?_)) | (simp (disch := first | assumption | omega | (simp; done) | (simp; omega)) [B1, B48, B49, B50, B3, Bbs, hg, -getElem?_pos, List.getElem?_cons_zero, List.getElem?_cons_succ]))
        | true =>
          cases hku : kUp f.ks with
          | false => repeat' (first | (refine wpc_split _ (fun hc => ?_) (fun hc => ?_) <;> (try simp at hc)) | (refine ww_split _ (fun hc => ?_) (fun hc => ?_) <;> (try simp at hc)) | (refine wp_drawF (by kernel_rfl) ?_) | (refine wk_yldW _ ?_) | (refine owe ?_ (fun ho => ?_)) | (simp (disch := first | assumption | omega | (simp; done) | (simp; omega)) [B1, B48, B49, B50, B3, Bbs, hg, hku, -getElem?_pos, List.getElem?_cons_zero, List.getElem?_cons_succ]))
          | true => repeat' (first | (refine wpc_split _ (fun hc => ?_) (fun hc => ?_) <;> (try simp at hc)) | (refine ww_split _ (fun hc => ?_) (fun hc => ?_) <;> (try simp at hc)) | (refine wp_drawF (by kernel_rfl) ?_) | (refine wk_yldW _ ?_) | (refine owe ?_ (fun ho => ?_)) | (simp (disch := first | assumption | omega | (simp; done) | (simp; omega)) [B1, B48, B49, B50, B3, Bbs, hg, hku, -getElem?_pos, List.getElem?_cons_zero, List.getElem?_cons_succ]))
@[simp] theorem S13 (f : Font) (hs : f.gs.length < 1099511627776 ∧ f.ks.length < 1099511627776) (q1 q2 : Fl) (hh : Heap) : Ci cfg (.func (.func 13) [] []) [.agg [R  q1 eG f.gs, .int .i64 f.other, R  q2 eK f.ks]] hh = some (.ret (.int .i64 (checkS f)), hh) :=
  Ci_K cfg rfl rfl (by simp) (by simp) (C13 f hs)
end Go.Ab
