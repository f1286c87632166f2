/- FuseAgreed: the law. -/
import Derived.Test.YtackmibobdoecaaDoorD22
set_option linter.unusedVariables false
set_option linter.unusedSimpArgs false
set_option linter.unusedSectionVars false
set_option linter.deprecated false
namespace Go.Ab
open Go.Proofs
set_option maxRecDepth 100000
set_option maxHeartbeats 4000000
theorem agree_len (row : List Cell) (n : Nat) : (agreeL row n).length = row.length := by simp [agreeL]
theorem agree_nth {row : List Cell} {n i : Nat} (h : i < row.length) : nth (agreeL row n) i = List.replicate n (nth row i) := by
  unfold agreeL nth
  simp [List.getD_eq_getElem?_getD, h]
theorem agree_mem {row : List Cell} {n : Nat} {y : List Cell} (h : y ∈ agreeL row n) : ∃ c ∈ row, y = List.replicate n c := by
  unfold agreeL at h
  obtain ⟨c, hc, e⟩ := List.mem_map.1 h
  exact ⟨c, hc, e.symm⟩
theorem more_nth {row : List Cell} {n i : Nat} (h : i < row.length) : nth ((agreeL row n).map (· ++ [c0])) i = List.replicate n (nth row i) ++ [c0] := by
  unfold agreeL nth
  simp [List.getD_eq_getElem?_getD, h]
theorem ag_choose {row : List Cell} (hl : row.length ≤ 12) (hr : ∀ c ∈ row, rightC c = true) {n : Nat} (h0 : 0 < n) (h16 : n ≤ 16) : chR (agreeL row n) = ((saidL row, (List.range' 0 row.length).map (fun n : Nat => (n : Int))), 0) := by
  have h1 : (agreeL row n).any (longP 16) = false := by
    cases e : (agreeL row n).any (longP 16) with
    | false => rfl
    | true =>
      obtain ⟨y, hy, e⟩ := List.any_eq_true.1 e
      obtain ⟨c, hc, rfl⟩ := agree_mem hy
      have := longP_t e
      simp at this; omega
  rw [chR_good (by rw [agree_len]; omega) h1 (fun j hj => ?_), chL_agree (fun c hc => ⟨rightC_ne (hr c hc), rightC_alts (hr c hc)⟩) h0]
  rw [agree_len] at hj
  rw [agree_nth hj, agree_nth (i := 0) (by omega)]
  have hc := hr _ (nth_mem hj)
  have hne := rightC_ne hc
  have ht : textS (List.replicate n (nth row j)) ≠ [] := by
    cases n with
    | zero => omega
    | succ n => rw [List.replicate_succ, textS, if_neg hne]; exact hne
  have ho : (List.replicate n (nth row j)).any oddP = false := by
    cases e : (List.replicate n (nth row j)).any oddP with
    | false => rfl
    | true =>
      obtain ⟨y, hy, e⟩ := List.any_eq_true.1 e
      rw [(List.mem_replicate.1 hy).2] at e
      unfold oddP at e
      rw [hc] at e; simp at e
  unfold badS
  rw [ho, decide_eq_false ht]; simp
theorem foldR1 (p q : Bool) (tok : Option Nat) (x : List Cell) : V.row p q [R fl0 eC x] 1 tok = R (p, q, tok) (eR eC) [x] := rfl
theorem foldRn (p q : Bool) (tok : Option Nat) : V.row p q [V.row true true [] 0 none] 1 tok = .row p q [R (true, true, none) eC []] 1 tok := rfl
theorem C7 (row : List Cell) (k : Int) (hs : smS row) (hk : 0 ≤ k ∧ k ≤ 255) : Kc cfg 7 [R fl0 eC row, .int .u8 k] (.ret (.bool true)) := by
  have hs1 := hs.1
  have hsr : smL [row] := ⟨by simp, fun y hy => by rw [List.mem_singleton.1 hy]; exact hs⟩
  cases hr : rightL [row] with
  | false =>
    refine outS_of_wp cfg (fn := Tryd.f7) Tryd.func7 rfl (by simp [Tryd.f7]) ?_
    simp (disch := first | assumption | omega | (simp; done) | (simp; omega)) [-getElem?_pos, List.getElem?_cons_zero, List.getElem?_cons_succ, Tryd.f7, hsr, hr, emptyH, foldR1]
    repeat' (first | (refine wpc_split _ (fun hc => ?_) (fun hc => ?_) <;> (try simp at hc)) | (refine ww_split _ (fun hc => ?_) (fun hc => ?_) <;> (try simp at hc)) | (refine wp_drawF (by kernel_rfl) ?_) | (refine wk_yldW _ ?_) | (refine layOwe _ (by kernel_rfl) ?_) | (refine owe ?_ (fun ho => ?_)) | (simp (disch := first | assumption | omega | (simp; done) | (simp; omega)) [hsr, hr, emptyH, foldR1, -getElem?_pos, List.getElem?_cons_zero, List.getElem?_cons_succ]))
  | true =>
    obtain ⟨_, h12, hrr⟩ := rightL_of hr
    have hl := h12 row (by simp)
    have hrc := hrr row (by simp)
    obtain ⟨n, hn⟩ : ∃ n : Nat, n = k.toNat % 16 := ⟨_, rfl⟩
    have hn16 : n < 16 := by omega
    refine outS_of_wp cfg (fn := Tryd.f7) Tryd.func7 rfl (by simp [Tryd.f7]) ?_
    simp (disch := first | assumption | omega | (simp; done) | (simp; omega)) [-getElem?_pos, List.getElem?_cons_zero, List.getElem?_cons_succ, Tryd.f7, hsr, hr, emptyH, foldR1]
    repeat' (first | (refine wpc_split _ (fun hc => ?_) (fun hc => ?_) <;> (try simp at hc)) | (refine ww_split _ (fun hc => ?_) (fun hc => ?_) <;> (try simp at hc)) | (refine wp_drawF (by kernel_rfl) ?_) | (refine wk_yldW _ ?_) | (refine layOwe _ (by kernel_rfl) ?_) | (refine owe ?_ (fun ho => ?_)) | (simp (disch := first | assumption | omega | (simp; done) | (simp; omega)) [hsr, hr, emptyH, foldR1, -getElem?_pos, List.getElem?_cons_zero, List.getElem?_cons_succ]))
    have hkn : k % 16 = (n : Int) := by omega
    have hrep : ∀ j, ∀ q ∈ List.replicate j row, q.length ≤ 12 ∧ ∀ c ∈ q, rightC c = true := fun j q hq => by rw [(List.mem_replicate.1 hq).2]; exact ⟨hl, hrc⟩
    have hsrep : ∀ j, j ≤ 16 → smL (List.replicate j row) := fun j hj => ⟨by simp; omega, fun y hy => by rw [(List.mem_replicate.1 hy).2]; exact hs⟩
    have hne : ∀ c ∈ row, c.text ≠ [] := fun c hc => rightC_ne (hrc c hc)
    have f1 : fuS (List.replicate (n + 1) row) = (agreeL row (n + 1), 0) := by
      rw [fuS_go (by simp; omega) (fun q hq => (hrep _ q hq).1) (fun q hq => (hrep _ q hq).2), goL_agree hl hne]
    have f2 : fdS (List.replicate (n + 1) row) = (agreeL row (n + 1), true) := fd_of f1 (by rw [agree_len]; omega) (fun y hy => by
      obtain ⟨c, hc, rfl⟩ := agree_mem hy
      simp)
    have sm1 := fuS_sm (hsrep (n + 1) (by omega))
    have sm1' := sm1
    rw [f1] at sm1'
    simp only at sm1'
    have hsn := hsrep (n + 1) (by omega)
    have hch := ag_choose hl hrc (n := n + 1) (by omega) (by omega)
    have hal := agree_len row (n + 1)
    generalize hats : (List.range' 0 row.length).map (fun n : Nat => (n : Int)) = ats at hch
    have hatl : ats.length = row.length := by rw [← hats]; simp
    have hatn : ∀ i, i < row.length → nth ats i = (i : Int) := fun i hi => by rw [← hats]; unfold nth; simp [List.getD_eq_getElem?_getD, hi]
    have hsl : (saidL row).length = row.length := by simp [saidL]
    have hsn2 : ∀ i, i < row.length → nth (saidL row) i = (nth row i).text := fun i hi => by unfold nth saidL; simp [List.getD_eq_getElem?_getD, hi]
    refine wp_loopE cfg rfl (fun f0 h0 m fr h => ∃ j : Nat, ∃ fl : Fl, fr 0 = f0 0 ∧ fr 1 = f0 1 ∧ fr 5 = R fl (eR eC) (List.replicate j row) ∧ fr 25 = .int .i64 (1 + k % 16) ∧ fr 26 = .int .i64 j ∧ h.bs = h0.bs ∧ (App h.ts 1 fl) ∧ (j + m = n + 1)) (n + 1) _ _ ⟨0, (true, true, none), rfl, rfl, by first | rfl | (simp; done) | (simp [R]; done) | simp [R], by first | rfl | (simp; done) | (simp [R]; done) | simp [R], by first | rfl | (simp; done) | (simp [R]; done) | simp [R], rfl, App.nil _ _ _, by first | rfl | (simp; done) | omega⟩ ?_
    rintro Am Af Ah ⟨j, fl, A0, A1, A5, A25, A26, Abs, hap, hm⟩ Aih
    try simp at A0 A1 Abs
    by_cases hj : j < n + 1
    · have hst : List.replicate (j + 1) row = List.replicate j row ++ [row] := List.replicate_succ'
      have hjk : (j : Int) < 1 + k % 16 := by omega
      repeat' (first | (refine wpc_split _ (fun hc => ?_) (fun hc => ?_) <;> (try simp at hc)) | (refine ww_split _ (fun hc => ?_) (fun hc => ?_) <;> (try simp at hc)) | (refine wp_drawF (by kernel_rfl) ?_) | (refine wk_yldW _ ?_) | (refine layOwe _ (by kernel_rfl) ?_) | (refine owe ?_ (fun ho => ?_)) | (simp (disch := first | assumption | omega | (simp; done) | (simp; omega)) [A0, A1, A5, A25, A26, Abs, foldR1, hjk, -getElem?_pos, List.getElem?_cons_zero, List.getElem?_cons_succ]))
      exact Aih (Am - 1) _ _ (by omega) ⟨j + 1, _, by simp [A0, A1, A5, A25, A26, Abs, hst], by simp [A0, A1, A5, A25, A26, Abs, hst], by simp [A0, A1, A5, A25, A26, Abs, hst], by simp [A0, A1, A5, A25, A26, Abs, hst], by simp [A0, A1, A5, A25, A26, Abs, hst], by simp [A0, A1, A5, A25, A26, Abs, hst], App.new _ _ _, by omega⟩
    · have hjn : j = n + 1 := by omega
      subst hjn
      have hjk : ¬ ((n + 1 : Nat) : Int) < 1 + k % 16 := by omega
      have hjk' : ¬ ((n : Int) + 1 < 1 + k % 16) := by omega
      repeat' (first | (refine wpc_split _ (fun hc => ?_) (fun hc => ?_) <;> (try simp at hc)) | (refine ww_split _ (fun hc => ?_) (fun hc => ?_) <;> (try simp at hc)) | (refine wp_drawF (by kernel_rfl) ?_) | (refine wk_yldW _ ?_) | (refine layOwe _ (by kernel_rfl) ?_) | (refine owe ?_ (fun ho => ?_)) | (simp (disch := first | assumption | omega | (simp; done) | (simp; omega)) [A0, A1, A5, A25, A26, Abs, hjk, hjk', hsn, sm1, f2, sm1', hch, hal, hatl, hsl, -getElem?_pos, List.getElem?_cons_zero, List.getElem?_cons_succ]))
      refine wp_loopE cfg rfl (fun f0 h0 m fr h => ∃ i : Nat, ∃ BX : List Blk, fr 0 = f0 0 ∧ fr 5 = f0 5 ∧ fr 6 = f0 6 ∧ fr 8 = f0 8 ∧ fr 9 = f0 9 ∧ fr 69 = f0 69 ∧ fr 70 = f0 70 ∧ fr 71 = .int .i64 i ∧ h.bs = h0.bs ++ BX ∧ (i + m = row.length)) (row.length) _ _ ⟨0, [], rfl, rfl, rfl, rfl, rfl, rfl, rfl, by first | rfl | (simp; done) | (simp [R]; done) | simp [R], by simp, by first | rfl | (simp; done) | omega⟩ ?_
      rintro Bm Bf Bh ⟨i, BX, B0, B5, B6, B8, B9, B69, B70, B71, Bbs, hm2⟩ Bih
      try simp [A0, A1, A5, A25, A26, Abs] at B0 B5 B6 B8 B9 B69 B70 Bbs
      by_cases hi : i < row.length
      · have q1 := hsn2 i hi
        have q2 := hatn i hi
        repeat' (first | (refine wpc_split _ (fun hc => ?_) (fun hc => ?_) <;> (try simp at hc)) | (refine ww_split _ (fun hc => ?_) (fun hc => ?_) <;> (try simp at hc)) | (refine wp_drawF (by kernel_rfl) ?_) | (refine wk_yldW _ ?_) | (refine layOwe _ (by kernel_rfl) ?_) | (refine owe ?_ (fun ho => ?_)) | (simp (disch := first | assumption | omega | (simp; done) | (simp; omega)) [B0, B5, B6, B8, B9, B69, B70, B71, Bbs, A0, A1, A5, A25, A26, Abs, eI, eS, q1, q2, hatl, hsl, -getElem?_pos, List.getElem?_cons_zero, List.getElem?_cons_succ]))
        exact Bih (Bm - 1) _ _ (by omega) ⟨i + 1, BX ++ [.cells (eC (nth row i))], by simp [B0, B5, B6, B8, B9, B69, B70, B71, Bbs, A0, A1, A5, A25, A26, Abs], by simp [B0, B5, B6, B8, B9, B69, B70, B71, Bbs, A0, A1, A5, A25, A26, Abs], by simp [B0, B5, B6, B8, B9, B69, B70, B71, Bbs, A0, A1, A5, A25, A26, Abs], by simp [B0, B5, B6, B8, B9, B69, B70, B71, Bbs, A0, A1, A5, A25, A26, Abs], by simp [B0, B5, B6, B8, B9, B69, B70, B71, Bbs, A0, A1, A5, A25, A26, Abs], by simp [B0, B5, B6, B8, B9, B69, B70, B71, Bbs, A0, A1, A5, A25, A26, Abs], by simp [B0, B5, B6, B8, B9, B69, B70, B71, Bbs, A0, A1, A5, A25, A26, Abs], by simp [B0, B5, B6, B8, B9, B69, B70, B71, Bbs, A0, A1, A5, A25, A26, Abs], by simp [B0, B5, B6, B8, B9, B69, B70, B71, Bbs, A0, A1, A5, A25, A26, Abs], by omega⟩
      · by_cases h15 : n = 15
        · subst h15
          repeat' (first | (refine wpc_split _ (fun hc => ?_) (fun hc => ?_) <;> (try simp at hc)) | (refine ww_split _ (fun hc => ?_) (fun hc => ?_) <;> (try simp at hc)) | (refine wp_drawF (by kernel_rfl) ?_) | (refine wk_yldW _ ?_) | (refine layOwe _ (by kernel_rfl) ?_) | (refine owe ?_ (fun ho => ?_)) | (simp (disch := first | assumption | omega | (simp; done) | (simp; omega)) [B0, B5, B6, B8, B9, B69, B70, B71, Bbs, A0, A1, A5, A25, A26, Abs, -getElem?_pos, List.getElem?_cons_zero, List.getElem?_cons_succ]))
        · have hne16 : ¬ ((n : Int) + 1 = 16) := by omega
          have f3 : fuS (List.replicate (n + 1) row ++ [[]]) = ((agreeL row (n + 1)).map (· ++ [c0]), 0) := by
            rw [fuS_go (by simp; omega) ?_ ?_, goL_quiet hl hne]
            · intro q hq
              rcases List.mem_append.1 hq with hq | hq
              · exact (hrep _ q hq).1
              · rw [List.mem_singleton.1 hq]; simp
            · intro q hq
              rcases List.mem_append.1 hq with hq | hq
              · exact (hrep _ q hq).2
              · rw [List.mem_singleton.1 hq]; intro c hc; cases hc
          have hsm : smL (List.replicate (n + 1) row ++ [[]]) := ⟨by simp; omega, fun y hy => by
            rcases List.mem_append.1 hy with hy | hy
            · exact hsn.2 y hy
            · rw [List.mem_singleton.1 hy]; exact ⟨by simp, by simp⟩⟩
          have hmn : ∀ i, i < row.length → nth ((agreeL row (n + 1)).map (· ++ [c0])) i = List.replicate (n + 1) (nth row i) ++ [c0] := fun i hi => more_nth hi
          have f4 : fdS (List.replicate (n + 1) row ++ [[]]) = ((agreeL row (n + 1)).map (· ++ [c0]), true) := fd_of f3 (by simp; omega) (fun y hy => by
            obtain ⟨x, hx, rfl⟩ := List.mem_map.1 hy
            obtain ⟨c, hc, rfl⟩ := agree_mem hx
            simp)
          have sm3 := fuS_sm hsm
          have sm3' := sm3
          rw [f3] at sm3'
          simp only at sm3'
          have hml : ((agreeL row (n + 1)).map (· ++ [c0])).length = row.length := by simp [hal]
          generalize hM : (agreeL row (n + 1)).map (· ++ [c0]) = M at *
          have hrne : ¬ (List.replicate (n + 1) row = []) := by simp
          have hnil : V.row false true [] 0 none = R (false, true, none) (eR eC) [] := rfl
          have ap1 : ∀ h : Heap, appendV Tryd.prog h false #[22, 22] (R (false, true, none) (eR eC) []) (R fl (eR eC) (List.replicate (n + 1) row)) = some (R (false, false, some h.ts.length) (eR eC) (List.replicate (n + 1) row), bump h none 1) := fun h => append_Rn (E := eR eC) (l := []) (fl := (false, true, none)) (by simp) hrne (App.full _ _ _) (by simp; omega)
          have ap2 : App (bumpT Bh.ts none 1) 1 (false, false, some Bh.ts.length) := App.new _ _ _
          repeat' (first | (refine wpc_split _ (fun hc => ?_) (fun hc => ?_) <;> (try simp at hc)) | (refine ww_split _ (fun hc => ?_) (fun hc => ?_) <;> (try simp at hc)) | (refine wp_drawF (by kernel_rfl) ?_) | (refine wk_yldW _ ?_) | (refine layOwe _ (by kernel_rfl) ?_) | (refine owe ?_ (fun ho => ?_)) | (simp (disch := first | assumption | omega | (simp; done) | (simp; omega)) [B0, B5, B6, B8, B9, B69, B70, B71, Bbs, A0, A1, A5, A25, A26, Abs, hne16, foldRn, hrne, hnil, ap1, ap2, hsm, sm3, f4, hml, -getElem?_pos, List.getElem?_cons_zero, List.getElem?_cons_succ]))
          refine wp_loopE cfg rfl (fun f0 h0 m fr h => ∃ i : Nat, fr 5 = f0 5 ∧ fr 6 = f0 6 ∧ fr 113 = f0 113 ∧ fr 114 = f0 114 ∧ fr 13 = R fl0 (eR eC) M ∧ fr 115 = .int .i64 i ∧ (i + m = row.length)) (row.length) _ _ ⟨0, rfl, rfl, rfl, rfl, by first | rfl | (simp; done) | (simp [R]; done) | simp [R], by first | rfl | (simp; done) | (simp [R]; done) | simp [R], by first | rfl | (simp; done) | omega⟩ ?_
          rintro Cm Cf Ch ⟨i, C5, C6, C113, C114, C13, C115, hm3⟩ Cih
          try simp [B0, B5, B6, B8, B9, B69, B70, B71, Bbs, A0, A1, A5, A25, A26, Abs] at C5 C6 C113 C114
          by_cases hi : i < row.length
          · have q1 := hmn i hi
            have q2 := agree_nth (n := n + 1) hi
            have q3 : (List.replicate (n + 1) (nth row i) ++ [c0]).take (n + 1) = List.replicate (n + 1) (nth row i) := take_snoc (by simp)
            have q4 : nth (List.replicate (n + 1) (nth row i) ++ [c0]) (n + 1) = c0 := nth_snoc_eq (by simp)
            have q5 : smS (List.replicate (n + 1) (nth row i)) := ⟨by simp; omega, fun y hy => by rw [(List.mem_replicate.1 hy).2]; exact smS_nth hs hi⟩
            have q6 : emptyC ⟨[], []⟩ = true := rfl
            repeat' (first | (refine wpc_split _ (fun hc => ?_) (fun hc => ?_) <;> (try simp at hc)) | (refine ww_split _ (fun hc => ?_) (fun hc => ?_) <;> (try simp at hc)) | (refine wp_drawF (by kernel_rfl) ?_) | (refine wk_yldW _ ?_) | (refine layOwe _ (by kernel_rfl) ?_) | (refine owe ?_ (fun ho => ?_)) | (simp (disch := first | assumption | omega | (simp; done) | (simp; omega)) [C5, C6, C113, C114, C13, C115, B0, B5, B6, B8, B9, B69, B70, B71, Bbs, A0, A1, A5, A25, A26, Abs, eR, q1, q2, q3, q4, q5, q6, hal, -getElem?_pos, List.getElem?_cons_zero, List.getElem?_cons_succ]))
            exact Cih (Cm - 1) _ _ (by omega) ⟨i + 1, by simp [C5, C6, C113, C114, C13, C115, B0, B5, B6, B8, B9, B69, B70, B71, Bbs, A0, A1, A5, A25, A26, Abs], by simp [C5, C6, C113, C114, C13, C115, B0, B5, B6, B8, B9, B69, B70, B71, Bbs, A0, A1, A5, A25, A26, Abs], by simp [C5, C6, C113, C114, C13, C115, B0, B5, B6, B8, B9, B69, B70, B71, Bbs, A0, A1, A5, A25, A26, Abs], by simp [C5, C6, C113, C114, C13, C115, B0, B5, B6, B8, B9, B69, B70, B71, Bbs, A0, A1, A5, A25, A26, Abs], by simp [C5, C6, C113, C114, C13, C115, B0, B5, B6, B8, B9, B69, B70, B71, Bbs, A0, A1, A5, A25, A26, Abs], by simp [C5, C6, C113, C114, C13, C115, B0, B5, B6, B8, B9, B69, B70, B71, Bbs, A0, A1, A5, A25, A26, Abs], by omega⟩
          · repeat' (first | (refine wpc_split _ (fun hc => ?_) (fun hc => ?_) <;> (try simp at hc)) | (refine ww_split _ (fun hc => ?_) (fun hc => ?_) <;> (try simp at hc)) | (refine wp_drawF (by kernel_rfl) ?_) | (refine wk_yldW _ ?_) | (refine layOwe _ (by kernel_rfl) ?_) | (refine owe ?_ (fun ho => ?_)) | (simp (disch := first | assumption | omega | (simp; done) | (simp; omega)) [C5, C6, C113, C114, C13, C115, B0, B5, B6, B8, B9, B69, B70, B71, Bbs, A0, A1, A5, A25, A26, Abs, -getElem?_pos, List.getElem?_cons_zero, List.getElem?_cons_succ]))
@[simp] theorem S7 (row : List Cell) (k : Int) (hs : smS row) (hk : 0 ≤ k ∧ k ≤ 255) (q1 : Fl) (hh : Heap) : Ci cfg (.func (.func 7) [] []) [R  q1 eC row, .int .u8 k] hh = some (.ret (.bool true), hh) :=
  Ci_K cfg rfl rfl (by simp) (by simp) (C7 row k hs hk)
end Go.Ab
