/- TextWord: the law. -/
import Derived.Test.YtgeohlknkajlkaaDoorS09
import Derived.Test.YtgeohlknkajlkaaDoorP09
import Derived.Test.YtgeohlknkajlkaaDoorT10
set_option linter.unusedVariables false
set_option linter.unusedSimpArgs false
set_option linter.unusedSectionVars false
set_option linter.deprecated false
namespace Go.Ab
open Go.Proofs
set_option maxRecDepth 100000
set_option maxHeartbeats 4000000
theorem kindG_pt {r : Int} (h : point r = true) : (kindG r).2 = 0 ∧ 0 ≤ (kindG r).1 ∧ (kindG r).1 ≤ 4 ∧ ((kindG r).1 = 1 ↔ spaceR r = true) := by
  have e : kindG r = (kindR r, 0) := by unfold kindG; rw [if_pos h]
  rw [e]
  grind [kindR, spaceR]
/-- one word alone: no space, not empty -/
theorem split_alone {s : List UInt8} {l : List Int} (h : runes s = some l) : ((splitW [] l).map encAll = [s] ↔ l ≠ [] ∧ ∀ x ∈ l, spaceR x = false) := by
  obtain ⟨h1, h2⟩ := runes_enc' h
  constructor
  · intro e
    cases hsp : splitW [] l with
    | nil => rw [hsp] at e; simp at e
    | cons p r =>
      cases r with
      | cons q r => rw [hsp] at e; simp at e
      | nil =>
        rw [hsp] at e
        simp only [List.map_cons, List.map_nil, List.cons.injEq, and_true] at e
        have hpm : p ∈ splitW [] l := by rw [hsp]; simp
        have hp := splitW_point l [] p (by simp) h2 hpm
        have : p = l := encAll_inj hp h2 (by rw [e, h1])
        subst this
        exact ⟨splitW_nonempty _ _ _ hpm, splitW_nospace _ _ _ (by simp) hpm⟩
  · rintro ⟨a, b⟩
    rw [splitW_one a b]; simp [h1]
def okTo (l : List Int) (i : Nat) : Bool := decide (0 < l.length) && (l.take i).all fun r => !spaceR r
theorem okTo_succ {l : List Int} {i : Nat} (h : i < l.length) : okTo l (i + 1) = (okTo l i && !spaceR (nth l i)) := by
  unfold okTo
  rw [nth_take h, List.all_append]
  simp [Bool.and_assoc]
theorem okTo_all (l : List Int) : okTo l l.length = (decide (0 < l.length) && l.all fun r => !spaceR r) := by unfold okTo; rw [List.take_length]
theorem C9 (s : List UInt8) (hs : s.length < 1099511627776) : Kc cfg 9 [.str s] (.ret (.bool true)) := by
  by_cases h100 : 100 < s.length
  · skip
    refine outS_of_wp cfg (fn := Tryd.f9) Tryd.func9 rfl (by simp [Tryd.f9]) ?_
    simp (disch := first | assumption | omega | (simp; done) | (simp; omega)) [-getElem?_pos, List.getElem?_cons_zero, List.getElem?_cons_succ, Tryd.f9]
    repeat' (first | (refine wpc_split _ (fun hc => ?_) (fun hc => ?_) <;> (try simp at hc)) | (refine ww_split _ (fun hc => ?_) (fun hc => ?_) <;> (try simp at hc)) | (refine wp_draw _ (by kernel_rfl) ?_) | (refine wk_yldW _ ?_) | (refine owe ?_ (fun ho => ?_)) | (simp (disch := first | assumption | omega | (simp; done) | (simp; omega)) [-getElem?_pos, List.getElem?_cons_zero, List.getElem?_cons_succ]))
    all_goals omega
  by_cases h64 : 64 < s.length
  · have hw := wordS_no (s := s) (by omega)
    refine outS_of_wp cfg (fn := Tryd.f9) Tryd.func9 rfl (by simp [Tryd.f9]) ?_
    simp (disch := first | assumption | omega | (simp; done) | (simp; omega)) [-getElem?_pos, List.getElem?_cons_zero, List.getElem?_cons_succ, Tryd.f9, hw]
  by_cases he : (runesG s).2 = 0
  · obtain ⟨hs4, hr⟩ := runesG_all he
    have hsg := splitG_ok he
    have hrl := runes_len _ _ _ (Nat.le_refl _) hr
    obtain ⟨hen, hpt⟩ := runes_enc' hr
    have hal := split_alone hr
    have hwd : wordS s = (decide (0 < s.length) && (runesG s).1.all fun r => !spaceR r) := by
      have h0 : decide (0 < s.length ∧ s.length ≤ 64) = decide (0 < s.length) := by
        by_cases hq : 0 < s.length
        · rw [decide_eq_true hq, decide_eq_true ⟨hq, by omega⟩]
        · rw [decide_eq_false hq, decide_eq_false fun h => hq h.1]
      unfold wordS; rw [hr, h0]
    have hl0 : (runesG s).1 ≠ [] ↔ 0 < s.length := by
      constructor
      · intro h; have := List.length_pos_iff.2 h; omega
      · intro h e; rw [e] at hen; simp at hen; rw [hen] at h; simp at h
    have hwal : wordS s = decide ((splitW [] (runesG s).1).map encAll = [s]) := by
      rw [hwd]
      have : (decide (0 < s.length) && (runesG s).1.all fun r => !spaceR r) = true ↔ (splitW [] (runesG s).1).map encAll = [s] := by
        rw [hal, hl0]; simp
      by_cases hq : (splitW [] (runesG s).1).map encAll = [s]
      · rw [decide_eq_true hq]; exact this.2 hq
      · rw [decide_eq_false hq]
        cases hb : (decide (0 < s.length) && (runesG s).1.all fun r => !spaceR r) with
        | false => rfl
        | true => exact absurd (this.1 hb) hq
    generalize (splitW [] (runesG s).1).map encAll = ws at *
    generalize hlg : (runesG s).1 = l at *
    have hone : ¬ ((ws.length : Int) = 1 ∧ nth ws 0 = s) → wordS s = false := by
      intro h
      rw [hwal]
      simp only [decide_eq_false_iff_not]
      intro e; subst e; simp at h
    have hyes : ((ws.length : Int) = 1 ∧ nth ws 0 = s) → wordS s = true := by
      rintro ⟨h1, h2⟩
      rw [hwal]
      simp only [decide_eq_true_eq]
      match ws, h1, h2 with
      | [x], _, h2 => simp at h2; rw [h2]
    have hwl : wordS s = (decide (0 < l.length) && l.all fun r => !spaceR r) := by
      rw [hwd]
      congr 1
      have : 0 < s.length ↔ 0 < l.length := by rw [← hl0]; exact ⟨fun h => List.length_pos_iff.2 h, fun h => List.length_pos_iff.1 h⟩
      simp [this]
    generalize hw : wordS s = w at *
    by_cases hc1 : (ws.length : Int) = 1
    · by_cases hc2 : nth ws 0 = s
      · have hwt := hyes ⟨hc1, hc2⟩
        subst hwt
        refine outS_of_wp cfg (fn := Tryd.f9) Tryd.func9 rfl (by simp [Tryd.f9]) ?_
        simp (disch := first | assumption | omega | (simp; done) | (simp; omega)) [-getElem?_pos, List.getElem?_cons_zero, List.getElem?_cons_succ, Tryd.f9, he, hsg, hw, hlg, hc1, hc2]
        repeat' (first | (refine wpc_split _ (fun hc => ?_) (fun hc => ?_) <;> (try simp at hc)) | (refine ww_split _ (fun hc => ?_) (fun hc => ?_) <;> (try simp at hc)) | (refine wp_draw _ (by kernel_rfl) ?_) | (refine wk_yldW _ ?_) | (refine owe ?_ (fun ho => ?_)) | (simp (disch := first | assumption | omega | (simp; done) | (simp; omega)) [he, hsg, hw, hlg, hc1, hc2, eS, -getElem?_pos, List.getElem?_cons_zero, List.getElem?_cons_succ]))
        all_goals
          refine wp_loopE cfg rfl (fun f0 h0 m fr h => ∃ i : Nat, fr 3 = f0 3 ∧ fr 63 = f0 63 ∧ fr 64 = f0 64 ∧ fr 65 = .int .i64 i ∧ fr 8 = .bool (okTo l i) ∧ (i + m = l.length)) (l.length) _ _ ⟨0, rfl, rfl, rfl, by first | rfl | (simp; done) | (simp [R]; done) | simp [R], by simp [okTo], by first | rfl | (simp; done) | omega⟩ ?_
          rintro Am Af Ah ⟨i, A3, A63, A64, A65, A8, hm⟩ Aih
          try simp at A3 A63 A64
          by_cases hi : i < l.length
          · have hkp := kindG_pt (r := nth l i) (by rw [List.all_eq_true] at hpt; exact hpt _ (nth_mem hi))
            obtain ⟨k1, k2, k3, k4⟩ := hkp
            have hsc := okTo_succ hi
            by_cases hsp : spaceR (nth l i) = true
            · have k5 := k4.2 hsp
              cases hb : okTo l i <;> rw [hb] at A8 hsc
              · repeat' (first | (refine wpc_split _ (fun hc => ?_) (fun hc => ?_) <;> (try simp at hc)) | (refine ww_split _ (fun hc => ?_) (fun hc => ?_) <;> (try simp at hc)) | (refine wp_draw _ (by kernel_rfl) ?_) | (refine wk_yldW _ ?_) | (refine owe ?_ (fun ho => ?_)) | (simp (disch := first | assumption | omega | (simp; done) | (simp; omega)) [A3, A63, A64, A65, A8, eI, k1, k5, -getElem?_pos, List.getElem?_cons_zero, List.getElem?_cons_succ]))
                exact Aih (Am - 1) _ _ (by omega) ⟨i + 1, by simp [A3, A63, A64, A65, A8, hsc, hsp, k5], by simp [A3, A63, A64, A65, A8, hsc, hsp, k5], by simp [A3, A63, A64, A65, A8, hsc, hsp, k5], by simp [A3, A63, A64, A65, A8, hsc, hsp, k5], by simp [A3, A63, A64, A65, A8, hsc, hsp, k5], by omega⟩
              · repeat' (first | (refine wpc_split _ (fun hc => ?_) (fun hc => ?_) <;> (try simp at hc)) | (refine ww_split _ (fun hc => ?_) (fun hc => ?_) <;> (try simp at hc)) | (refine wp_draw _ (by kernel_rfl) ?_) | (refine wk_yldW _ ?_) | (refine owe ?_ (fun ho => ?_)) | (simp (disch := first | assumption | omega | (simp; done) | (simp; omega)) [A3, A63, A64, A65, A8, eI, k1, k5, -getElem?_pos, List.getElem?_cons_zero, List.getElem?_cons_succ]))
                exact Aih (Am - 1) _ _ (by omega) ⟨i + 1, by simp [A3, A63, A64, A65, A8, hsc, hsp, k5], by simp [A3, A63, A64, A65, A8, hsc, hsp, k5], by simp [A3, A63, A64, A65, A8, hsc, hsp, k5], by simp [A3, A63, A64, A65, A8, hsc, hsp, k5], by simp [A3, A63, A64, A65, A8, hsc, hsp, k5], by omega⟩
            · have k5 : ¬ (kindG (nth l i)).1 = 1 := fun h => hsp (k4.1 h)
              cases hb : okTo l i <;> rw [hb] at A8 hsc
              · repeat' (first | (refine wpc_split _ (fun hc => ?_) (fun hc => ?_) <;> (try simp at hc)) | (refine ww_split _ (fun hc => ?_) (fun hc => ?_) <;> (try simp at hc)) | (refine wp_draw _ (by kernel_rfl) ?_) | (refine wk_yldW _ ?_) | (refine owe ?_ (fun ho => ?_)) | (simp (disch := first | assumption | omega | (simp; done) | (simp; omega)) [A3, A63, A64, A65, A8, eI, k1, -getElem?_pos, List.getElem?_cons_zero, List.getElem?_cons_succ]))
                all_goals first
                  | omega
                  | exact Aih (Am - 1) _ _ (by omega) ⟨i + 1, by simp [A3, A63, A64, A65, A8, hsc, hsp, k5], by simp [A3, A63, A64, A65, A8, hsc, hsp, k5], by simp [A3, A63, A64, A65, A8, hsc, hsp, k5], by simp [A3, A63, A64, A65, A8, hsc, hsp, k5], by simp [A3, A63, A64, A65, A8, hsc, hsp, k5], by omega⟩
              · repeat' (first | (refine wpc_split _ (fun hc => ?_) (fun hc => ?_) <;> (try simp at hc)) | (refine ww_split _ (fun hc => ?_) (fun hc => ?_) <;> (try simp at hc)) | (refine wp_draw _ (by kernel_rfl) ?_) | (refine wk_yldW _ ?_) | (refine owe ?_ (fun ho => ?_)) | (simp (disch := first | assumption | omega | (simp; done) | (simp; omega)) [A3, A63, A64, A65, A8, eI, k1, k5, -getElem?_pos, List.getElem?_cons_zero, List.getElem?_cons_succ]))
                all_goals first
                  | omega
                  | exact Aih (Am - 1) _ _ (by omega) ⟨i + 1, by simp [A3, A63, A64, A65, A8, hsc, hsp, k5], by simp [A3, A63, A64, A65, A8, hsc, hsp, k5], by simp [A3, A63, A64, A65, A8, hsc, hsp, k5], by simp [A3, A63, A64, A65, A8, hsc, hsp, k5], by simp [A3, A63, A64, A65, A8, hsc, hsp, k5], by omega⟩
          · have hi2 : i = l.length := by omega
            subst hi2
            rw [okTo_all, ← hwl] at A8
            repeat' (first | (refine wpc_split _ (fun hc => ?_) (fun hc => ?_) <;> (try simp at hc)) | (refine ww_split _ (fun hc => ?_) (fun hc => ?_) <;> (try simp at hc)) | (refine wp_draw _ (by kernel_rfl) ?_) | (refine wk_yldW _ ?_) | (refine owe ?_ (fun ho => ?_)) | (simp (disch := first | assumption | omega | (simp; done) | (simp; omega)) [A3, A63, A64, A65, A8, -getElem?_pos, List.getElem?_cons_zero, List.getElem?_cons_succ]))
      · have hwt := hone (fun h => hc2 h.2)
        subst hwt
        refine outS_of_wp cfg (fn := Tryd.f9) Tryd.func9 rfl (by simp [Tryd.f9]) ?_
        simp (disch := first | assumption | omega | (simp; done) | (simp; omega)) [-getElem?_pos, List.getElem?_cons_zero, List.getElem?_cons_succ, Tryd.f9, he, hsg, hw, hlg, hc1, hc2]
        repeat' (first | (refine wpc_split _ (fun hc => ?_) (fun hc => ?_) <;> (try simp at hc)) | (refine ww_split _ (fun hc => ?_) (fun hc => ?_) <;> (try simp at hc)) | (refine wp_draw _ (by kernel_rfl) ?_) | (refine wk_yldW _ ?_) | (refine owe ?_ (fun ho => ?_)) | (simp (disch := first | assumption | omega | (simp; done) | (simp; omega)) [he, hsg, hw, hlg, hc1, hc2, eS, -getElem?_pos, List.getElem?_cons_zero, List.getElem?_cons_succ]))
        all_goals
          refine wp_loopE cfg rfl (fun f0 h0 m fr h => ∃ i : Nat, fr 3 = f0 3 ∧ fr 63 = f0 63 ∧ fr 64 = f0 64 ∧ fr 65 = .int .i64 i ∧ fr 8 = .bool (okTo l i) ∧ (i + m = l.length)) (l.length) _ _ ⟨0, rfl, rfl, rfl, by first | rfl | (simp; done) | (simp [R]; done) | simp [R], by simp [okTo], by first | rfl | (simp; done) | omega⟩ ?_
          rintro Am Af Ah ⟨i, A3, A63, A64, A65, A8, hm⟩ Aih
          try simp at A3 A63 A64
          by_cases hi : i < l.length
          · have hkp := kindG_pt (r := nth l i) (by rw [List.all_eq_true] at hpt; exact hpt _ (nth_mem hi))
            obtain ⟨k1, k2, k3, k4⟩ := hkp
            have hsc := okTo_succ hi
            by_cases hsp : spaceR (nth l i) = true
            · have k5 := k4.2 hsp
              cases hb : okTo l i <;> rw [hb] at A8 hsc
              · repeat' (first | (refine wpc_split _ (fun hc => ?_) (fun hc => ?_) <;> (try simp at hc)) | (refine ww_split _ (fun hc => ?_) (fun hc => ?_) <;> (try simp at hc)) | (refine wp_draw _ (by kernel_rfl) ?_) | (refine wk_yldW _ ?_) | (refine owe ?_ (fun ho => ?_)) | (simp (disch := first | assumption | omega | (simp; done) | (simp; omega)) [A3, A63, A64, A65, A8, eI, k1, k5, -getElem?_pos, List.getElem?_cons_zero, List.getElem?_cons_succ]))
                exact Aih (Am - 1) _ _ (by omega) ⟨i + 1, by simp [A3, A63, A64, A65, A8, hsc, hsp, k5], by simp [A3, A63, A64, A65, A8, hsc, hsp, k5], by simp [A3, A63, A64, A65, A8, hsc, hsp, k5], by simp [A3, A63, A64, A65, A8, hsc, hsp, k5], by simp [A3, A63, A64, A65, A8, hsc, hsp, k5], by omega⟩
              · repeat' (first | (refine wpc_split _ (fun hc => ?_) (fun hc => ?_) <;> (try simp at hc)) | (refine ww_split _ (fun hc => ?_) (fun hc => ?_) <;> (try simp at hc)) | (refine wp_draw _ (by kernel_rfl) ?_) | (refine wk_yldW _ ?_) | (refine owe ?_ (fun ho => ?_)) | (simp (disch := first | assumption | omega | (simp; done) | (simp; omega)) [A3, A63, A64, A65, A8, eI, k1, k5, -getElem?_pos, List.getElem?_cons_zero, List.getElem?_cons_succ]))
                exact Aih (Am - 1) _ _ (by omega) ⟨i + 1, by simp [A3, A63, A64, A65, A8, hsc, hsp, k5], by simp [A3, A63, A64, A65, A8, hsc, hsp, k5], by simp [A3, A63, A64, A65, A8, hsc, hsp, k5], by simp [A3, A63, A64, A65, A8, hsc, hsp, k5], by simp [A3, A63, A64, A65, A8, hsc, hsp, k5], by omega⟩
            · have k5 : ¬ (kindG (nth l i)).1 = 1 := fun h => hsp (k4.1 h)
              cases hb : okTo l i <;> rw [hb] at A8 hsc
              · repeat' (first | (refine wpc_split _ (fun hc => ?_) (fun hc => ?_) <;> (try simp at hc)) | (refine ww_split _ (fun hc => ?_) (fun hc => ?_) <;> (try simp at hc)) | (refine wp_draw _ (by kernel_rfl) ?_) | (refine wk_yldW _ ?_) | (refine owe ?_ (fun ho => ?_)) | (simp (disch := first | assumption | omega | (simp; done) | (simp; omega)) [A3, A63, A64, A65, A8, eI, k1, -getElem?_pos, List.getElem?_cons_zero, List.getElem?_cons_succ]))
                all_goals first
                  | omega
                  | exact Aih (Am - 1) _ _ (by omega) ⟨i + 1, by simp [A3, A63, A64, A65, A8, hsc, hsp, k5], by simp [A3, A63, A64, A65, A8, hsc, hsp, k5], by simp [A3, A63, A64, A65, A8, hsc, hsp, k5], by simp [A3, A63, A64, A65, A8, hsc, hsp, k5], by simp [A3, A63, A64, A65, A8, hsc, hsp, k5], by omega⟩
              · repeat' (first | (refine wpc_split _ (fun hc => ?_) (fun hc => ?_) <;> (try simp at hc)) | (refine ww_split _ (fun hc => ?_) (fun hc => ?_) <;> (try simp at hc)) | (refine wp_draw _ (by kernel_rfl) ?_) | (refine wk_yldW _ ?_) | (refine owe ?_ (fun ho => ?_)) | (simp (disch := first | assumption | omega | (simp; done) | (simp; omega)) [A3, A63, A64, A65, A8, eI, k1, k5, -getElem?_pos, List.getElem?_cons_zero, List.getElem?_cons_succ]))
                all_goals first
                  | omega
                  | exact Aih (Am - 1) _ _ (by omega) ⟨i + 1, by simp [A3, A63, A64, A65, A8, hsc, hsp, k5], by simp [A3, A63, A64, A65, A8, hsc, hsp, k5], by simp [A3, A63, A64, A65, A8, hsc, hsp, k5], by simp [A3, A63, A64, A65, A8, hsc, hsp, k5], by simp [A3, A63, A64, A65, A8, hsc, hsp, k5], by omega⟩
          · have hi2 : i = l.length := by omega
            subst hi2
            rw [okTo_all, ← hwl] at A8
            repeat' (first | (refine wpc_split _ (fun hc => ?_) (fun hc => ?_) <;> (try simp at hc)) | (refine ww_split _ (fun hc => ?_) (fun hc => ?_) <;> (try simp at hc)) | (refine wp_draw _ (by kernel_rfl) ?_) | (refine wk_yldW _ ?_) | (refine owe ?_ (fun ho => ?_)) | (simp (disch := first | assumption | omega | (simp; done) | (simp; omega)) [A3, A63, A64, A65, A8, -getElem?_pos, List.getElem?_cons_zero, List.getElem?_cons_succ]))
    · have hwt := hone (fun h => hc1 h.1)
      subst hwt
      refine outS_of_wp cfg (fn := Tryd.f9) Tryd.func9 rfl (by simp [Tryd.f9]) ?_
      simp (disch := first | assumption | omega | (simp; done) | (simp; omega)) [-getElem?_pos, List.getElem?_cons_zero, List.getElem?_cons_succ, Tryd.f9, he, hsg, hw, hlg, hc1]
      repeat' (first | (refine wpc_split _ (fun hc => ?_) (fun hc => ?_) <;> (try simp at hc)) | (refine ww_split _ (fun hc => ?_) (fun hc => ?_) <;> (try simp at hc)) | (refine wp_draw _ (by kernel_rfl) ?_) | (refine wk_yldW _ ?_) | (refine owe ?_ (fun ho => ?_)) | (simp (disch := first | assumption | omega | (simp; done) | (simp; omega)) [he, hsg, hw, hlg, hc1, eS, -getElem?_pos, List.getElem?_cons_zero, List.getElem?_cons_succ]))
      all_goals
        refine wp_loopE cfg rfl (fun f0 h0 m fr h => ∃ i : Nat, fr 3 = f0 3 ∧ fr 63 = f0 63 ∧ fr 64 = f0 64 ∧ fr 65 = .int .i64 i ∧ fr 8 = .bool (okTo l i) ∧ (i + m = l.length)) (l.length) _ _ ⟨0, rfl, rfl, rfl, by first | rfl | (simp; done) | (simp [R]; done) | simp [R], by simp [okTo], by first | rfl | (simp; done) | omega⟩ ?_
        rintro Am Af Ah ⟨i, A3, A63, A64, A65, A8, hm⟩ Aih
        try simp at A3 A63 A64
        by_cases hi : i < l.length
        · have hkp := kindG_pt (r := nth l i) (by rw [List.all_eq_true] at hpt; exact hpt _ (nth_mem hi))
          obtain ⟨k1, k2, k3, k4⟩ := hkp
          have hsc := okTo_succ hi
          by_cases hsp : spaceR (nth l i) = true
          · have k5 := k4.2 hsp
            cases hb : okTo l i <;> rw [hb] at A8 hsc
            · repeat' (first | (refine wpc_split _ (fun hc => ?_) (fun hc => ?_) <;> (try simp at hc)) | (refine ww_split _ (fun hc => ?_) (fun hc => ?_) <;> (try simp at hc)) | (refine wp_draw _ (by kernel_rfl) ?_) | (refine wk_yldW _ ?_) | (refine owe ?_ (fun ho => ?_)) | (simp (disch := first | assumption | omega | (simp; done) | (simp; omega)) [A3, A63, A64, A65, A8, eI, k1, k5, -getElem?_pos, List.getElem?_cons_zero, List.getElem?_cons_succ]))
              exact Aih (Am - 1) _ _ (by omega) ⟨i + 1, by simp [A3, A63, A64, A65, A8, hsc, hsp, k5], by simp [A3, A63, A64, A65, A8, hsc, hsp, k5], by simp [A3, A63, A64, A65, A8, hsc, hsp, k5], by simp [A3, A63, A64, A65, A8, hsc, hsp, k5], by simp [A3, A63, A64, A65, A8, hsc, hsp, k5], by omega⟩
            · repeat' (first | (refine wpc_split _ (fun hc => ?_) (fun hc => ?_) <;> (try simp at hc)) | (refine ww_split _ (fun hc => ?_) (fun hc => ?_) <;> (try simp at hc)) | (refine wp_draw _ (by kernel_rfl) ?_) | (refine wk_yldW _ ?_) | (refine owe ?_ (fun ho => ?_)) | (simp (disch := first | assumption | omega | (simp; done) | (simp; omega)) [A3, A63, A64, A65, A8, eI, k1, k5, -getElem?_pos, List.getElem?_cons_zero, List.getElem?_cons_succ]))
              exact Aih (Am - 1) _ _ (by omega) ⟨i + 1, by simp [A3, A63, A64, A65, A8, hsc, hsp, k5], by simp [A3, A63, A64, A65, A8, hsc, hsp, k5], by simp [A3, A63, A64, A65, A8, hsc, hsp, k5], by simp [A3, A63, A64, A65, A8, hsc, hsp, k5], by simp [A3, A63, A64, A65, A8, hsc, hsp, k5], by omega⟩
          · have k5 : ¬ (kindG (nth l i)).1 = 1 := fun h => hsp (k4.1 h)
            cases hb : okTo l i <;> rw [hb] at A8 hsc
            · repeat' (first | (refine wpc_split _ (fun hc => ?_) (fun hc => ?_) <;> (try simp at hc)) | (refine ww_split _ (fun hc => ?_) (fun hc => ?_) <;> (try simp at hc)) | (refine wp_draw _ (by kernel_rfl) ?_) | (refine wk_yldW _ ?_) | (refine owe ?_ (fun ho => ?_)) | (simp (disch := first | assumption | omega | (simp; done) | (simp; omega)) [A3, A63, A64, A65, A8, eI, k1, -getElem?_pos, List.getElem?_cons_zero, List.getElem?_cons_succ]))
              all_goals first
                | omega
                | exact Aih (Am - 1) _ _ (by omega) ⟨i + 1, by simp [A3, A63, A64, A65, A8, hsc, hsp, k5], by simp [A3, A63, A64, A65, A8, hsc, hsp, k5], by simp [A3, A63, A64, A65, A8, hsc, hsp, k5], by simp [A3, A63, A64, A65, A8, hsc, hsp, k5], by simp [A3, A63, A64, A65, A8, hsc, hsp, k5], by omega⟩
            · repeat' (first | (refine wpc_split _ (fun hc => ?_) (fun hc => ?_) <;> (try simp at hc)) | (refine ww_split _ (fun hc => ?_) (fun hc => ?_) <;> (try simp at hc)) | (refine wp_draw _ (by kernel_rfl) ?_) | (refine wk_yldW _ ?_) | (refine owe ?_ (fun ho => ?_)) | (simp (disch := first | assumption | omega | (simp; done) | (simp; omega)) [A3, A63, A64, A65, A8, eI, k1, k5, -getElem?_pos, List.getElem?_cons_zero, List.getElem?_cons_succ]))
              all_goals first
                | omega
                | exact Aih (Am - 1) _ _ (by omega) ⟨i + 1, by simp [A3, A63, A64, A65, A8, hsc, hsp, k5], by simp [A3, A63, A64, A65, A8, hsc, hsp, k5], by simp [A3, A63, A64, A65, A8, hsc, hsp, k5], by simp [A3, A63, A64, A65, A8, hsc, hsp, k5], by simp [A3, A63, A64, A65, A8, hsc, hsp, k5], by omega⟩
        · have hi2 : i = l.length := by omega
          subst hi2
          rw [okTo_all, ← hwl] at A8
          repeat' (first | (refine wpc_split _ (fun hc => ?_) (fun hc => ?_) <;> (try simp at hc)) | (refine ww_split _ (fun hc => ?_) (fun hc => ?_) <;> (try simp at hc)) | (refine wp_draw _ (by kernel_rfl) ?_) | (refine wk_yldW _ ?_) | (refine owe ?_ (fun ho => ?_)) | (simp (disch := first | assumption | omega | (simp; done) | (simp; omega)) [A3, A63, A64, A65, A8, -getElem?_pos, List.getElem?_cons_zero, List.getElem?_cons_succ]))
  · have hsg := splitG_bad he
    have hw := wordS_no (s := s) (.inl he)
    have hb := runesG_bad he
    refine outS_of_wp cfg (fn := Tryd.f9) Tryd.func9 rfl (by simp [Tryd.f9]) ?_
    simp (disch := first | assumption | omega | (simp; done) | (simp; omega)) [-getElem?_pos, List.getElem?_cons_zero, List.getElem?_cons_succ, Tryd.f9, he, hsg, hw, hb]
    repeat' (first | (refine wpc_split _ (fun hc => ?_) (fun hc => ?_) <;> (try simp at hc)) | (refine ww_split _ (fun hc => ?_) (fun hc => ?_) <;> (try simp at hc)) | (refine wp_draw _ (by kernel_rfl) ?_) | (refine wk_yldW _ ?_) | (refine owe ?_ (fun ho => ?_)) | (simp (disch := first | assumption | omega | (simp; done) | (simp; omega)) [he, hsg, hw, hb, -getElem?_pos, List.getElem?_cons_zero, List.getElem?_cons_succ]))
    repeat' (first | (refine wp_unroll rfl ?_) | (refine wpc_split _ (fun hc => ?_) (fun hc => ?_) <;> (try simp at hc)) | (refine ww_split _ (fun hc => ?_) (fun hc => ?_) <;> (try simp at hc)) | (refine wp_draw _ (by kernel_rfl) ?_) | (refine wk_yldW _ ?_) | (refine owe ?_ (fun ho => ?_)) | (simp (disch := first | assumption | omega | (simp; done) | (simp; omega)) [he, hsg, hw, hb, -getElem?_pos, List.getElem?_cons_zero, List.getElem?_cons_succ]))
@[simp] theorem S9 (s : List UInt8) (hs : s.length < 1099511627776) (hh : Heap) : Ci cfg (.func (.func 9) [] []) [.str s] hh = some (.ret (.bool true), hh) :=
  Ci_K cfg rfl rfl (by simp) (by simp) (C9 s hs)
end Go.Ab
