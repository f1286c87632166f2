/- Layer 10 (direction): the specification's Show; Few, SameInts. -/
import Derived.Test.YtjhpmmomalaiiaaDoorB6
import Derived.Test.YtjhpmmomalaiiaaDoorS10
set_option linter.unusedVariables false
set_option linter.unusedSimpArgs false
set_option linter.unusedSectionVars false
set_option linter.deprecated false
namespace Go.Ab
open Go.Proofs
set_option maxRecDepth 100000
set_option maxHeartbeats 4000000
theorem C17 (s : List UInt8) (right : Bool) (hs : s.length < 1099511627776) : Kc cfg 17 [.str s, .bool right] (.ret (.tuple [.str (showS s right).1, .int .i64 (showS s right).2])) := by
  by_cases he : (runesG s).2 = 0
  · obtain ⟨k1, k2, k3, k4, k5⟩ := lev_ok right he
    have hS : showS s right = joinG (shownL (runesG s).1 (levS (runesG s).1 right).1) := by unfold showS; rw [if_pos he]
    rw [hS]
    generalize hl : (runesG s).1 = l at *
    generalize hL : (levS l right).1 = L at *
    have hsl : l.length < 1099511627776 := by omega
    have hsL : L.length < 1099511627776 := by omega
    have hrl : (rowF l.length (fun i => (ordF L i : Int))).length = l.length := by simp
    have hrn := fun i (h : i < l.length) => nth_rowF (g := fun i => (ordF L i : Int)) h
    have holt := fun i (h : i < l.length) => ordF_lt (L := L) (i := i) (by omega)
    generalize hW : rowF l.length (fun i => (ordF L i : Int)) = W at *
    refine outS_of_wp cfg (fn := Tryd.f17) Tryd.func17 rfl (by simp [Tryd.f17]) ?_
    simp (disch := first | assumption | omega | (simp; done) | (simp; omega)) [-getElem?_pos, List.getElem?_cons_zero, List.getElem?_cons_succ, Tryd.f17, he, hl, hL, k1, k3, k5]
    repeat' (first | (refine wpc_split _ (fun hc => ?_) (fun hc => ?_) <;> (try simp at hc)) | (refine ww_split _ (fun hc => ?_) (fun hc => ?_) <;> (try simp at hc)) | (refine wp_drawF (by kernel_rfl) ?_) | (refine wk_yldW _ ?_) | (refine layOwe _ (by kernel_rfl) ?_) | (refine owe ?_ (fun ho => ?_)) | (simp (disch := first | assumption | omega | (simp; done) | (simp; omega)) [he, hl, hL, k1, k3, k5, -getElem?_pos, List.getElem?_cons_zero, List.getElem?_cons_succ]))
    refine wp_loopE cfg rfl (fun f0 h0 m fr h => ∃ i : Nat, ∃ fl : Fl, fr 6 = f0 6 ∧ fr 10 = f0 10 ∧ fr 12 = R fl eI (rowF i (fun i => nth l (ordF L i))) ∧ fr 13 = .int .i64 i ∧ (App h.ts 1 fl) ∧ (i + m = l.length)) (l.length) _ _ ⟨0, (false, true, none), rfl, rfl, by first | rfl | (simp; done) | (simp [R]; done) | simp [R], by first | rfl | (simp; done) | (simp [R]; done) | simp [R], App.full _ _ _, by first | rfl | (simp; done) | omega⟩ ?_
    rintro Am Af Ah ⟨i, fl, A6, A10, A12, A13, hap, hm⟩ Aih
    try simp at A6 A10
    by_cases hi : i < l.length
    · have hst := shown_take l L i
      have hrni := hrn i hi
      have hlt := holt i hi
      have hlt2 : ordF L i < l.length := by omega
      have hrf : (rowF i (fun i => nth l (ordF L i))).length = i := rowF_len _ _
      repeat' (first | (refine wpc_split _ (fun hc => ?_) (fun hc => ?_) <;> (try simp at hc)) | (refine ww_split _ (fun hc => ?_) (fun hc => ?_) <;> (try simp at hc)) | (refine wp_drawF (by kernel_rfl) ?_) | (refine wk_yldW _ ?_) | (refine layOwe _ (by kernel_rfl) ?_) | (refine owe ?_ (fun ho => ?_)) | (simp (disch := first | assumption | omega | (simp; done) | (simp; omega)) [A6, A10, A12, A13, eI, hrni, hrl, fold_I1, -getElem?_pos, List.getElem?_cons_zero, List.getElem?_cons_succ]))
      exact Aih (Am - 1) _ _ (by omega) ⟨i + 1, _, by simp [A6, A10, A12, A13, hst], by simp [A6, A10, A12, A13, hst], by simp [A6, A10, A12, A13, hst], by simp [A6, A10, A12, A13, hst], App.new _ _ _, by omega⟩
    · obtain rfl : i = l.length := by omega
      have hsh : rowF l.length (fun i => nth l (ordF L i)) = shownL l L := rfl
      have hll : (shownL l L).length < 1099511627776 := by simp [shownL]; omega
      rw [hsh] at A12
      repeat' (first | (refine wpc_split _ (fun hc => ?_) (fun hc => ?_) <;> (try simp at hc)) | (refine ww_split _ (fun hc => ?_) (fun hc => ?_) <;> (try simp at hc)) | (refine wp_drawF (by kernel_rfl) ?_) | (refine wk_yldW _ ?_) | (refine layOwe _ (by kernel_rfl) ?_) | (refine owe ?_ (fun ho => ?_)) | (simp (disch := first | assumption | omega | (simp; done) | (simp; omega)) [A6, A10, A12, A13, hrl, -getElem?_pos, List.getElem?_cons_zero, List.getElem?_cons_succ]))
  · have hS : showS s right = ([], (runesG s).2) := by unfold showS; rw [if_neg he]
    rw [hS]
    refine outS_of_wp cfg (fn := Tryd.f17) Tryd.func17 rfl (by simp [Tryd.f17]) ?_
    simp (disch := first | assumption | omega | (simp; done) | (simp; omega)) [-getElem?_pos, List.getElem?_cons_zero, List.getElem?_cons_succ, Tryd.f17, he]
    repeat' (first | (refine wpc_split _ (fun hc => ?_) (fun hc => ?_) <;> (try simp at hc)) | (refine ww_split _ (fun hc => ?_) (fun hc => ?_) <;> (try simp at hc)) | (refine wp_drawF (by kernel_rfl) ?_) | (refine wk_yldW _ ?_) | (refine layOwe _ (by kernel_rfl) ?_) | (refine owe ?_ (fun ho => ?_)) | (simp (disch := first | assumption | omega | (simp; done) | (simp; omega)) [he, -getElem?_pos, List.getElem?_cons_zero, List.getElem?_cons_succ]))
@[simp] theorem S17 (s : List UInt8) (right : Bool) (hs : s.length < 1099511627776) (hh : Heap) : Ci cfg (.func (.func 17) [] []) [.str s, .bool right] hh = some (.ret (.tuple [.str (showS s right).1, .int .i64 (showS s right).2]), hh) :=
  Ci_K cfg rfl rfl (by simp) (by simp) (C17 s right hs)
def few10 (l : List Int) : Bool := decide (l.length ≤ 120 ∨ 4096 < l.length ∧ l.length ≤ 5000)
theorem C10 (l : List Int) (hs : l.length < 1099511627776) : Kc cfg 10 [R fl0 eI l] (.ret (.bool (few10 l))) := by
  by_cases h1 : l.length ≤ 120
  · have hF : few10 l = true := decide_eq_true (.inl h1)
    rw [hF]
    refine outS_of_wp cfg (fn := Tryd.f10) Tryd.func10 rfl (by simp [Tryd.f10]) ?_
    simp (disch := first | assumption | omega | (simp; done) | (simp; omega)) [-getElem?_pos, List.getElem?_cons_zero, List.getElem?_cons_succ, Tryd.f10]
    repeat' (first | (refine wpc_split _ (fun hc => ?_) (fun hc => ?_) <;> (try simp at hc)) | (refine ww_split _ (fun hc => ?_) (fun hc => ?_) <;> (try simp at hc)) | (refine wp_drawF (by kernel_rfl) ?_) | (refine wk_yldW _ ?_) | (refine layOwe _ (by kernel_rfl) ?_) | (refine owe ?_ (fun ho => ?_)) | (simp (disch := first | assumption | omega | (simp; done) | (simp; omega)) [-getElem?_pos, List.getElem?_cons_zero, List.getElem?_cons_succ]))
    all_goals first | rfl | (exfalso; omega) | omega
  · by_cases h2 : 4096 < l.length
    · have hF : few10 l = decide (l.length ≤ 5000) := by unfold few10; rw [decide_eq_decide]; omega
      rw [hF]
      refine outS_of_wp cfg (fn := Tryd.f10) Tryd.func10 rfl (by simp [Tryd.f10]) ?_
      simp (disch := first | assumption | omega | (simp; done) | (simp; omega)) [-getElem?_pos, List.getElem?_cons_zero, List.getElem?_cons_succ, Tryd.f10]
      repeat' (first | (refine wpc_split _ (fun hc => ?_) (fun hc => ?_) <;> (try simp at hc)) | (refine ww_split _ (fun hc => ?_) (fun hc => ?_) <;> (try simp at hc)) | (refine wp_drawF (by kernel_rfl) ?_) | (refine wk_yldW _ ?_) | (refine layOwe _ (by kernel_rfl) ?_) | (refine owe ?_ (fun ho => ?_)) | (simp (disch := first | assumption | omega | (simp; done) | (simp; omega)) [-getElem?_pos, List.getElem?_cons_zero, List.getElem?_cons_succ]))
      all_goals first | rfl | (exfalso; omega) | (simp; done) | (rw [decide_eq_decide]; omega) | omega
    · have hF : few10 l = false := decide_eq_false (by omega)
      rw [hF]
      refine outS_of_wp cfg (fn := Tryd.f10) Tryd.func10 rfl (by simp [Tryd.f10]) ?_
      simp (disch := first | assumption | omega | (simp; done) | (simp; omega)) [-getElem?_pos, List.getElem?_cons_zero, List.getElem?_cons_succ, Tryd.f10]
      repeat' (first | (refine wpc_split _ (fun hc => ?_) (fun hc => ?_) <;> (try simp at hc)) | (refine ww_split _ (fun hc => ?_) (fun hc => ?_) <;> (try simp at hc)) | (refine wp_drawF (by kernel_rfl) ?_) | (refine wk_yldW _ ?_) | (refine layOwe _ (by kernel_rfl) ?_) | (refine owe ?_ (fun ho => ?_)) | (simp (disch := first | assumption | omega | (simp; done) | (simp; omega)) [-getElem?_pos, List.getElem?_cons_zero, List.getElem?_cons_succ]))
      all_goals first | rfl | (exfalso; omega) | omega
@[simp] theorem S10 (l : List Int) (hs : l.length < 1099511627776) (q1 : Fl) (hh : Heap) : Ci cfg (.func (.func 10) [] []) [R  q1 eI l] hh = some (.ret (.bool (few10 l)), hh) :=
  Ci_K cfg rfl rfl (by simp) (by simp) (C10 l hs)
theorem C15 (a b : List Int) (hs : a.length < 1099511627776) : Kc cfg 15 [R fl0 eI a, R fl0 eI b] (.ret (.bool (decide (a = b)))) := by
  generalize hF : decide (a = b) = F
  by_cases hlen : a.length = b.length
  · skip
    refine outS_of_wp cfg (fn := Tryd.f15) Tryd.func15 rfl (by simp [Tryd.f15]) ?_
    simp (disch := first | assumption | omega | (simp; done) | (simp; omega)) [-getElem?_pos, List.getElem?_cons_zero, List.getElem?_cons_succ, Tryd.f15]
    repeat' (first | (refine wpc_split _ (fun hc => ?_) (fun hc => ?_) <;> (try simp at hc)) | (refine ww_split _ (fun hc => ?_) (fun hc => ?_) <;> (try simp at hc)) | (refine wp_drawF (by kernel_rfl) ?_) | (refine wk_yldW _ ?_) | (refine layOwe _ (by kernel_rfl) ?_) | (refine owe ?_ (fun ho => ?_)) | (simp (disch := first | assumption | omega | (simp; done) | (simp; omega)) [-getElem?_pos, List.getElem?_cons_zero, List.getElem?_cons_succ]))
    refine wp_loopE cfg rfl (fun f0 h0 m fr h => ∃ i : Nat, fr 0 = f0 0 ∧ fr 1 = f0 1 ∧ fr 5 = .int .i64 i ∧ (i + m = a.length) ∧ (∀ j, j < i → nth a j = nth b j)) (a.length) _ _ ⟨0, rfl, rfl, by first | rfl | (simp; done) | (simp [R]; done) | simp [R], by first | rfl | (simp; done) | omega, fun j hj => by omega⟩ ?_
    rintro Am Af Ah ⟨i, A0, A1, A5, hm, ht⟩ Aih
    try simp at A0 A1
    by_cases hi : i < a.length
    · by_cases hq : nth a i = nth b i
      · repeat' (first | (refine wpc_split _ (fun hc => ?_) (fun hc => ?_) <;> (try simp at hc)) | (refine ww_split _ (fun hc => ?_) (fun hc => ?_) <;> (try simp at hc)) | (refine wp_drawF (by kernel_rfl) ?_) | (refine wk_yldW _ ?_) | (refine layOwe _ (by kernel_rfl) ?_) | (refine owe ?_ (fun ho => ?_)) | (simp (disch := first | assumption | omega | (simp; done) | (simp; omega)) [A0, A1, A5, eI, -getElem?_pos, List.getElem?_cons_zero, List.getElem?_cons_succ]))
        all_goals first
          | (exfalso; omega)
          | exact Aih (Am - 1) _ _ (by omega) ⟨i + 1, by simp [A0, A1, A5], by simp [A0, A1, A5], by simp [A0, A1, A5], by omega, fun j hj => by (by_cases e : j = i; (subst e; exact hq); exact ht j (by omega))⟩
      · have h2 : F = false := by rw [← hF, decide_eq_false_iff_not]; intro e; rw [e] at hq; exact hq rfl
        repeat' (first | (refine wpc_split _ (fun hc => ?_) (fun hc => ?_) <;> (try simp at hc)) | (refine ww_split _ (fun hc => ?_) (fun hc => ?_) <;> (try simp at hc)) | (refine wp_drawF (by kernel_rfl) ?_) | (refine wk_yldW _ ?_) | (refine layOwe _ (by kernel_rfl) ?_) | (refine owe ?_ (fun ho => ?_)) | (simp (disch := first | assumption | omega | (simp; done) | (simp; omega)) [A0, A1, A5, eI, -getElem?_pos, List.getElem?_cons_zero, List.getElem?_cons_succ]))
        all_goals rw [h2]
    · have h2 : F = true := by rw [← hF, decide_eq_true_eq]; exact ext_nth hlen (fun j hj => ht j (by omega))
      repeat' (first | (refine wpc_split _ (fun hc => ?_) (fun hc => ?_) <;> (try simp at hc)) | (refine ww_split _ (fun hc => ?_) (fun hc => ?_) <;> (try simp at hc)) | (refine wp_drawF (by kernel_rfl) ?_) | (refine wk_yldW _ ?_) | (refine layOwe _ (by kernel_rfl) ?_) | (refine owe ?_ (fun ho => ?_)) | (simp (disch := first | assumption | omega | (simp; done) | (simp; omega)) [A0, A1, A5, -getElem?_pos, List.getElem?_cons_zero, List.getElem?_cons_succ]))
      rw [h2]
  · have h2 : F = false := by rw [← hF, decide_eq_false_iff_not]; intro e; rw [e] at hlen; exact hlen rfl
    refine outS_of_wp cfg (fn := Tryd.f15) Tryd.func15 rfl (by simp [Tryd.f15]) ?_
    simp (disch := first | assumption | omega | (simp; done) | (simp; omega)) [-getElem?_pos, List.getElem?_cons_zero, List.getElem?_cons_succ, Tryd.f15]
    repeat' (first | (refine wpc_split _ (fun hc => ?_) (fun hc => ?_) <;> (try simp at hc)) | (refine ww_split _ (fun hc => ?_) (fun hc => ?_) <;> (try simp at hc)) | (refine wp_drawF (by kernel_rfl) ?_) | (refine wk_yldW _ ?_) | (refine layOwe _ (by kernel_rfl) ?_) | (refine owe ?_ (fun ho => ?_)) | (simp (disch := first | assumption | omega | (simp; done) | (simp; omega)) [-getElem?_pos, List.getElem?_cons_zero, List.getElem?_cons_succ]))
    all_goals first
      | (exfalso; omega)
      | rw [h2]
@[simp] theorem S15 (a b : List Int) (hs : a.length < 1099511627776) (q1 q2 : Fl) (hh : Heap) : Ci cfg (.func (.func 15) [] []) [R  q1 eI a, R  q2 eI b] hh = some (.ret (.bool (decide (a = b))), hh) :=
  Ci_K cfg rfl rfl (by simp) (by simp) (C15 a b hs)
end Go.Ab
