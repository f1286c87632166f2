/- Layer 20 (lattice): paths, costs of paths, what is accepted. -/
import Derived.Test.YtgfomibaakpdnaaDoorG1
set_option linter.unusedVariables false
set_option linter.unusedSimpArgs false
set_option linter.unusedSectionVars false
set_option linter.deprecated false
namespace Go.Ab
open Go.Proofs
set_option maxRecDepth 100000
set_option maxHeartbeats 4000000
theorem C24 (n : Int) (l : List Edge) (p : List Int) (hs : l.length < 1099511627776 ∧ p.length < 1099511627776) (hn : 0 ≤ n) : Kc cfg 24 [.int .i64 n, R fl0 eE l, R fl0 eI p] (.ret (.bool (pathP n.toNat l p 0))) := by
  generalize hF : pathP n.toNat l p 0 = F
  refine outS_of_wp cfg (fn := Tryd.f24) Tryd.func24 rfl (by simp [Tryd.f24]) ?_
  simp (disch := first | assumption | omega | (simp; done) | (simp; omega)) [-getElem?_pos, List.getElem?_cons_zero, List.getElem?_cons_succ, Tryd.f24]
  repeat' (first | (refine wpc_split _ (fun hc => ?_) (fun hc => ?_) <;> (try simp at hc)) | (refine ww_split _ (fun hc => ?_) (fun hc => ?_) <;> (try simp at hc)) | (refine wp_drawF (by kernel_rfl) ?_) | (refine wk_yldW _ ?_) | (refine layOwe _ (by kernel_rfl) ?_) | (refine owe ?_ (fun ho => ?_)) | (simp (disch := first | assumption | omega | (simp; done) | (simp; omega)) [-getElem?_pos, List.getElem?_cons_zero, List.getElem?_cons_succ]))
  refine wp_loopE cfg rfl (fun f0 h0 m fr h => ∃ i : Nat, ∃ v : Int, fr 0 = f0 0 ∧ fr 1 = f0 1 ∧ fr 2 = f0 2 ∧ fr 7 = .int .i64 v ∧ fr 8 = .int .i64 i ∧ (i + m = p.length) ∧ (pathP n.toNat l (p.drop i) v = F)) (p.length) _ _ ⟨0, 0, rfl, rfl, rfl, by first | rfl | (simp; done) | (simp [R]; done) | simp [R], by first | rfl | (simp; done) | (simp [R]; done) | simp [R], by first | rfl | (simp; done) | omega, hF⟩ ?_
  rintro Am Af Ah ⟨i, v, A0, A1, A2, A7, A8, hm, ht⟩ Aih
  try simp at A0 A1 A2
  by_cases hi : i < p.length
  · rw [nth_drop hi] at ht
    simp only [pathP] at ht
    by_cases c : 0 ≤ nth p i ∧ nth p i < l.length ∧ (nth l (nth p i).toNat).src = v
    · rw [decide_eq_true c, Bool.true_and] at ht
      obtain ⟨c1, c2, c3⟩ := c
      have c4 : (nth p i).toNat < l.length := by omega
      repeat' (first | (refine wpc_split _ (fun hc => ?_) (fun hc => ?_) <;> (try simp at hc)) | (refine ww_split _ (fun hc => ?_) (fun hc => ?_) <;> (try simp at hc)) | (refine wp_drawF (by kernel_rfl) ?_) | (refine wk_yldW _ ?_) | (refine layOwe _ (by kernel_rfl) ?_) | (refine owe ?_ (fun ho => ?_)) | (simp (disch := first | assumption | omega | (simp; done) | (simp; omega)) [A0, A1, A2, A7, A8, eI, eE, c3, -getElem?_pos, List.getElem?_cons_zero, List.getElem?_cons_succ]))
      all_goals first
        | (exfalso; omega)
        | exact Aih (Am - 1) _ _ (by omega) ⟨i + 1, (nth l (nth p i).toNat).dst, by simp [A0, A1, A2, A7, A8], by simp [A0, A1, A2, A7, A8], by simp [A0, A1, A2, A7, A8], by simp [A0, A1, A2, A7, A8], by simp [A0, A1, A2, A7, A8], by omega, ht⟩
    · rw [decide_eq_false c, Bool.false_and] at ht
      subst ht
      by_cases c1 : 0 ≤ nth p i
      · by_cases c2 : nth p i < l.length
        · have c4 : (nth p i).toNat < l.length := by omega
          have c3 : ¬ (nth l (nth p i).toNat).src = v := fun e => c ⟨c1, c2, e⟩
          repeat' (first | (refine wpc_split _ (fun hc => ?_) (fun hc => ?_) <;> (try simp at hc)) | (refine ww_split _ (fun hc => ?_) (fun hc => ?_) <;> (try simp at hc)) | (refine wp_drawF (by kernel_rfl) ?_) | (refine wk_yldW _ ?_) | (refine layOwe _ (by kernel_rfl) ?_) | (refine owe ?_ (fun ho => ?_)) | (simp (disch := first | assumption | omega | (simp; done) | (simp; omega)) [A0, A1, A2, A7, A8, eI, eE, c3, -getElem?_pos, List.getElem?_cons_zero, List.getElem?_cons_succ]))
          all_goals first
            | (exfalso; omega)
            | rfl
        · repeat' (first | (refine wpc_split _ (fun hc => ?_) (fun hc => ?_) <;> (try simp at hc)) | (refine ww_split _ (fun hc => ?_) (fun hc => ?_) <;> (try simp at hc)) | (refine wp_drawF (by kernel_rfl) ?_) | (refine wk_yldW _ ?_) | (refine layOwe _ (by kernel_rfl) ?_) | (refine owe ?_ (fun ho => ?_)) | (simp (disch := first | assumption | omega | (simp; done) | (simp; omega)) [A0, A1, A2, A7, A8, eI, eE, -getElem?_pos, List.getElem?_cons_zero, List.getElem?_cons_succ]))
          all_goals first
            | (exfalso; omega)
            | rfl
      · repeat' (first | (refine wpc_split _ (fun hc => ?_) (fun hc => ?_) <;> (try simp at hc)) | (refine ww_split _ (fun hc => ?_) (fun hc => ?_) <;> (try simp at hc)) | (refine wp_drawF (by kernel_rfl) ?_) | (refine wk_yldW _ ?_) | (refine layOwe _ (by kernel_rfl) ?_) | (refine owe ?_ (fun ho => ?_)) | (simp (disch := first | assumption | omega | (simp; done) | (simp; omega)) [A0, A1, A2, A7, A8, eI, eE, -getElem?_pos, List.getElem?_cons_zero, List.getElem?_cons_succ]))
        all_goals first
          | (exfalso; omega)
          | rfl
  · rw [List.drop_of_length_le (by omega)] at ht
    simp only [pathP] at ht
    have e : ((n.toNat : Nat) : Int) = n := by omega
    rw [e] at ht
    repeat' (first | (refine wpc_split _ (fun hc => ?_) (fun hc => ?_) <;> (try simp at hc)) | (refine ww_split _ (fun hc => ?_) (fun hc => ?_) <;> (try simp at hc)) | (refine wp_drawF (by kernel_rfl) ?_) | (refine wk_yldW _ ?_) | (refine layOwe _ (by kernel_rfl) ?_) | (refine owe ?_ (fun ho => ?_)) | (simp (disch := first | assumption | omega | (simp; done) | (simp; omega)) [A0, A1, A2, A7, A8, -getElem?_pos, List.getElem?_cons_zero, List.getElem?_cons_succ]))
    all_goals (rw [← ht]; first | rfl | (symm; rw [Bool.eq_iff_iff]; simp; done) | (rw [Bool.eq_iff_iff]; simp))
@[simp] theorem S24 (n : Int) (l : List Edge) (p : List Int) (hs : l.length < 1099511627776 ∧ p.length < 1099511627776) (hn : 0 ≤ n) (q1 q2 : Fl) (hh : Heap) : Ci cfg (.func (.func 24) [] []) [.int .i64 n, R  q1 eE l, R  q2 eI p] hh = some (.ret (.bool (pathP n.toNat l p 0)), hh) :=
  Ci_K cfg rfl rfl (by simp) (by simp) (C24 n l p hs hn)
def wtB (l : List Edge) (p : List Int) : Prop := ∀ i ∈ p, 0 ≤ i ∧ i < l.length
theorem wtP_take {l : List Edge} {p : List Int} {i : Nat} (h : i < p.length) : wtP l (p.take (i + 1)) = wtP l (p.take i) + (nth l (nth p i).toNat).cost := by unfold wtP; rw [nth_take h]; simp
theorem wtP_bound {l : List Edge} {p : List Int} (hb : ∀ i ∈ p, 0 ≤ i ∧ i < (l.length : Int)) (hc : ∀ x ∈ l, 0 ≤ x.cost ∧ x.cost ≤ 1048576) (i : Nat) : 0 ≤ wtP l (p.take i) ∧ wtP l (p.take i) ≤ 1048576 * i := by
  induction i with
  | zero => simp [wtP]
  | succ i ih =>
    by_cases h : i < p.length
    · rw [wtP_take h]
      have h1 := hb _ (nth_mem h)
      have h2 := hc _ (nth_mem (show (nth p i).toNat < l.length by omega))
      omega
    · rw [List.take_of_length_le (by omega)]
      rw [List.take_of_length_le (by omega)] at ih
      omega
theorem C25 (l : List Edge) (p : List Int) (hs : l.length < 1099511627776 ∧ p.length < 1099511627776) (hb : ∀ i ∈ p, 0 ≤ i ∧ i < (l.length : Int)) (hc : ∀ x ∈ l, 0 ≤ x.cost ∧ x.cost ≤ 1048576) : Kc cfg 25 [R fl0 eE l, R fl0 eI p] (.ret (.int .i64 (wtP l p))) := by
  refine outS_of_wp cfg (fn := Tryd.f25) Tryd.func25 rfl (by simp [Tryd.f25]) ?_
  simp (disch := first | assumption | omega | (simp; done) | (simp; omega)) [-getElem?_pos, List.getElem?_cons_zero, List.getElem?_cons_succ, Tryd.f25]
  repeat' (first | (refine wpc_split _ (fun hc => ?_) (fun hc => ?_) <;> (try simp at hc)) | (refine ww_split _ (fun hc => ?_) (fun hc => ?_) <;> (try simp at hc)) | (refine wp_drawF (by kernel_rfl) ?_) | (refine wk_yldW _ ?_) | (refine layOwe _ (by kernel_rfl) ?_) | (refine owe ?_ (fun ho => ?_)) | (simp (disch := first | assumption | omega | (simp; done) | (simp; omega)) [-getElem?_pos, List.getElem?_cons_zero, List.getElem?_cons_succ]))
  refine wp_loopE cfg rfl (fun f0 h0 m fr h => ∃ i : Nat, fr 0 = f0 0 ∧ fr 1 = f0 1 ∧ fr 5 = .int .i64 (wtP l (p.take i)) ∧ fr 6 = .int .i64 i ∧ (i + m = p.length)) (p.length) _ _ ⟨0, rfl, rfl, by first | rfl | (simp; done) | (simp [R]; done) | simp [R], by first | rfl | (simp; done) | (simp [R]; done) | simp [R], by first | rfl | (simp; done) | omega⟩ ?_
  rintro Am Af Ah ⟨i, A0, A1, A5, A6, hm⟩ Aih
  try simp at A0 A1
  by_cases hi : i < p.length
  · have h1 := hb _ (nth_mem hi)
    have h4 : (nth p i).toNat < l.length := by omega
    have h2 := hc _ (nth_mem h4)
    have h3 := wtP_bound hb hc i
    have h5 := wtP_take (l := l) hi
    repeat' (first | (refine wpc_split _ (fun hc => ?_) (fun hc => ?_) <;> (try simp at hc)) | (refine ww_split _ (fun hc => ?_) (fun hc => ?_) <;> (try simp at hc)) | (refine wp_drawF (by kernel_rfl) ?_) | (refine wk_yldW _ ?_) | (refine layOwe _ (by kernel_rfl) ?_) | (refine owe ?_ (fun ho => ?_)) | (simp (disch := first | assumption | omega | (simp; done) | (simp; omega)) [A0, A1, A5, A6, eI, eE, -getElem?_pos, List.getElem?_cons_zero, List.getElem?_cons_succ]))
    exact Aih (Am - 1) _ _ (by omega) ⟨i + 1, by simp [A0, A1, A5, A6, h5], by simp [A0, A1, A5, A6, h5], by simp [A0, A1, A5, A6, h5], by simp [A0, A1, A5, A6, h5], by omega⟩
  · have h1 : p.take i = p := List.take_of_length_le (by omega)
    rw [h1] at A5
    repeat' (first | (refine wpc_split _ (fun hc => ?_) (fun hc => ?_) <;> (try simp at hc)) | (refine ww_split _ (fun hc => ?_) (fun hc => ?_) <;> (try simp at hc)) | (refine wp_drawF (by kernel_rfl) ?_) | (refine wk_yldW _ ?_) | (refine layOwe _ (by kernel_rfl) ?_) | (refine owe ?_ (fun ho => ?_)) | (simp (disch := first | assumption | omega | (simp; done) | (simp; omega)) [A0, A1, A5, A6, -getElem?_pos, List.getElem?_cons_zero, List.getElem?_cons_succ]))
@[simp] theorem S25 (l : List Edge) (p : List Int) (hs : l.length < 1099511627776 ∧ p.length < 1099511627776) (hb : ∀ i ∈ p, 0 ≤ i ∧ i < (l.length : Int)) (hc : ∀ x ∈ l, 0 ≤ x.cost ∧ x.cost ≤ 1048576) (q1 q2 : Fl) (hh : Heap) : Ci cfg (.func (.func 25) [] []) [R  q1 eE l, R  q2 eI p] hh = some (.ret (.int .i64 (wtP l p)), hh) :=
  Ci_K cfg rfl rfl (by simp) (by simp) (C25 l p hs hb hc)
theorem C37 (l : List Int) (hs : l.length < 1099511627776) (hl : 0 < l.length) : Kc cfg 37 [R fl0 eI l] (.ret (.int .i64 (l.foldl min (nth l 0)))) := by
  refine outS_of_wp cfg (fn := Tryd.f37) Tryd.func37 rfl (by simp [Tryd.f37]) ?_
  simp (disch := first | assumption | omega | (simp; done) | (simp; omega)) [-getElem?_pos, List.getElem?_cons_zero, List.getElem?_cons_succ, Tryd.f37]
  repeat' (first | (refine wpc_split _ (fun hc => ?_) (fun hc => ?_) <;> (try simp at hc)) | (refine ww_split _ (fun hc => ?_) (fun hc => ?_) <;> (try simp at hc)) | (refine wp_drawF (by kernel_rfl) ?_) | (refine wk_yldW _ ?_) | (refine layOwe _ (by kernel_rfl) ?_) | (refine owe ?_ (fun ho => ?_)) | (simp (disch := first | assumption | omega | (simp; done) | (simp; omega)) [eI, -getElem?_pos, List.getElem?_cons_zero, List.getElem?_cons_succ]))
  all_goals first
    | (exfalso; omega)
    | skip
  refine wp_loopE cfg rfl (fun f0 h0 m fr h => ∃ i : Nat, fr 0 = f0 0 ∧ fr 3 = .int .i64 ((l.take i).foldl min (nth l 0)) ∧ fr 4 = .int .i64 i ∧ (i + m = l.length + 0)) (l.length - 1) _ _ ⟨1, rfl, by cases l with | nil => simp at hl | cons x r => simp, by first | rfl | (simp; done) | (simp [R]; done) | simp [R], by omega⟩ ?_
  rintro Am Af Ah ⟨i, A0, A3, A4, hm⟩ Aih
  try simp at A0
  by_cases hi : i < l.length
  · have h1 : (l.take (i + 1)).foldl min (nth l 0) = min ((l.take i).foldl min (nth l 0)) (nth l i) := by rw [nth_take hi, List.foldl_append]; rfl
    repeat' (first | (refine wpc_split _ (fun hc => ?_) (fun hc => ?_) <;> (try simp at hc)) | (refine ww_split _ (fun hc => ?_) (fun hc => ?_) <;> (try simp at hc)) | (refine wp_drawF (by kernel_rfl) ?_) | (refine wk_yldW _ ?_) | (refine layOwe _ (by kernel_rfl) ?_) | (refine owe ?_ (fun ho => ?_)) | (simp (disch := first | assumption | omega | (simp; done) | (simp; omega)) [A0, A3, A4, eI, -getElem?_pos, List.getElem?_cons_zero, List.getElem?_cons_succ]))
    exact Aih (Am - 1) _ _ (by omega) ⟨i + 1, by simp [A0, A3, A4, h1], by simp [A0, A3, A4, h1], by simp [A0, A3, A4, h1], by omega⟩
  · have h1 : l.take i = l := List.take_of_length_le (by omega)
    rw [h1] at A3
    repeat' (first | (refine wpc_split _ (fun hc => ?_) (fun hc => ?_) <;> (try simp at hc)) | (refine ww_split _ (fun hc => ?_) (fun hc => ?_) <;> (try simp at hc)) | (refine wp_drawF (by kernel_rfl) ?_) | (refine wk_yldW _ ?_) | (refine layOwe _ (by kernel_rfl) ?_) | (refine owe ?_ (fun ho => ?_)) | (simp (disch := first | assumption | omega | (simp; done) | (simp; omega)) [A0, A3, A4, -getElem?_pos, List.getElem?_cons_zero, List.getElem?_cons_succ]))
@[simp] theorem S37 (l : List Int) (hs : l.length < 1099511627776) (hl : 0 < l.length) (q1 : Fl) (hh : Heap) : Ci cfg (.func (.func 37) [] []) [R  q1 eI l] hh = some (.ret (.int .i64 (l.foldl min (nth l 0))), hh) :=
  Ci_K cfg rfl rfl (by simp) (by simp) (C37 l hs hl)
theorem C38 (l : List Int) (hs : l.length < 1099511627776) (hl : 0 < l.length) : Kc cfg 38 [R fl0 eI l] (.ret (.int .i64 (l.foldl max (nth l 0)))) := by
  refine outS_of_wp cfg (fn := Tryd.f38) Tryd.func38 rfl (by simp [Tryd.f38]) ?_
  simp (disch := first | assumption | omega | (simp; done) | (simp; omega)) [-getElem?_pos, List.getElem?_cons_zero, List.getElem?_cons_succ, Tryd.f38]
  repeat' (first | (refine wpc_split _ (fun hc => ?_) (fun hc => ?_) <;> (try simp at hc)) | (refine ww_split _ (fun hc => ?_) (fun hc => ?_) <;> (try simp at hc)) | (refine wp_drawF (by kernel_rfl) ?_) | (refine wk_yldW _ ?_) | (refine layOwe _ (by kernel_rfl) ?_) | (refine owe ?_ (fun ho => ?_)) | (simp (disch := first | assumption | omega | (simp; done) | (simp; omega)) [eI, -getElem?_pos, List.getElem?_cons_zero, List.getElem?_cons_succ]))
  all_goals first
    | (exfalso; omega)
    | skip
  refine wp_loopE cfg rfl (fun f0 h0 m fr h => ∃ i : Nat, fr 0 = f0 0 ∧ fr 3 = .int .i64 ((l.take i).foldl max (nth l 0)) ∧ fr 4 = .int .i64 i ∧ (i + m = l.length + 0)) (l.length - 1) _ _ ⟨1, rfl, by cases l with | nil => simp at hl | cons x r => simp, by first | rfl | (simp; done) | (simp [R]; done) | simp [R], by omega⟩ ?_
  rintro Am Af Ah ⟨i, A0, A3, A4, hm⟩ Aih
  try simp at A0
  by_cases hi : i < l.length
  · have h1 : (l.take (i + 1)).foldl max (nth l 0) = max ((l.take i).foldl max (nth l 0)) (nth l i) := by rw [nth_take hi, List.foldl_append]; rfl
    repeat' (first | (refine wpc_split _ (fun hc => ?_) (fun hc => ?_) <;> (try simp at hc)) | (refine ww_split _ (fun hc => ?_) (fun hc => ?_) <;> (try simp at hc)) | (refine wp_drawF (by kernel_rfl) ?_) | (refine wk_yldW _ ?_) | (refine layOwe _ (by kernel_rfl) ?_) | (refine owe ?_ (fun ho => ?_)) | (simp (disch := first | assumption | omega | (simp; done) | (simp; omega)) [A0, A3, A4, eI, -getElem?_pos, List.getElem?_cons_zero, List.getElem?_cons_succ]))
    exact Aih (Am - 1) _ _ (by omega) ⟨i + 1, by simp [A0, A3, A4, h1], by simp [A0, A3, A4, h1], by simp [A0, A3, A4, h1], by omega⟩
  · have h1 : l.take i = l := List.take_of_length_le (by omega)
    rw [h1] at A3
    repeat' (first | (refine wpc_split _ (fun hc => ?_) (fun hc => ?_) <;> (try simp at hc)) | (refine ww_split _ (fun hc => ?_) (fun hc => ?_) <;> (try simp at hc)) | (refine wp_drawF (by kernel_rfl) ?_) | (refine wk_yldW _ ?_) | (refine layOwe _ (by kernel_rfl) ?_) | (refine owe ?_ (fun ho => ?_)) | (simp (disch := first | assumption | omega | (simp; done) | (simp; omega)) [A0, A3, A4, -getElem?_pos, List.getElem?_cons_zero, List.getElem?_cons_succ]))
@[simp] theorem S38 (l : List Int) (hs : l.length < 1099511627776) (hl : 0 < l.length) (q1 : Fl) (hh : Heap) : Ci cfg (.func (.func 38) [] []) [R  q1 eI l] hh = some (.ret (.int .i64 (l.foldl max (nth l 0))), hh) :=
  Ci_K cfg rfl rfl (by simp) (by simp) (C38 l hs hl)
end Go.Ab
