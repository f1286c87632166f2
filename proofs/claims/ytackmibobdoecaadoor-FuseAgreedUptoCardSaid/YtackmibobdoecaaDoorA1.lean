/- Layer 21 (align): words, places, steps. -/
import Derived.Test.YtackmibobdoecaaDoorT7
import Derived.Test.YtackmibobdoecaaDoorP21
set_option linter.unusedVariables false
set_option linter.unusedSimpArgs false
set_option linter.unusedSectionVars false
set_option linter.deprecated false
namespace Go.Ab
open Go.Proofs
set_option maxRecDepth 100000
set_option maxHeartbeats 4000000
/-! ### What is no word -/
def oddAt (l : List (List UInt8)) : Int := match (List.range l.length).find? (fun i => !wordS (nth l i)) with
  | some i => i
  | none => -1
theorem oddAt_some {l : List (List UInt8)} {i : Nat} (hi : i < l.length) (h : wordS (nth l i) = false) (hb : ∀ j, j < i → wordS (nth l j) = true) : oddAt l = i := by
  unfold oddAt; rw [findTo_some hi (by rw [h]; rfl) (fun j hj => by rw [hb j hj]; rfl)]
theorem oddAt_none {l : List (List UInt8)} (h : ∀ j, j < l.length → wordS (nth l j) = true) : oddAt l = -1 := by
  unfold oddAt; rw [findTo_none (fun j hj => by rw [h j hj]; rfl)]
theorem all_of_nth {l : List (List UInt8)} (h : ∀ j, j < l.length → wordS (nth l j) = true) : l.all wordS = true := by
  rw [List.all_eq_true]
  intro x hx
  obtain ⟨j, hj, rfl⟩ := List.mem_iff_getElem.1 hx
  rw [← nth_eq hj]; exact h j hj
theorem not_all {l : List (List UInt8)} {i : Nat} (hi : i < l.length) (h : wordS (nth l i) = false) : l.all wordS = false := by
  cases hb : l.all wordS with
  | false => rfl
  | true => rw [List.all_eq_true.1 hb _ (nth_mem hi)] at h; cases h
theorem oddAt_neg (l : List (List UInt8)) : decide (0 ≤ oddAt l) = !(l.all wordS) := by
  cases hb : l.all wordS with
  | true => rw [oddAt_none (fun j hj => List.all_eq_true.1 hb _ (nth_mem hj))]; rfl
  | false =>
    unfold oddAt
    split
    · simp
    · rename_i hn
      rw [List.find?_eq_none] at hn
      have := all_of_nth (l := l) (fun j hj => by have := hn j (by simpa using hj); simpa using this)
      rw [this] at hb; cases hb
theorem C73 (l : List (List UInt8)) (hs : l.length < 1099511627776) (hl : ∀ x ∈ l, x.length < 1099511627776) : Kc cfg 73 [R fl0 eS l, .func (.func 62) [] []] (.ret (.int .i64 (oddAt l))) := by
  refine outS_of_wp cfg (fn := Tryd.f73) Tryd.func73 rfl (by simp [Tryd.f73]) ?_
  simp (disch := first | assumption | omega | (simp; done) | (simp; omega)) [-getElem?_pos, List.getElem?_cons_zero, List.getElem?_cons_succ, Tryd.f73]
  repeat' (first | (refine wpc_split _ (fun hc => ?_) (fun hc => ?_) <;> (try simp at hc)) | (refine ww_split _ (fun hc => ?_) (fun hc => ?_) <;> (try simp at hc)) | (refine wp_drawF (by kernel_rfl) ?_) | (refine wk_yldW _ ?_) | (refine layOwe _ (by kernel_rfl) ?_) | (refine owe ?_ (fun ho => ?_)) | (simp (disch := first | assumption | omega | (simp; done) | (simp; omega)) [-getElem?_pos, List.getElem?_cons_zero, List.getElem?_cons_succ]))
  refine wp_loopE cfg rfl (fun f0 h0 m fr h => ∃ i : Nat, fr 0 = f0 0 ∧ fr 1 = f0 1 ∧ fr 7 = f0 7 ∧ fr 8 = .int .i64 i ∧ (i + m = l.length) ∧ (∀ j, j < i → wordS (nth l j) = true)) (l.length) _ _ ⟨0, rfl, rfl, rfl, by first | rfl | (simp; done) | (simp [R]; done) | simp [R], by first | rfl | (simp; done) | omega, fun j hj => by omega⟩ ?_
  rintro Am Af Ah ⟨i, A0, A1, A7, A8, hm, ht⟩ Aih
  try simp at A0 A1 A7
  by_cases hi : i < l.length
  · have hx := hl _ (nth_mem hi)
    cases hw : wordS (nth l i) with
    | false =>
      repeat' (first | (refine wpc_split _ (fun hc => ?_) (fun hc => ?_) <;> (try simp at hc)) | (refine ww_split _ (fun hc => ?_) (fun hc => ?_) <;> (try simp at hc)) | (refine wp_drawF (by kernel_rfl) ?_) | (refine wk_yldW _ ?_) | (refine layOwe _ (by kernel_rfl) ?_) | (refine owe ?_ (fun ho => ?_)) | (simp (disch := first | assumption | omega | (simp; done) | (simp; omega)) [A0, A1, A7, A8, eS, hw, Tryd.f62, -getElem?_pos, List.getElem?_cons_zero, List.getElem?_cons_succ]))
      rw [oddAt_some hi hw ht]
    | true =>
      repeat' (first | (refine wpc_split _ (fun hc => ?_) (fun hc => ?_) <;> (try simp at hc)) | (refine ww_split _ (fun hc => ?_) (fun hc => ?_) <;> (try simp at hc)) | (refine wp_drawF (by kernel_rfl) ?_) | (refine wk_yldW _ ?_) | (refine layOwe _ (by kernel_rfl) ?_) | (refine owe ?_ (fun ho => ?_)) | (simp (disch := first | assumption | omega | (simp; done) | (simp; omega)) [A0, A1, A7, A8, eS, hw, Tryd.f62, -getElem?_pos, List.getElem?_cons_zero, List.getElem?_cons_succ]))
      exact Aih (Am - 1) _ _ (by omega) ⟨i + 1, by simp [A0, A1, A7, A8], by simp [A0, A1, A7, A8], by simp [A0, A1, A7, A8], by simp [A0, A1, A7, A8], by omega, fun j hj => by (by_cases e : j = i; (subst e; exact hw); exact ht j (by omega))⟩
  · repeat' (first | (refine wpc_split _ (fun hc => ?_) (fun hc => ?_) <;> (try simp at hc)) | (refine ww_split _ (fun hc => ?_) (fun hc => ?_) <;> (try simp at hc)) | (refine wp_drawF (by kernel_rfl) ?_) | (refine wk_yldW _ ?_) | (refine layOwe _ (by kernel_rfl) ?_) | (refine owe ?_ (fun ho => ?_)) | (simp (disch := first | assumption | omega | (simp; done) | (simp; omega)) [A0, A1, A7, A8, -getElem?_pos, List.getElem?_cons_zero, List.getElem?_cons_succ]))
    rw [oddAt_none (fun j hj => ht j (by omega))]
@[simp] theorem S73 (l : List (List UInt8)) (hs : l.length < 1099511627776) (hl : ∀ x ∈ l, x.length < 1099511627776) (q1 : Fl) (hh : Heap) : Ci cfg (.func (.func 73) [] []) [R  q1 eS l, .func (.func 62) [] []] hh = some (.ret (.int .i64 (oddAt l)), hh) :=
  Ci_K cfg rfl rfl (by simp) (by simp) (C73 l hs hl)
theorem C47 (l : List (List UInt8)) (hs : l.length < 1099511627776) (hl : ∀ x ∈ l, x.length < 1099511627776) : Kc cfg 47 [R fl0 eS l, .func (.func 62) [] []] (.ret (.bool (!(l.all wordS)))) := by
  have ho := oddAt_neg l
  refine outS_of_wp cfg (fn := Tryd.f47) Tryd.func47 rfl (by simp [Tryd.f47]) ?_
  simp (disch := first | assumption | omega | (simp; done) | (simp; omega)) [-getElem?_pos, List.getElem?_cons_zero, List.getElem?_cons_succ, Tryd.f47, ho]
  repeat' (first | (refine wpc_split _ (fun hc => ?_) (fun hc => ?_) <;> (try simp at hc)) | (refine ww_split _ (fun hc => ?_) (fun hc => ?_) <;> (try simp at hc)) | (refine wp_drawF (by kernel_rfl) ?_) | (refine wk_yldW _ ?_) | (refine layOwe _ (by kernel_rfl) ?_) | (refine owe ?_ (fun ho => ?_)) | (simp (disch := first | assumption | omega | (simp; done) | (simp; omega)) [ho, -getElem?_pos, List.getElem?_cons_zero, List.getElem?_cons_succ]))
@[simp] theorem S47 (l : List (List UInt8)) (hs : l.length < 1099511627776) (hl : ∀ x ∈ l, x.length < 1099511627776) (q1 : Fl) (hh : Heap) : Ci cfg (.func (.func 47) [] []) [R  q1 eS l, .func (.func 62) [] []] hh = some (.ret (.bool (!(l.all wordS))), hh) :=
  Ci_K cfg rfl rfl (by simp) (by simp) (C47 l hs hl)
/-! ### Errors -/
def errS (a b : List (List UInt8)) : Int := if 64 < a.length ∨ 64 < b.length then 2 else if a.all wordS ∧ b.all wordS then 0 else 210
theorem C77 (a b : List (List UInt8)) (hs : a.length < 1099511627776 ∧ b.length < 1099511627776) (ha : ∀ x ∈ a, x.length < 1099511627776) (hb : ∀ x ∈ b, x.length < 1099511627776) : Kc cfg 77 [R fl0 eS a, R fl0 eS b] (.ret (.int .i64 (errS a b))) := by
  by_cases hlg : 64 < a.length ∨ 64 < b.length
  · have he : errS a b = 2 := by unfold errS; rw [if_pos hlg]
    rw [he]
    refine outS_of_wp cfg (fn := Tryd.f77) Tryd.func77 rfl (by simp [Tryd.f77]) ?_
    simp (disch := first | assumption | omega | (simp; done) | (simp; omega)) [-getElem?_pos, List.getElem?_cons_zero, List.getElem?_cons_succ, Tryd.f77]
    repeat' (first | (refine wpc_split _ (fun hc => ?_) (fun hc => ?_) <;> (try simp at hc)) | (refine ww_split _ (fun hc => ?_) (fun hc => ?_) <;> (try simp at hc)) | (refine wp_drawF (by kernel_rfl) ?_) | (refine wk_yldW _ ?_) | (refine layOwe _ (by kernel_rfl) ?_) | (refine owe ?_ (fun ho => ?_)) | (simp (disch := first | assumption | omega | (simp; done) | (simp; omega)) [-getElem?_pos, List.getElem?_cons_zero, List.getElem?_cons_succ]))
    all_goals omega
  have he : errS a b = if a.all wordS ∧ b.all wordS then 0 else 210 := by unfold errS; rw [if_neg hlg]
  generalize hE : errS a b = E at *
  refine outS_of_wp cfg (fn := Tryd.f77) Tryd.func77 rfl (by simp [Tryd.f77]) ?_
  simp (disch := first | assumption | omega | (simp; done) | (simp; omega)) [-getElem?_pos, List.getElem?_cons_zero, List.getElem?_cons_succ, Tryd.f77]
  repeat' (first | (refine wpc_split _ (fun hc => ?_) (fun hc => ?_) <;> (try simp at hc)) | (refine ww_split _ (fun hc => ?_) (fun hc => ?_) <;> (try simp at hc)) | (refine wp_drawF (by kernel_rfl) ?_) | (refine wk_yldW _ ?_) | (refine layOwe _ (by kernel_rfl) ?_) | (refine owe ?_ (fun ho => ?_)) | (simp (disch := first | assumption | omega | (simp; done) | (simp; omega)) [-getElem?_pos, List.getElem?_cons_zero, List.getElem?_cons_succ]))
  all_goals first
    | (exfalso; omega)
    | skip
  refine wp_loopE cfg rfl (fun f0 h0 m fr h => ∃ i : Nat, fr 0 = f0 0 ∧ fr 1 = f0 1 ∧ fr 5 = .int .i64 i ∧ (i + m = a.length) ∧ (∀ j, j < i → wordS (nth a j) = true)) (a.length) _ _ ⟨0, rfl, rfl, by first | rfl | (simp; done) | (simp [R]; done) | simp [R], by first | rfl | (simp; done) | omega, fun j hj => by omega⟩ ?_
  rintro Am Af Ah ⟨i, A0, A1, A5, hm, ht⟩ Aih
  try simp at A0 A1
  by_cases hi : i < a.length
  · have hx := ha _ (nth_mem hi)
    cases hw : wordS (nth a i) with
    | false =>
      have h2 : E = 210 := by rw [he, not_all hi hw]; simp
      repeat' (first | (refine wpc_split _ (fun hc => ?_) (fun hc => ?_) <;> (try simp at hc)) | (refine ww_split _ (fun hc => ?_) (fun hc => ?_) <;> (try simp at hc)) | (refine wp_drawF (by kernel_rfl) ?_) | (refine wk_yldW _ ?_) | (refine layOwe _ (by kernel_rfl) ?_) | (refine owe ?_ (fun ho => ?_)) | (simp (disch := first | assumption | omega | (simp; done) | (simp; omega)) [A0, A1, A5, eS, hw, -getElem?_pos, List.getElem?_cons_zero, List.getElem?_cons_succ]))
      rw [h2]
    | true =>
      repeat' (first | (refine wpc_split _ (fun hc => ?_) (fun hc => ?_) <;> (try simp at hc)) | (refine ww_split _ (fun hc => ?_) (fun hc => ?_) <;> (try simp at hc)) | (refine wp_drawF (by kernel_rfl) ?_) | (refine wk_yldW _ ?_) | (refine layOwe _ (by kernel_rfl) ?_) | (refine owe ?_ (fun ho => ?_)) | (simp (disch := first | assumption | omega | (simp; done) | (simp; omega)) [A0, A1, A5, eS, hw, -getElem?_pos, List.getElem?_cons_zero, List.getElem?_cons_succ]))
      exact Aih (Am - 1) _ _ (by omega) ⟨i + 1, by simp [A0, A1, A5], by simp [A0, A1, A5], by simp [A0, A1, A5], by omega, fun j hj => by (by_cases e : j = i; (subst e; exact hw); exact ht j (by omega))⟩
  · have hA := all_of_nth (l := a) (fun j hj => ht j (by omega))
    repeat' (first | (refine wpc_split _ (fun hc => ?_) (fun hc => ?_) <;> (try simp at hc)) | (refine ww_split _ (fun hc => ?_) (fun hc => ?_) <;> (try simp at hc)) | (refine wp_drawF (by kernel_rfl) ?_) | (refine wk_yldW _ ?_) | (refine layOwe _ (by kernel_rfl) ?_) | (refine owe ?_ (fun ho => ?_)) | (simp (disch := first | assumption | omega | (simp; done) | (simp; omega)) [A0, A1, A5, -getElem?_pos, List.getElem?_cons_zero, List.getElem?_cons_succ]))
    refine wp_loopE cfg rfl (fun f0 h0 m fr h => ∃ i : Nat, fr 0 = f0 0 ∧ fr 1 = f0 1 ∧ fr 6 = .int .i64 i ∧ (i + m = b.length) ∧ (∀ j, j < i → wordS (nth b j) = true)) (b.length) _ _ ⟨0, rfl, rfl, by first | rfl | (simp; done) | (simp [R]; done) | simp [R], by first | rfl | (simp; done) | omega, fun j hj => by omega⟩ ?_
    rintro Bm Bf Bh ⟨i, B0, B1, B6, hm2, ht2⟩ Bih
    try simp [A0, A1, A5] at B0 B1
    by_cases hi2 : i < b.length
    · have hx := hb _ (nth_mem hi2)
      cases hw : wordS (nth b i) with
      | false =>
        have h2 : E = 210 := by rw [he, not_all hi2 hw]; simp
        repeat' (first | (refine wpc_split _ (fun hc => ?_) (fun hc => ?_) <;> (try simp at hc)) | (refine ww_split _ (fun hc => ?_) (fun hc => ?_) <;> (try simp at hc)) | (refine wp_drawF (by kernel_rfl) ?_) | (refine wk_yldW _ ?_) | (refine layOwe _ (by kernel_rfl) ?_) | (refine owe ?_ (fun ho => ?_)) | (simp (disch := first | assumption | omega | (simp; done) | (simp; omega)) [B0, B1, B6, eS, hw, -getElem?_pos, List.getElem?_cons_zero, List.getElem?_cons_succ]))
        rw [h2]
      | true =>
        repeat' (first | (refine wpc_split _ (fun hc => ?_) (fun hc => ?_) <;> (try simp at hc)) | (refine ww_split _ (fun hc => ?_) (fun hc => ?_) <;> (try simp at hc)) | (refine wp_drawF (by kernel_rfl) ?_) | (refine wk_yldW _ ?_) | (refine layOwe _ (by kernel_rfl) ?_) | (refine owe ?_ (fun ho => ?_)) | (simp (disch := first | assumption | omega | (simp; done) | (simp; omega)) [B0, B1, B6, eS, hw, -getElem?_pos, List.getElem?_cons_zero, List.getElem?_cons_succ]))
        exact Bih (Bm - 1) _ _ (by omega) ⟨i + 1, by simp [B0, B1, B6, A0, A1, A5], by simp [B0, B1, B6, A0, A1, A5], by simp [B0, B1, B6, A0, A1, A5], by omega, fun j hj => by (by_cases e : j = i; (subst e; exact hw); exact ht2 j (by omega))⟩
    · have hB := all_of_nth (l := b) (fun j hj => ht2 j (by omega))
      have h2 : E = 0 := by rw [he, hA, hB]; simp
      repeat' (first | (refine wpc_split _ (fun hc => ?_) (fun hc => ?_) <;> (try simp at hc)) | (refine ww_split _ (fun hc => ?_) (fun hc => ?_) <;> (try simp at hc)) | (refine wp_drawF (by kernel_rfl) ?_) | (refine wk_yldW _ ?_) | (refine layOwe _ (by kernel_rfl) ?_) | (refine owe ?_ (fun ho => ?_)) | (simp (disch := first | assumption | omega | (simp; done) | (simp; omega)) [B0, B1, B6, -getElem?_pos, List.getElem?_cons_zero, List.getElem?_cons_succ]))
      rw [h2]
@[simp] theorem S77 (a b : List (List UInt8)) (hs : a.length < 1099511627776 ∧ b.length < 1099511627776) (ha : ∀ x ∈ a, x.length < 1099511627776) (hb : ∀ x ∈ b, x.length < 1099511627776) (q1 q2 : Fl) (hh : Heap) : Ci cfg (.func (.func 77) [] []) [R  q1 eS a, R  q2 eS b] hh = some (.ret (.int .i64 (errS a b)), hh) :=
  Ci_K cfg rfl rfl (by simp) (by simp) (C77 a b hs ha hb)
theorem C61 (q : Bool) (e : Int) : Kc cfg 61 [.bool q, .int .i64 e] ((if q = true then .ret (.tuple []) else .panic (.iface 25 (.int .i64 e)))) := by
  cases q with
  | true =>
    refine outS_of_wp cfg (fn := Tryd.f61) Tryd.func61 rfl (by simp [Tryd.f61]) ?_
    simp (disch := first | assumption | omega | (simp; done) | (simp; omega)) [-getElem?_pos, List.getElem?_cons_zero, List.getElem?_cons_succ, Tryd.f61]
    repeat' (first | (refine wpc_split _ (fun hc => ?_) (fun hc => ?_) <;> (try simp at hc)) | (refine ww_split _ (fun hc => ?_) (fun hc => ?_) <;> (try simp at hc)) | (refine wp_drawF (by kernel_rfl) ?_) | (refine wk_yldW _ ?_) | (refine layOwe _ (by kernel_rfl) ?_) | (refine owe ?_ (fun ho => ?_)) | (simp (disch := first | assumption | omega | (simp; done) | (simp; omega)) [-getElem?_pos, List.getElem?_cons_zero, List.getElem?_cons_succ]))
  | false =>
    refine outS_of_wp cfg (fn := Tryd.f61) Tryd.func61 rfl (by simp [Tryd.f61]) ?_
    simp (disch := first | assumption | omega | (simp; done) | (simp; omega)) [-getElem?_pos, List.getElem?_cons_zero, List.getElem?_cons_succ, Tryd.f61]
    repeat' (first | (refine wpc_split _ (fun hc => ?_) (fun hc => ?_) <;> (try simp at hc)) | (refine ww_split _ (fun hc => ?_) (fun hc => ?_) <;> (try simp at hc)) | (refine wp_drawF (by kernel_rfl) ?_) | (refine wk_yldW _ ?_) | (refine layOwe _ (by kernel_rfl) ?_) | (refine owe ?_ (fun ho => ?_)) | (simp (disch := first | assumption | omega | (simp; done) | (simp; omega)) [-getElem?_pos, List.getElem?_cons_zero, List.getElem?_cons_succ]))
@[simp] theorem S61 (q : Bool) (e : Int) (hh : Heap) : Ci cfg (.func (.func 61) [] []) [.bool q, .int .i64 e] hh = some ((if q = true then .ret (.tuple []) else .panic (.iface 25 (.int .i64 e))), hh) :=
  Ci_K cfg rfl rfl (by simp) (by simp) (C61 q e)
theorem C40 (a b : List (List UInt8)) (hs : a.length < 1099511627776 ∧ b.length < 1099511627776) (ha : ∀ x ∈ a, x.length < 1099511627776) (hb : ∀ x ∈ b, x.length < 1099511627776) : Kc cfg 40 [R fl0 eS a, R fl0 eS b] ((if errS a b = 0 then .ret (.agg [R fl0 eS a, R fl0 eS b]) else .panic (.iface 25 (.int .i64 (errS a b))))) := by
  by_cases hlg : 64 < a.length ∨ 64 < b.length
  · have he : errS a b = 2 := by unfold errS; rw [if_pos hlg]
    rw [he, if_neg (by decide)]
    have hmx : decide (max (a.length : Int) (b.length : Int) ≤ 64) = false := decide_eq_false (by omega)
    refine outS_of_wp cfg (fn := Tryd.f40) Tryd.func40 rfl (by simp [Tryd.f40]) ?_
    simp (disch := first | assumption | omega | (simp; done) | (simp; omega)) [-getElem?_pos, List.getElem?_cons_zero, List.getElem?_cons_succ, Tryd.f40, hmx]
    repeat' (first | (refine wpc_split _ (fun hc => ?_) (fun hc => ?_) <;> (try simp at hc)) | (refine ww_split _ (fun hc => ?_) (fun hc => ?_) <;> (try simp at hc)) | (refine wp_drawF (by kernel_rfl) ?_) | (refine wk_yldW _ ?_) | (refine layOwe _ (by kernel_rfl) ?_) | (refine owe ?_ (fun ho => ?_)) | (simp (disch := first | assumption | omega | (simp; done) | (simp; omega)) [hmx, -getElem?_pos, List.getElem?_cons_zero, List.getElem?_cons_succ]))
  have hmx : decide (max (a.length : Int) (b.length : Int) ≤ 64) = true := decide_eq_true (by omega)
  cases hA : a.all wordS with
  | false =>
    have he : errS a b = 210 := by unfold errS; rw [if_neg hlg, hA]; simp
    rw [he, if_neg (by decide)]
    refine outS_of_wp cfg (fn := Tryd.f40) Tryd.func40 rfl (by simp [Tryd.f40]) ?_
    simp (disch := first | assumption | omega | (simp; done) | (simp; omega)) [-getElem?_pos, List.getElem?_cons_zero, List.getElem?_cons_succ, Tryd.f40, hmx, hA]
    repeat' (first | (refine wpc_split _ (fun hc => ?_) (fun hc => ?_) <;> (try simp at hc)) | (refine ww_split _ (fun hc => ?_) (fun hc => ?_) <;> (try simp at hc)) | (refine wp_drawF (by kernel_rfl) ?_) | (refine wk_yldW _ ?_) | (refine layOwe _ (by kernel_rfl) ?_) | (refine owe ?_ (fun ho => ?_)) | (simp (disch := first | assumption | omega | (simp; done) | (simp; omega)) [hmx, hA, -getElem?_pos, List.getElem?_cons_zero, List.getElem?_cons_succ]))
  | true =>
    cases hB : b.all wordS with
    | false =>
      have he : errS a b = 210 := by unfold errS; rw [if_neg hlg, hA, hB]; simp
      rw [he, if_neg (by decide)]
      refine outS_of_wp cfg (fn := Tryd.f40) Tryd.func40 rfl (by simp [Tryd.f40]) ?_
      simp (disch := first | assumption | omega | (simp; done) | (simp; omega)) [-getElem?_pos, List.getElem?_cons_zero, List.getElem?_cons_succ, Tryd.f40, hmx, hA, hB]
      repeat' (first | (refine wpc_split _ (fun hc => ?_) (fun hc => ?_) <;> (try simp at hc)) | (refine ww_split _ (fun hc => ?_) (fun hc => ?_) <;> (try simp at hc)) | (refine wp_drawF (by kernel_rfl) ?_) | (refine wk_yldW _ ?_) | (refine layOwe _ (by kernel_rfl) ?_) | (refine owe ?_ (fun ho => ?_)) | (simp (disch := first | assumption | omega | (simp; done) | (simp; omega)) [hmx, hA, hB, -getElem?_pos, List.getElem?_cons_zero, List.getElem?_cons_succ]))
    | true =>
      have he : errS a b = 0 := by unfold errS; rw [if_neg hlg, hA, hB]; simp
      rw [he, if_pos rfl]
      refine outS_of_wp cfg (fn := Tryd.f40) Tryd.func40 rfl (by simp [Tryd.f40]) ?_
      simp (disch := first | assumption | omega | (simp; done) | (simp; omega)) [-getElem?_pos, List.getElem?_cons_zero, List.getElem?_cons_succ, Tryd.f40, hmx, hA, hB]
      repeat' (first | (refine wpc_split _ (fun hc => ?_) (fun hc => ?_) <;> (try simp at hc)) | (refine ww_split _ (fun hc => ?_) (fun hc => ?_) <;> (try simp at hc)) | (refine wp_drawF (by kernel_rfl) ?_) | (refine wk_yldW _ ?_) | (refine layOwe _ (by kernel_rfl) ?_) | (refine owe ?_ (fun ho => ?_)) | (simp (disch := first | assumption | omega | (simp; done) | (simp; omega)) [hmx, hA, hB, -getElem?_pos, List.getElem?_cons_zero, List.getElem?_cons_succ]))
@[simp] theorem S40 (a b : List (List UInt8)) (hs : a.length < 1099511627776 ∧ b.length < 1099511627776) (ha : ∀ x ∈ a, x.length < 1099511627776) (hb : ∀ x ∈ b, x.length < 1099511627776) (q1 q2 : Fl) (hh : Heap) : Ci cfg (.func (.func 40) [] []) [R  q1 eS a, R  q2 eS b] hh = some ((if errS a b = 0 then .ret (.agg [R fl0 eS a, R fl0 eS b]) else .panic (.iface 25 (.int .i64 (errS a b)))), hh) :=
  Ci_K cfg rfl rfl (by simp) (by simp) (C40 a b hs ha hb)
/-! ### Places and steps -/
theorem C43 (a b : List (List UInt8)) (hs : a.length < 1099511627776 ∧ b.length < 1099511627776) : Kc cfg 43 [.agg [R fl0 eS a, R fl0 eS b]] (.ret (.agg [.int .i64 a.length, .int .i64 b.length])) := by
  refine outS_of_wp cfg (fn := Tryd.f43) Tryd.func43 rfl (by simp [Tryd.f43]) ?_
  simp (disch := first | assumption | omega | (simp; done) | (simp; omega)) [-getElem?_pos, List.getElem?_cons_zero, List.getElem?_cons_succ, Tryd.f43]
  repeat' (first | (refine wpc_split _ (fun hc => ?_) (fun hc => ?_) <;> (try simp at hc)) | (refine ww_split _ (fun hc => ?_) (fun hc => ?_) <;> (try simp at hc)) | (refine wp_drawF (by kernel_rfl) ?_) | (refine wk_yldW _ ?_) | (refine layOwe _ (by kernel_rfl) ?_) | (refine owe ?_ (fun ho => ?_)) | (simp (disch := first | assumption | omega | (simp; done) | (simp; omega)) [-getElem?_pos, List.getElem?_cons_zero, List.getElem?_cons_succ]))
@[simp] theorem S43 (a b : List (List UInt8)) (hs : a.length < 1099511627776 ∧ b.length < 1099511627776) (q1 q2 : Fl) (hh : Heap) : Ci cfg (.func (.func 43) [] []) [.agg [R  q1 eS a, R  q2 eS b]] hh = some (.ret (.agg [.int .i64 a.length, .int .i64 b.length]), hh) :=
  Ci_K cfg rfl rfl (by simp) (by simp) (C43 a b hs)
theorem C66 (a b : List (List UInt8)) (i k : Nat) (hs : a.length < 1099511627776 ∧ b.length < 1099511627776) (hi : i ≤ a.length) (hk : k ≤ b.length) : Kc cfg 66 [.agg [R fl0 eS a, R fl0 eS b], .agg [.int .i64 i, .int .i64 k]] (.ret (.tuple [.agg [.int .i64 (i + 1), .int .i64 (k + 1)], .int .i64 0, .bool (decide (i < a.length ∧ k < b.length ∧ nth a i = nth b k))])) := by
  by_cases h1 : i < a.length
  · by_cases h2 : k < b.length
    · skip
      refine outS_of_wp cfg (fn := Tryd.f66) Tryd.func66 rfl (by simp [Tryd.f66]) ?_
      simp (disch := first | assumption | omega | (simp; done) | (simp; omega)) [-getElem?_pos, List.getElem?_cons_zero, List.getElem?_cons_succ, Tryd.f66]
      repeat' (first | (refine wpc_split _ (fun hc => ?_) (fun hc => ?_) <;> (try simp at hc)) | (refine ww_split _ (fun hc => ?_) (fun hc => ?_) <;> (try simp at hc)) | (refine wp_drawT _ (by kernel_rfl) ?_) | (refine wk_yldW _ ?_) | (refine layOwe _ (by kernel_rfl) ?_) | (refine owe ?_ (fun ho => ?_)) | (simp (disch := first | assumption | omega | (simp; done) | (simp; omega)) [eS, -getElem?_pos, List.getElem?_cons_zero, List.getElem?_cons_succ]))
      all_goals first | (rw [Bool.eq_iff_iff]; simp [h1, h2]; done) | (intros; omega)
    · skip
      refine outS_of_wp cfg (fn := Tryd.f66) Tryd.func66 rfl (by simp [Tryd.f66]) ?_
      simp (disch := first | assumption | omega | (simp; done) | (simp; omega)) [-getElem?_pos, List.getElem?_cons_zero, List.getElem?_cons_succ, Tryd.f66]
      repeat' (first | (refine wpc_split _ (fun hc => ?_) (fun hc => ?_) <;> (try simp at hc)) | (refine ww_split _ (fun hc => ?_) (fun hc => ?_) <;> (try simp at hc)) | (refine wp_drawT _ (by kernel_rfl) ?_) | (refine wk_yldW _ ?_) | (refine layOwe _ (by kernel_rfl) ?_) | (refine owe ?_ (fun ho => ?_)) | (simp (disch := first | assumption | omega | (simp; done) | (simp; omega)) [eS, -getElem?_pos, List.getElem?_cons_zero, List.getElem?_cons_succ]))
      all_goals first | (rw [Bool.eq_iff_iff]; simp [h1, h2]; done) | (intros; omega)
  · skip
    refine outS_of_wp cfg (fn := Tryd.f66) Tryd.func66 rfl (by simp [Tryd.f66]) ?_
    simp (disch := first | assumption | omega | (simp; done) | (simp; omega)) [-getElem?_pos, List.getElem?_cons_zero, List.getElem?_cons_succ, Tryd.f66]
    repeat' (first | (refine wpc_split _ (fun hc => ?_) (fun hc => ?_) <;> (try simp at hc)) | (refine ww_split _ (fun hc => ?_) (fun hc => ?_) <;> (try simp at hc)) | (refine wp_drawT _ (by kernel_rfl) ?_) | (refine wk_yldW _ ?_) | (refine layOwe _ (by kernel_rfl) ?_) | (refine owe ?_ (fun ho => ?_)) | (simp (disch := first | assumption | omega | (simp; done) | (simp; omega)) [eS, -getElem?_pos, List.getElem?_cons_zero, List.getElem?_cons_succ]))
    all_goals first | (rw [Bool.eq_iff_iff]; simp [h1]; done) | (intros; omega)
@[simp] theorem S66 (a b : List (List UInt8)) (i k : Nat) (hs : a.length < 1099511627776 ∧ b.length < 1099511627776) (hi : i ≤ a.length) (hk : k ≤ b.length) (q1 q2 : Fl) (hh : Heap) : Ci cfg (.func (.func 66) [] []) [.agg [R  q1 eS a, R  q2 eS b], .agg [.int .i64 i, .int .i64 k]] hh = some (.ret (.tuple [.agg [.int .i64 (i + 1), .int .i64 (k + 1)], .int .i64 0, .bool (decide (i < a.length ∧ k < b.length ∧ nth a i = nth b k))]), hh) :=
  Ci_K cfg rfl rfl (by simp) (by simp) (C66 a b i k hs hi hk)
theorem C67 (a b : List (List UInt8)) (i k : Nat) (hs : a.length < 1099511627776 ∧ b.length < 1099511627776) (hi : i ≤ a.length) (hk : k ≤ b.length) : Kc cfg 67 [.agg [R fl0 eS a, R fl0 eS b], .agg [.int .i64 i, .int .i64 k]] (.ret (.tuple [.agg [.int .i64 (i + 1), .int .i64 (k + 1)], .int .i64 1, .bool (decide (i < a.length ∧ k < b.length ∧ ¬ nth a i = nth b k))])) := by
  by_cases h1 : i < a.length
  · by_cases h2 : k < b.length
    · skip
      refine outS_of_wp cfg (fn := Tryd.f67) Tryd.func67 rfl (by simp [Tryd.f67]) ?_
      simp (disch := first | assumption | omega | (simp; done) | (simp; omega)) [-getElem?_pos, List.getElem?_cons_zero, List.getElem?_cons_succ, Tryd.f67]
      repeat' (first | (refine wpc_split _ (fun hc => ?_) (fun hc => ?_) <;> (try simp at hc)) | (refine ww_split _ (fun hc => ?_) (fun hc => ?_) <;> (try simp at hc)) | (refine wp_drawT _ (by kernel_rfl) ?_) | (refine wk_yldW _ ?_) | (refine layOwe _ (by kernel_rfl) ?_) | (refine owe ?_ (fun ho => ?_)) | (simp (disch := first | assumption | omega | (simp; done) | (simp; omega)) [eS, -getElem?_pos, List.getElem?_cons_zero, List.getElem?_cons_succ]))
      all_goals first | (rw [Bool.eq_iff_iff]; simp [h1, h2]; done) | (intros; omega)
    · skip
      refine outS_of_wp cfg (fn := Tryd.f67) Tryd.func67 rfl (by simp [Tryd.f67]) ?_
      simp (disch := first | assumption | omega | (simp; done) | (simp; omega)) [-getElem?_pos, List.getElem?_cons_zero, List.getElem?_cons_succ, Tryd.f67]
      repeat' (first | (refine wpc_split _ (fun hc => ?_) (fun hc => ?_) <;> (try simp at hc)) | (refine ww_split _ (fun hc => ?_) (fun hc => ?_) <;> (try simp at hc)) | (refine wp_drawT _ (by kernel_rfl) ?_) | (refine wk_yldW _ ?_) | (refine layOwe _ (by kernel_rfl) ?_) | (refine owe ?_ (fun ho => ?_)) | (simp (disch := first | assumption | omega | (simp; done) | (simp; omega)) [eS, -getElem?_pos, List.getElem?_cons_zero, List.getElem?_cons_succ]))
      all_goals first | (rw [Bool.eq_iff_iff]; simp [h1, h2]; done) | (intros; omega)
  · skip
    refine outS_of_wp cfg (fn := Tryd.f67) Tryd.func67 rfl (by simp [Tryd.f67]) ?_
    simp (disch := first | assumption | omega | (simp; done) | (simp; omega)) [-getElem?_pos, List.getElem?_cons_zero, List.getElem?_cons_succ, Tryd.f67]
    repeat' (first | (refine wpc_split _ (fun hc => ?_) (fun hc => ?_) <;> (try simp at hc)) | (refine ww_split _ (fun hc => ?_) (fun hc => ?_) <;> (try simp at hc)) | (refine wp_drawT _ (by kernel_rfl) ?_) | (refine wk_yldW _ ?_) | (refine layOwe _ (by kernel_rfl) ?_) | (refine owe ?_ (fun ho => ?_)) | (simp (disch := first | assumption | omega | (simp; done) | (simp; omega)) [eS, -getElem?_pos, List.getElem?_cons_zero, List.getElem?_cons_succ]))
    all_goals first | (rw [Bool.eq_iff_iff]; simp [h1]; done) | (intros; omega)
@[simp] theorem S67 (a b : List (List UInt8)) (i k : Nat) (hs : a.length < 1099511627776 ∧ b.length < 1099511627776) (hi : i ≤ a.length) (hk : k ≤ b.length) (q1 q2 : Fl) (hh : Heap) : Ci cfg (.func (.func 67) [] []) [.agg [R  q1 eS a, R  q2 eS b], .agg [.int .i64 i, .int .i64 k]] hh = some (.ret (.tuple [.agg [.int .i64 (i + 1), .int .i64 (k + 1)], .int .i64 1, .bool (decide (i < a.length ∧ k < b.length ∧ ¬ nth a i = nth b k))]), hh) :=
  Ci_K cfg rfl rfl (by simp) (by simp) (C67 a b i k hs hi hk)
theorem C68 (a b : List (List UInt8)) (i k : Nat) (hs : a.length < 1099511627776 ∧ b.length < 1099511627776) (hi : i ≤ a.length) (hk : k ≤ b.length) : Kc cfg 68 [.agg [R fl0 eS a, R fl0 eS b], .agg [.int .i64 i, .int .i64 k]] (.ret (.tuple [.agg [.int .i64 (i + 1), .int .i64 k], .int .i64 1, .bool (decide (i < a.length))])) := by
  refine outS_of_wp cfg (fn := Tryd.f68) Tryd.func68 rfl (by simp [Tryd.f68]) ?_
  simp (disch := first | assumption | omega | (simp; done) | (simp; omega)) [-getElem?_pos, List.getElem?_cons_zero, List.getElem?_cons_succ, Tryd.f68]
  repeat' (first | (refine wpc_split _ (fun hc => ?_) (fun hc => ?_) <;> (try simp at hc)) | (refine ww_split _ (fun hc => ?_) (fun hc => ?_) <;> (try simp at hc)) | (refine wp_drawT _ (by kernel_rfl) ?_) | (refine wk_yldW _ ?_) | (refine layOwe _ (by kernel_rfl) ?_) | (refine owe ?_ (fun ho => ?_)) | (simp (disch := first | assumption | omega | (simp; done) | (simp; omega)) [eS, -getElem?_pos, List.getElem?_cons_zero, List.getElem?_cons_succ]))
@[simp] theorem S68 (a b : List (List UInt8)) (i k : Nat) (hs : a.length < 1099511627776 ∧ b.length < 1099511627776) (hi : i ≤ a.length) (hk : k ≤ b.length) (q1 q2 : Fl) (hh : Heap) : Ci cfg (.func (.func 68) [] []) [.agg [R  q1 eS a, R  q2 eS b], .agg [.int .i64 i, .int .i64 k]] hh = some (.ret (.tuple [.agg [.int .i64 (i + 1), .int .i64 k], .int .i64 1, .bool (decide (i < a.length))]), hh) :=
  Ci_K cfg rfl rfl (by simp) (by simp) (C68 a b i k hs hi hk)
theorem C69 (a b : List (List UInt8)) (i k : Nat) (hs : a.length < 1099511627776 ∧ b.length < 1099511627776) (hi : i ≤ a.length) (hk : k ≤ b.length) : Kc cfg 69 [.agg [R fl0 eS a, R fl0 eS b], .agg [.int .i64 i, .int .i64 k]] (.ret (.tuple [.agg [.int .i64 i, .int .i64 (k + 1)], .int .i64 1, .bool (decide (k < b.length))])) := by
  refine outS_of_wp cfg (fn := Tryd.f69) Tryd.func69 rfl (by simp [Tryd.f69]) ?_
  simp (disch := first | assumption | omega | (simp; done) | (simp; omega)) [-getElem?_pos, List.getElem?_cons_zero, List.getElem?_cons_succ, Tryd.f69]
  repeat' (first | (refine wpc_split _ (fun hc => ?_) (fun hc => ?_) <;> (try simp at hc)) | (refine ww_split _ (fun hc => ?_) (fun hc => ?_) <;> (try simp at hc)) | (refine wp_drawT _ (by kernel_rfl) ?_) | (refine wk_yldW _ ?_) | (refine layOwe _ (by kernel_rfl) ?_) | (refine owe ?_ (fun ho => ?_)) | (simp (disch := first | assumption | omega | (simp; done) | (simp; omega)) [eS, -getElem?_pos, List.getElem?_cons_zero, List.getElem?_cons_succ]))
@[simp] theorem S69 (a b : List (List UInt8)) (i k : Nat) (hs : a.length < 1099511627776 ∧ b.length < 1099511627776) (hi : i ≤ a.length) (hk : k ≤ b.length) (q1 q2 : Fl) (hh : Heap) : Ci cfg (.func (.func 69) [] []) [.agg [R  q1 eS a, R  q2 eS b], .agg [.int .i64 i, .int .i64 k]] hh = some (.ret (.tuple [.agg [.int .i64 i, .int .i64 (k + 1)], .int .i64 1, .bool (decide (k < b.length))]), hh) :=
  Ci_K cfg rfl rfl (by simp) (by simp) (C69 a b i k hs hi hk)
theorem C42  : Kc cfg 42 [] (.ret (.row false false [.func (.func 66) [] [], .func (.func 67) [] [], .func (.func 68) [] [], .func (.func 69) [] []] 4 none)) := by
  refine outS_of_wp cfg (fn := Tryd.f42) Tryd.func42 rfl (by simp [Tryd.f42]) ?_
  simp (disch := first | assumption | omega | (simp; done) | (simp; omega)) [-getElem?_pos, List.getElem?_cons_zero, List.getElem?_cons_succ, Tryd.f42]
  repeat' (first | (refine wpc_split _ (fun hc => ?_) (fun hc => ?_) <;> (try simp at hc)) | (refine ww_split _ (fun hc => ?_) (fun hc => ?_) <;> (try simp at hc)) | (refine wp_drawF (by kernel_rfl) ?_) | (refine wk_yldW _ ?_) | (refine layOwe _ (by kernel_rfl) ?_) | (refine owe ?_ (fun ho => ?_)) | (simp (disch := first | assumption | omega | (simp; done) | (simp; omega)) [-getElem?_pos, List.getElem?_cons_zero, List.getElem?_cons_succ]))
@[simp] theorem S42  (hh : Heap) : Ci cfg (.func (.func 42) [] []) [] hh = some (.ret (.row false false [.func (.func 66) [] [], .func (.func 67) [] [], .func (.func 68) [] [], .func (.func 69) [] []] 4 none), hh) :=
  Ci_K cfg rfl rfl (by simp) (by simp) (C42 )
/-! ### One step, as the specification has it -/
def stO (a b : List (List UInt8)) (i k : Nat) (s : Int) : Bool :=
  if s = 1 then decide (i < a.length ∧ k < b.length ∧ nth a i = nth b k) else if s = 2 then decide (i < a.length ∧ k < b.length ∧ ¬ nth a i = nth b k)
  else if s = 3 then decide (i < a.length) else if s = 4 then decide (k < b.length) else false
def stI (i : Nat) (s : Int) : Int := if s = 1 ∨ s = 2 ∨ s = 3 then i + 1 else if s = 4 then i else 0
def stK (k : Nat) (s : Int) : Int := if s = 1 ∨ s = 2 ∨ s = 4 then k + 1 else if s = 3 then k else 0
def stC (s : Int) : Int := if s = 2 ∨ s = 3 ∨ s = 4 then 1 else 0
theorem C79 (a b : List (List UInt8)) (i k : Nat) (s : Int) (hs : a.length < 1099511627776 ∧ b.length < 1099511627776) (hi : i ≤ a.length) (hk : k ≤ b.length) : Kc cfg 79 [R fl0 eS a, R fl0 eS b, .int .i64 i, .int .i64 k, .int .i64 s] (.ret (.tuple [.int .i64 (stI i s), .int .i64 (stK k s), .int .i64 (stC s), .bool (stO a b i k s)])) := by
  by_cases s1 : s = 1
  · subst s1
    by_cases h1 : i < a.length
    · by_cases h2 : k < b.length
      · skip
        refine outS_of_wp cfg (fn := Tryd.f79) Tryd.func79 rfl (by simp [Tryd.f79]) ?_
        simp (disch := first | assumption | omega | (simp; done) | (simp; omega)) [-getElem?_pos, List.getElem?_cons_zero, List.getElem?_cons_succ, Tryd.f79]
        repeat' (first | (refine wpc_split _ (fun hc => ?_) (fun hc => ?_) <;> (try simp at hc)) | (refine ww_split _ (fun hc => ?_) (fun hc => ?_) <;> (try simp at hc)) | (refine wp_drawF (by kernel_rfl) ?_) | (refine wk_yldW _ ?_) | (refine layOwe _ (by kernel_rfl) ?_) | (refine owe ?_ (fun ho => ?_)) | (simp (disch := first | assumption | omega | (simp; done) | (simp; omega)) [eS, -getElem?_pos, List.getElem?_cons_zero, List.getElem?_cons_succ]))
        simp [stO, stI, stK, stC, h1, h2]
        try (rw [Bool.eq_iff_iff]; simp)
      · skip
        refine outS_of_wp cfg (fn := Tryd.f79) Tryd.func79 rfl (by simp [Tryd.f79]) ?_
        simp (disch := first | assumption | omega | (simp; done) | (simp; omega)) [-getElem?_pos, List.getElem?_cons_zero, List.getElem?_cons_succ, Tryd.f79]
        repeat' (first | (refine wpc_split _ (fun hc => ?_) (fun hc => ?_) <;> (try simp at hc)) | (refine ww_split _ (fun hc => ?_) (fun hc => ?_) <;> (try simp at hc)) | (refine wp_drawF (by kernel_rfl) ?_) | (refine wk_yldW _ ?_) | (refine layOwe _ (by kernel_rfl) ?_) | (refine owe ?_ (fun ho => ?_)) | (simp (disch := first | assumption | omega | (simp; done) | (simp; omega)) [eS, -getElem?_pos, List.getElem?_cons_zero, List.getElem?_cons_succ]))
        simp [stO, stI, stK, stC, h1, h2]
        try (rw [Bool.eq_iff_iff]; simp)
    · skip
      refine outS_of_wp cfg (fn := Tryd.f79) Tryd.func79 rfl (by simp [Tryd.f79]) ?_
      simp (disch := first | assumption | omega | (simp; done) | (simp; omega)) [-getElem?_pos, List.getElem?_cons_zero, List.getElem?_cons_succ, Tryd.f79]
      repeat' (first | (refine wpc_split _ (fun hc => ?_) (fun hc => ?_) <;> (try simp at hc)) | (refine ww_split _ (fun hc => ?_) (fun hc => ?_) <;> (try simp at hc)) | (refine wp_drawF (by kernel_rfl) ?_) | (refine wk_yldW _ ?_) | (refine layOwe _ (by kernel_rfl) ?_) | (refine owe ?_ (fun ho => ?_)) | (simp (disch := first | assumption | omega | (simp; done) | (simp; omega)) [eS, -getElem?_pos, List.getElem?_cons_zero, List.getElem?_cons_succ]))
      simp [stO, stI, stK, stC, h1]
  by_cases s2 : s = 2
  · subst s2
    by_cases h1 : i < a.length
    · by_cases h2 : k < b.length
      · skip
        refine outS_of_wp cfg (fn := Tryd.f79) Tryd.func79 rfl (by simp [Tryd.f79]) ?_
        simp (disch := first | assumption | omega | (simp; done) | (simp; omega)) [-getElem?_pos, List.getElem?_cons_zero, List.getElem?_cons_succ, Tryd.f79]
        repeat' (first | (refine wpc_split _ (fun hc => ?_) (fun hc => ?_) <;> (try simp at hc)) | (refine ww_split _ (fun hc => ?_) (fun hc => ?_) <;> (try simp at hc)) | (refine wp_drawF (by kernel_rfl) ?_) | (refine wk_yldW _ ?_) | (refine layOwe _ (by kernel_rfl) ?_) | (refine owe ?_ (fun ho => ?_)) | (simp (disch := first | assumption | omega | (simp; done) | (simp; omega)) [eS, -getElem?_pos, List.getElem?_cons_zero, List.getElem?_cons_succ]))
        simp [stO, stI, stK, stC, h1, h2]
        try (rw [Bool.eq_iff_iff]; simp)
      · skip
        refine outS_of_wp cfg (fn := Tryd.f79) Tryd.func79 rfl (by simp [Tryd.f79]) ?_
        simp (disch := first | assumption | omega | (simp; done) | (simp; omega)) [-getElem?_pos, List.getElem?_cons_zero, List.getElem?_cons_succ, Tryd.f79]
        repeat' (first | (refine wpc_split _ (fun hc => ?_) (fun hc => ?_) <;> (try simp at hc)) | (refine ww_split _ (fun hc => ?_) (fun hc => ?_) <;> (try simp at hc)) | (refine wp_drawF (by kernel_rfl) ?_) | (refine wk_yldW _ ?_) | (refine layOwe _ (by kernel_rfl) ?_) | (refine owe ?_ (fun ho => ?_)) | (simp (disch := first | assumption | omega | (simp; done) | (simp; omega)) [eS, -getElem?_pos, List.getElem?_cons_zero, List.getElem?_cons_succ]))
        simp [stO, stI, stK, stC, h1, h2]
        try (rw [Bool.eq_iff_iff]; simp)
    · skip
      refine outS_of_wp cfg (fn := Tryd.f79) Tryd.func79 rfl (by simp [Tryd.f79]) ?_
      simp (disch := first | assumption | omega | (simp; done) | (simp; omega)) [-getElem?_pos, List.getElem?_cons_zero, List.getElem?_cons_succ, Tryd.f79]
      repeat' (first | (refine wpc_split _ (fun hc => ?_) (fun hc => ?_) <;> (try simp at hc)) | (refine ww_split _ (fun hc => ?_) (fun hc => ?_) <;> (try simp at hc)) | (refine wp_drawF (by kernel_rfl) ?_) | (refine wk_yldW _ ?_) | (refine layOwe _ (by kernel_rfl) ?_) | (refine owe ?_ (fun ho => ?_)) | (simp (disch := first | assumption | omega | (simp; done) | (simp; omega)) [eS, -getElem?_pos, List.getElem?_cons_zero, List.getElem?_cons_succ]))
      simp [stO, stI, stK, stC, h1]
  by_cases s3 : s = 3
  · subst s3
    refine outS_of_wp cfg (fn := Tryd.f79) Tryd.func79 rfl (by simp [Tryd.f79]) ?_
    simp (disch := first | assumption | omega | (simp; done) | (simp; omega)) [-getElem?_pos, List.getElem?_cons_zero, List.getElem?_cons_succ, Tryd.f79]
    repeat' (first | (refine wpc_split _ (fun hc => ?_) (fun hc => ?_) <;> (try simp at hc)) | (refine ww_split _ (fun hc => ?_) (fun hc => ?_) <;> (try simp at hc)) | (refine wp_drawF (by kernel_rfl) ?_) | (refine wk_yldW _ ?_) | (refine layOwe _ (by kernel_rfl) ?_) | (refine owe ?_ (fun ho => ?_)) | (simp (disch := first | assumption | omega | (simp; done) | (simp; omega)) [eS, -getElem?_pos, List.getElem?_cons_zero, List.getElem?_cons_succ]))
    all_goals simp [stO, stI, stK, stC]
  by_cases s4 : s = 4
  · subst s4
    refine outS_of_wp cfg (fn := Tryd.f79) Tryd.func79 rfl (by simp [Tryd.f79]) ?_
    simp (disch := first | assumption | omega | (simp; done) | (simp; omega)) [-getElem?_pos, List.getElem?_cons_zero, List.getElem?_cons_succ, Tryd.f79]
    repeat' (first | (refine wpc_split _ (fun hc => ?_) (fun hc => ?_) <;> (try simp at hc)) | (refine ww_split _ (fun hc => ?_) (fun hc => ?_) <;> (try simp at hc)) | (refine wp_drawF (by kernel_rfl) ?_) | (refine wk_yldW _ ?_) | (refine layOwe _ (by kernel_rfl) ?_) | (refine owe ?_ (fun ho => ?_)) | (simp (disch := first | assumption | omega | (simp; done) | (simp; omega)) [eS, -getElem?_pos, List.getElem?_cons_zero, List.getElem?_cons_succ]))
    all_goals simp [stO, stI, stK, stC]
  refine outS_of_wp cfg (fn := Tryd.f79) Tryd.func79 rfl (by simp [Tryd.f79]) ?_
  simp (disch := first | assumption | omega | (simp; done) | (simp; omega)) [-getElem?_pos, List.getElem?_cons_zero, List.getElem?_cons_succ, Tryd.f79]
  repeat' (first | (refine wpc_split _ (fun hc => ?_) (fun hc => ?_) <;> (try simp at hc)) | (refine ww_split _ (fun hc => ?_) (fun hc => ?_) <;> (try simp at hc)) | (refine wp_drawF (by kernel_rfl) ?_) | (refine wk_yldW _ ?_) | (refine layOwe _ (by kernel_rfl) ?_) | (refine owe ?_ (fun ho => ?_)) | (simp (disch := first | assumption | omega | (simp; done) | (simp; omega)) [eS, s1, s2, s3, s4, -getElem?_pos, List.getElem?_cons_zero, List.getElem?_cons_succ]))
  all_goals simp [stO, stI, stK, stC, s1, s2, s3, s4]
@[simp] theorem S79 (a b : List (List UInt8)) (i k : Nat) (s : Int) (hs : a.length < 1099511627776 ∧ b.length < 1099511627776) (hi : i ≤ a.length) (hk : k ≤ b.length) (q1 q2 : Fl) (hh : Heap) : Ci cfg (.func (.func 79) [] []) [R  q1 eS a, R  q2 eS b, .int .i64 i, .int .i64 k, .int .i64 s] hh = some (.ret (.tuple [.int .i64 (stI i s), .int .i64 (stK k s), .int .i64 (stC s), .bool (stO a b i k s)]), hh) :=
  Ci_K cfg rfl rfl (by simp) (by simp) (C79 a b i k s hs hi hk)
end Go.Ab
