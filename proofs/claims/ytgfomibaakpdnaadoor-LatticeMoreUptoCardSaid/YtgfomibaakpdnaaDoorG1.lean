/- Layer 20 (lattice): Check, sums of costs. -/
import Derived.Test.YtgfomibaakpdnaaDoorT7
import Derived.Test.YtgfomibaakpdnaaDoorP20d
set_option linter.unusedVariables false
set_option linter.unusedSimpArgs false
set_option linter.unusedSectionVars false
set_option linter.deprecated false
namespace Go.Ab
open Go.Proofs
set_option maxRecDepth 100000
set_option maxHeartbeats 4000000
def ixB (l : List Bool) (v : Bool) : Int := match (List.range l.length).find? (fun i => nth l i == v) with
  | some i => i
  | none => -1
theorem ixB_some {l : List Bool} {v : Bool} {i : Nat} (hi : i < l.length) (h : nth l i = v) (hb : ∀ j, j < i → ¬ nth l j = v) : ixB l v = i := by
  unfold ixB; rw [findTo_some hi (by rw [h]; simp) (fun j hj => by simpa using hb j hj)]
theorem ixB_none {l : List Bool} {v : Bool} (h : ∀ j, j < l.length → ¬ nth l j = v) : ixB l v = -1 := by
  unfold ixB; rw [findTo_none (fun j hj => by simpa using h j hj)]
def allB (l : List Bool) : Bool := l.all id
theorem ixB_all (l : List Bool) : decide (0 ≤ ixB l false) = !allB l := by
  cases hb : allB l with
  | true =>
    rw [ixB_none (fun j hj => by have := List.all_eq_true.1 hb _ (nth_mem hj); simp at this; rw [this]; simp)]; rfl
  | false =>
    unfold ixB
    split
    · simp
    · rename_i hn
      rw [List.find?_eq_none] at hn
      have : allB l = true := by
        unfold allB
        rw [List.all_eq_true]
        intro x hx
        obtain ⟨j, hj, rfl⟩ := List.mem_iff_getElem.1 hx
        have := hn j (by simpa using hj)
        rw [← nth_eq hj]
        simpa using this
      rw [this] at hb; cases hb
theorem C47 (l : List Bool) (v : Bool) (hs : l.length < 1099511627776) : Kc cfg 47 [R fl0 eBo l, .bool v] (.ret (.int .i64 (ixB l v))) := by
  refine outS_of_wp cfg (fn := Tryd.f47) Tryd.func47 rfl (by simp [Tryd.f47]) ?_
  simp (disch := first | assumption | omega | (simp; done) | (simp; omega)) [-getElem?_pos, List.getElem?_cons_zero, List.getElem?_cons_succ, Tryd.f47]
  repeat' (first | (refine wpc_split _ (fun hc => ?_) (fun hc => ?_) <;> (try simp at hc)) | (refine ww_split _ (fun hc => ?_) (fun hc => ?_) <;> (try simp at hc)) | (refine wp_drawF (by kernel_rfl) ?_) | (refine wk_yldW _ ?_) | (refine layOwe _ (by kernel_rfl) ?_) | (refine owe ?_ (fun ho => ?_)) | (simp (disch := first | assumption | omega | (simp; done) | (simp; omega)) [-getElem?_pos, List.getElem?_cons_zero, List.getElem?_cons_succ]))
  refine wp_loopE cfg rfl (fun f0 h0 m fr h => ∃ i : Nat, fr 0 = f0 0 ∧ fr 1 = f0 1 ∧ fr 7 = f0 7 ∧ fr 8 = .int .i64 i ∧ (i + m = l.length) ∧ (∀ j, j < i → ¬ nth l j = v)) (l.length) _ _ ⟨0, rfl, rfl, rfl, by first | rfl | (simp; done) | (simp [R]; done) | simp [R], by first | rfl | (simp; done) | omega, fun j hj => by omega⟩ ?_
  rintro Am Af Ah ⟨i, A0, A1, A7, A8, hm, ht⟩ Aih
  try simp at A0 A1 A7
  by_cases hi : i < l.length
  · by_cases hw : nth l i = v
    · have hw2 : (v == nth l i) = true := by rw [hw]; simp
      repeat' (first | (refine wpc_split _ (fun hc => ?_) (fun hc => ?_) <;> (try simp at hc)) | (refine ww_split _ (fun hc => ?_) (fun hc => ?_) <;> (try simp at hc)) | (refine wp_drawF (by kernel_rfl) ?_) | (refine wk_yldW _ ?_) | (refine layOwe _ (by kernel_rfl) ?_) | (refine owe ?_ (fun ho => ?_)) | (simp (disch := first | assumption | omega | (simp; done) | (simp; omega)) [A0, A1, A7, A8, eBo, hw2, -getElem?_pos, List.getElem?_cons_zero, List.getElem?_cons_succ]))
      rw [ixB_some hi hw ht]
    · have hw2 : (v == nth l i) = false := by rw [beq_eq_false_iff_ne]; exact fun e => hw e.symm
      repeat' (first | (refine wpc_split _ (fun hc => ?_) (fun hc => ?_) <;> (try simp at hc)) | (refine ww_split _ (fun hc => ?_) (fun hc => ?_) <;> (try simp at hc)) | (refine wp_drawF (by kernel_rfl) ?_) | (refine wk_yldW _ ?_) | (refine layOwe _ (by kernel_rfl) ?_) | (refine owe ?_ (fun ho => ?_)) | (simp (disch := first | assumption | omega | (simp; done) | (simp; omega)) [A0, A1, A7, A8, eBo, hw2, -getElem?_pos, List.getElem?_cons_zero, List.getElem?_cons_succ]))
      exact Aih (Am - 1) _ _ (by omega) ⟨i + 1, by simp [A0, A1, A7, A8], by simp [A0, A1, A7, A8], by simp [A0, A1, A7, A8], by simp [A0, A1, A7, A8], by omega, fun j hj => by (by_cases e : j = i; (subst e; exact hw); exact ht j (by omega))⟩
  · repeat' (first | (refine wpc_split _ (fun hc => ?_) (fun hc => ?_) <;> (try simp at hc)) | (refine ww_split _ (fun hc => ?_) (fun hc => ?_) <;> (try simp at hc)) | (refine wp_drawF (by kernel_rfl) ?_) | (refine wk_yldW _ ?_) | (refine layOwe _ (by kernel_rfl) ?_) | (refine owe ?_ (fun ho => ?_)) | (simp (disch := first | assumption | omega | (simp; done) | (simp; omega)) [A0, A1, A7, A8, -getElem?_pos, List.getElem?_cons_zero, List.getElem?_cons_succ]))
    rw [ixB_none (fun j hj => ht j (by omega))]
@[simp] theorem S47 (l : List Bool) (v : Bool) (hs : l.length < 1099511627776) (q1 : Fl) (hh : Heap) : Ci cfg (.func (.func 47) [] []) [R  q1 eBo l, .bool v] hh = some (.ret (.int .i64 (ixB l v)), hh) :=
  Ci_K cfg rfl rfl (by simp) (by simp) (C47 l v hs)
theorem C40 (l : List Bool) (v : Bool) (hs : l.length < 1099511627776) : Kc cfg 40 [R fl0 eBo l, .bool v] (.ret (.bool (decide (0 ≤ ixB l v)))) := by
  refine outS_of_wp cfg (fn := Tryd.f40) Tryd.func40 rfl (by simp [Tryd.f40]) ?_
  simp (disch := first | assumption | omega | (simp; done) | (simp; omega)) [-getElem?_pos, List.getElem?_cons_zero, List.getElem?_cons_succ, Tryd.f40]
  repeat' (first | (refine wpc_split _ (fun hc => ?_) (fun hc => ?_) <;> (try simp at hc)) | (refine ww_split _ (fun hc => ?_) (fun hc => ?_) <;> (try simp at hc)) | (refine wp_drawF (by kernel_rfl) ?_) | (refine wk_yldW _ ?_) | (refine layOwe _ (by kernel_rfl) ?_) | (refine owe ?_ (fun ho => ?_)) | (simp (disch := first | assumption | omega | (simp; done) | (simp; omega)) [-getElem?_pos, List.getElem?_cons_zero, List.getElem?_cons_succ]))
@[simp] theorem S40 (l : List Bool) (v : Bool) (hs : l.length < 1099511627776) (q1 : Fl) (hh : Heap) : Ci cfg (.func (.func 40) [] []) [R  q1 eBo l, .bool v] hh = some (.ret (.bool (decide (0 ≤ ixB l v))), hh) :=
  Ci_K cfg rfl rfl (by simp) (by simp) (C40 l v hs)
theorem C33 (l : List Bool) (hs : l.length < 1099511627776) : Kc cfg 33 [R fl0 eBo l] (.ret (.bool (allB l))) := by
  have ho := ixB_all l
  refine outS_of_wp cfg (fn := Tryd.f33) Tryd.func33 rfl (by simp [Tryd.f33]) ?_
  simp (disch := first | assumption | omega | (simp; done) | (simp; omega)) [-getElem?_pos, List.getElem?_cons_zero, List.getElem?_cons_succ, Tryd.f33, ho]
  repeat' (first | (refine wpc_split _ (fun hc => ?_) (fun hc => ?_) <;> (try simp at hc)) | (refine ww_split _ (fun hc => ?_) (fun hc => ?_) <;> (try simp at hc)) | (refine wp_drawF (by kernel_rfl) ?_) | (refine wk_yldW _ ?_) | (refine layOwe _ (by kernel_rfl) ?_) | (refine owe ?_ (fun ho => ?_)) | (simp (disch := first | assumption | omega | (simp; done) | (simp; omega)) [ho, -getElem?_pos, List.getElem?_cons_zero, List.getElem?_cons_succ]))
@[simp] theorem S33 (l : List Bool) (hs : l.length < 1099511627776) (q1 : Fl) (hh : Heap) : Ci cfg (.func (.func 33) [] []) [R  q1 eBo l] hh = some (.ret (.bool (allB l)), hh) :=
  Ci_K cfg rfl rfl (by simp) (by simp) (C33 l hs)
theorem fold6 (a b c d e f : Bool) : V.row false true [.bool a, .bool b, .bool c, .bool d, .bool e, .bool f] 6 none = R (false, true, none) eBo [a, b, c, d, e, f] := rfl
theorem all6 (n : Int) (x : Edge) : allB [decide (0 ≤ x.src), decide (x.src < x.dst), decide (x.dst ≤ n), decide (0 ≤ x.cost), decide (x.cost ≤ 1048576), wordS x.text] = edgeOk n x := by
  unfold edgeOk allB
  rw [Bool.eq_iff_iff]
  simp [and_assoc]
theorem checkE_bad {n : Int} {l : List Edge} {i : Nat} (h1 : ¬ (64 < n ∨ 256 < l.length)) (hi : i < l.length) (h : edgeOk n (nth l i) = false) : checkE n l = 200 := by
  unfold checkE
  rw [if_neg h1, if_neg]
  rintro ⟨_, h2⟩
  rw [List.all_eq_true.1 h2 _ (nth_mem hi)] at h; cases h
theorem checkE_low {n : Int} {l : List Edge} (h1 : ¬ (64 < n ∨ 256 < l.length)) (h : n < 1) : checkE n l = 200 := by
  unfold checkE
  rw [if_neg h1, if_neg (fun x => by omega)]
theorem checkE_good {n : Int} {l : List Edge} (h1 : ¬ (64 < n ∨ 256 < l.length)) (h : 1 ≤ n) (h2 : ∀ i, i < l.length → edgeOk n (nth l i) = true) : checkE n l = 0 := by
  unfold checkE
  have h3 : l.all (edgeOk n) = true := by
    rw [List.all_eq_true]
    intro x hx
    obtain ⟨j, hj, rfl⟩ := List.mem_iff_getElem.1 hx
    rw [← nth_eq hj]; exact h2 j hj
  rw [if_neg h1, if_pos ⟨h, h3⟩]
theorem checkE_big {n : Int} {l : List Edge} (h1 : 64 < n ∨ 256 < l.length) : checkE n l = 2 := by unfold checkE; rw [if_pos h1]
theorem C13 (n : Int) (l : List Edge) (hs : l.length < 1099511627776) (ht : ∀ x ∈ l, x.text.length < 1099511627776) : Kc cfg 13 [.int .i64 n, R fl0 eE l] (.ret (.int .i64 (checkE n l))) := by
  by_cases hb : 64 < n ∨ 256 < l.length
  · rw [checkE_big hb]
    refine outS_of_wp cfg (fn := Tryd.f13) Tryd.func13 rfl (by simp [Tryd.f13]) ?_
    simp (disch := first | assumption | omega | (simp; done) | (simp; omega)) [-getElem?_pos, List.getElem?_cons_zero, List.getElem?_cons_succ, Tryd.f13]
    repeat' (first | (refine wpc_split _ (fun hc => ?_) (fun hc => ?_) <;> (try simp at hc)) | (refine ww_split _ (fun hc => ?_) (fun hc => ?_) <;> (try simp at hc)) | (refine wp_drawF (by kernel_rfl) ?_) | (refine wk_yldW _ ?_) | (refine layOwe _ (by kernel_rfl) ?_) | (refine owe ?_ (fun ho => ?_)) | (simp (disch := first | assumption | omega | (simp; done) | (simp; omega)) [-getElem?_pos, List.getElem?_cons_zero, List.getElem?_cons_succ]))
    all_goals first | omega | (exfalso; omega)
  · generalize hE : checkE n l = E
    refine outS_of_wp cfg (fn := Tryd.f13) Tryd.func13 rfl (by simp [Tryd.f13]) ?_
    simp (disch := first | assumption | omega | (simp; done) | (simp; omega)) [-getElem?_pos, List.getElem?_cons_zero, List.getElem?_cons_succ, Tryd.f13]
    repeat' (first | (refine wpc_split _ (fun hc => ?_) (fun hc => ?_) <;> (try simp at hc)) | (refine ww_split _ (fun hc => ?_) (fun hc => ?_) <;> (try simp at hc)) | (refine wp_drawF (by kernel_rfl) ?_) | (refine wk_yldW _ ?_) | (refine layOwe _ (by kernel_rfl) ?_) | (refine owe ?_ (fun ho => ?_)) | (simp (disch := first | assumption | omega | (simp; done) | (simp; omega)) [-getElem?_pos, List.getElem?_cons_zero, List.getElem?_cons_succ]))
    all_goals first
      | (exfalso; omega)
      | skip
    refine wp_loopE cfg rfl (fun f0 h0 m fr h => ∃ i : Nat, ∃ AX : List Blk, fr 0 = f0 0 ∧ fr 1 = f0 1 ∧ fr 14 = f0 14 ∧ fr 15 = f0 15 ∧ fr 16 = .int .i64 i ∧ h.bs = h0.bs ++ AX ∧ (i + m = l.length) ∧ (∀ j, j < i → edgeOk n (nth l j) = true)) (l.length) _ _ ⟨0, [], rfl, rfl, rfl, rfl, by first | rfl | (simp; done) | (simp [R]; done) | simp [R], by simp, by first | rfl | (simp; done) | omega, fun j hj => by omega⟩ ?_
    rintro Am Af Ah ⟨i, AX, A0, A1, A14, A15, A16, Abs, hm, hok⟩ Aih
    try simp at A0 A1 A14 A15 Abs
    by_cases hi : i < l.length
    · have hx := ht _ (nth_mem hi)
      have ha6 := all6 n (nth l i)
      cases hq : edgeOk n (nth l i) with
      | true =>
        rw [hq] at ha6
        repeat' (first | (refine wpc_split _ (fun hc => ?_) (fun hc => ?_) <;> (try simp at hc)) | (refine ww_split _ (fun hc => ?_) (fun hc => ?_) <;> (try simp at hc)) | (refine wp_drawF (by kernel_rfl) ?_) | (refine wk_yldW _ ?_) | (refine layOwe _ (by kernel_rfl) ?_) | (refine owe ?_ (fun ho => ?_)) | (simp (disch := first | assumption | omega | (simp; done) | (simp; omega)) [A0, A1, A14, A15, A16, Abs, eE, fold6, ha6, -getElem?_pos, List.getElem?_cons_zero, List.getElem?_cons_succ]))
        exact Aih (Am - 1) _ _ (by omega) ⟨i + 1, AX ++ [.cells (eE (nth l i))], by simp [A0, A1, A14, A15, A16, Abs, eE], by simp [A0, A1, A14, A15, A16, Abs, eE], by simp [A0, A1, A14, A15, A16, Abs, eE], by simp [A0, A1, A14, A15, A16, Abs, eE], by simp [A0, A1, A14, A15, A16, Abs, eE], by simp [A0, A1, A14, A15, A16, Abs, eE], by omega, fun j hj => by (by_cases e : j = i; (subst e; exact hq); exact hok j (by omega))⟩
      | false =>
        rw [hq] at ha6
        repeat' (first | (refine wpc_split _ (fun hc => ?_) (fun hc => ?_) <;> (try simp at hc)) | (refine ww_split _ (fun hc => ?_) (fun hc => ?_) <;> (try simp at hc)) | (refine wp_drawF (by kernel_rfl) ?_) | (refine wk_yldW _ ?_) | (refine layOwe _ (by kernel_rfl) ?_) | (refine owe ?_ (fun ho => ?_)) | (simp (disch := first | assumption | omega | (simp; done) | (simp; omega)) [A0, A1, A14, A15, A16, Abs, eE, fold6, ha6, -getElem?_pos, List.getElem?_cons_zero, List.getElem?_cons_succ]))
        rw [← hE, checkE_bad hb hi hq]
    · by_cases h1 : n < 1
      · repeat' (first | (refine wpc_split _ (fun hc => ?_) (fun hc => ?_) <;> (try simp at hc)) | (refine ww_split _ (fun hc => ?_) (fun hc => ?_) <;> (try simp at hc)) | (refine wp_drawF (by kernel_rfl) ?_) | (refine wk_yldW _ ?_) | (refine layOwe _ (by kernel_rfl) ?_) | (refine owe ?_ (fun ho => ?_)) | (simp (disch := first | assumption | omega | (simp; done) | (simp; omega)) [A0, A1, A14, A15, A16, Abs, -getElem?_pos, List.getElem?_cons_zero, List.getElem?_cons_succ]))
        rw [← hE, checkE_low hb h1]
      · repeat' (first | (refine wpc_split _ (fun hc => ?_) (fun hc => ?_) <;> (try simp at hc)) | (refine ww_split _ (fun hc => ?_) (fun hc => ?_) <;> (try simp at hc)) | (refine wp_drawF (by kernel_rfl) ?_) | (refine wk_yldW _ ?_) | (refine layOwe _ (by kernel_rfl) ?_) | (refine owe ?_ (fun ho => ?_)) | (simp (disch := first | assumption | omega | (simp; done) | (simp; omega)) [A0, A1, A14, A15, A16, Abs, -getElem?_pos, List.getElem?_cons_zero, List.getElem?_cons_succ]))
        rw [← hE, checkE_good hb (by omega) (fun j hj => hok j (by omega))]
@[simp] theorem S13 (n : Int) (l : List Edge) (hs : l.length < 1099511627776) (ht : ∀ x ∈ l, x.text.length < 1099511627776) (q1 : Fl) (hh : Heap) : Ci cfg (.func (.func 13) [] []) [.int .i64 n, R  q1 eE l] hh = some (.ret (.int .i64 (checkE n l)), hh) :=
  Ci_K cfg rfl rfl (by simp) (by simp) (C13 n l hs ht)
theorem C14 (n : Int) (l : List Edge) (hs : l.length < 1099511627776) (ht : ∀ x ∈ l, x.text.length < 1099511627776) : Kc cfg 14 [.int .i64 n, R fl0 eE l] (.ret (.int .i64 (checkE n l))) := by
  by_cases hb : 64 < n ∨ 256 < l.length
  · rw [checkE_big hb]
    refine outS_of_wp cfg (fn := Tryd.f14) Tryd.func14 rfl (by simp [Tryd.f14]) ?_
    simp (disch := first | assumption | omega | (simp; done) | (simp; omega)) [-getElem?_pos, List.getElem?_cons_zero, List.getElem?_cons_succ, Tryd.f14]
    repeat' (first | (refine wpc_split _ (fun hc => ?_) (fun hc => ?_) <;> (try simp at hc)) | (refine ww_split _ (fun hc => ?_) (fun hc => ?_) <;> (try simp at hc)) | (refine wp_drawF (by kernel_rfl) ?_) | (refine wk_yldW _ ?_) | (refine layOwe _ (by kernel_rfl) ?_) | (refine owe ?_ (fun ho => ?_)) | (simp (disch := first | assumption | omega | (simp; done) | (simp; omega)) [-getElem?_pos, List.getElem?_cons_zero, List.getElem?_cons_succ]))
    all_goals omega
  · generalize hE : checkE n l = E
    by_cases h1 : n < 1
    · skip
      refine outS_of_wp cfg (fn := Tryd.f14) Tryd.func14 rfl (by simp [Tryd.f14]) ?_
      simp (disch := first | assumption | omega | (simp; done) | (simp; omega)) [-getElem?_pos, List.getElem?_cons_zero, List.getElem?_cons_succ, Tryd.f14]
      repeat' (first | (refine wpc_split _ (fun hc => ?_) (fun hc => ?_) <;> (try simp at hc)) | (refine ww_split _ (fun hc => ?_) (fun hc => ?_) <;> (try simp at hc)) | (refine wp_drawF (by kernel_rfl) ?_) | (refine wk_yldW _ ?_) | (refine layOwe _ (by kernel_rfl) ?_) | (refine owe ?_ (fun ho => ?_)) | (simp (disch := first | assumption | omega | (simp; done) | (simp; omega)) [-getElem?_pos, List.getElem?_cons_zero, List.getElem?_cons_succ]))
      all_goals first
        | (exfalso; omega)
        | rw [← hE, checkE_low hb h1]
    refine outS_of_wp cfg (fn := Tryd.f14) Tryd.func14 rfl (by simp [Tryd.f14]) ?_
    simp (disch := first | assumption | omega | (simp; done) | (simp; omega)) [-getElem?_pos, List.getElem?_cons_zero, List.getElem?_cons_succ, Tryd.f14]
    repeat' (first | (refine wpc_split _ (fun hc => ?_) (fun hc => ?_) <;> (try simp at hc)) | (refine ww_split _ (fun hc => ?_) (fun hc => ?_) <;> (try simp at hc)) | (refine wp_drawF (by kernel_rfl) ?_) | (refine wk_yldW _ ?_) | (refine layOwe _ (by kernel_rfl) ?_) | (refine owe ?_ (fun ho => ?_)) | (simp (disch := first | assumption | omega | (simp; done) | (simp; omega)) [-getElem?_pos, List.getElem?_cons_zero, List.getElem?_cons_succ]))
    all_goals first
      | (exfalso; omega)
      | skip
    refine wp_loopE cfg rfl (fun f0 h0 m fr h => ∃ i : Nat, ∃ AX : List Blk, fr 0 = f0 0 ∧ fr 1 = f0 1 ∧ fr 5 = .int .i64 i ∧ h.bs = h0.bs ++ AX ∧ (i + m = l.length) ∧ (∀ j, j < i → edgeOk n (nth l j) = true)) (l.length) _ _ ⟨0, [], rfl, rfl, by first | rfl | (simp; done) | (simp [R]; done) | simp [R], by simp, by first | rfl | (simp; done) | omega, fun j hj => by omega⟩ ?_
    rintro Am Af Ah ⟨i, AX, A0, A1, A5, Abs, hm, hok⟩ Aih
    try simp at A0 A1 Abs
    by_cases hi : i < l.length
    · have hx := ht _ (nth_mem hi)
      cases hq : edgeOk n (nth l i) with
      | true =>
        have h5 := edgeOk_at hq
        have h6 : wordS (nth l i).text = true := by unfold edgeOk at hq; simp only [Bool.and_eq_true] at hq; exact hq.2
        repeat' (first | (refine wpc_split _ (fun hc => ?_) (fun hc => ?_) <;> (try simp at hc)) | (refine ww_split _ (fun hc => ?_) (fun hc => ?_) <;> (try simp at hc)) | (refine wp_drawF (by kernel_rfl) ?_) | (refine wk_yldW _ ?_) | (refine layOwe _ (by kernel_rfl) ?_) | (refine owe ?_ (fun ho => ?_)) | (simp (disch := first | assumption | omega | (simp; done) | (simp; omega)) [A0, A1, A5, Abs, eE, h6, -getElem?_pos, List.getElem?_cons_zero, List.getElem?_cons_succ]))
        all_goals first
          | (exfalso; omega)
          | exact Aih (Am - 1) _ _ (by omega) ⟨i + 1, AX ++ [.cells (eE (nth l i))], by simp [A0, A1, A5, Abs, eE], by simp [A0, A1, A5, Abs, eE], by simp [A0, A1, A5, Abs, eE], by simp [A0, A1, A5, Abs, eE], by omega, fun j hj => by (by_cases e : j = i; (subst e; exact hq); exact hok j (by omega))⟩
      | false =>
        have hbad := checkE_bad hb hi hq
        rw [hE] at hbad
        have hno : ¬ (0 ≤ (nth l i).src ∧ (nth l i).src < (nth l i).dst ∧ (nth l i).dst ≤ n ∧ 0 ≤ (nth l i).cost ∧ (nth l i).cost ≤ 1048576 ∧ wordS (nth l i).text = true) := by
          rintro ⟨a1, a2, a3, a4, a5, a6⟩
          have : edgeOk n (nth l i) = true := by unfold edgeOk; rw [a6, decide_eq_true ⟨a1, a2, a3, a4, a5⟩]; rfl
          rw [hq] at this; cases this
        repeat' (first | (refine wpc_split _ (fun hc => ?_) (fun hc => ?_) <;> (try simp at hc)) | (refine ww_split _ (fun hc => ?_) (fun hc => ?_) <;> (try simp at hc)) | (refine wp_drawF (by kernel_rfl) ?_) | (refine wk_yldW _ ?_) | (refine layOwe _ (by kernel_rfl) ?_) | (refine owe ?_ (fun ho => ?_)) | (simp (disch := first | assumption | omega | (simp; done) | (simp; omega)) [A0, A1, A5, Abs, eE, -getElem?_pos, List.getElem?_cons_zero, List.getElem?_cons_succ]))
        all_goals first
          | (rw [hbad]; done)
          | (exfalso; exact hno ⟨by omega, by omega, by omega, by omega, by omega, by simp_all⟩)
    · repeat' (first | (refine wpc_split _ (fun hc => ?_) (fun hc => ?_) <;> (try simp at hc)) | (refine ww_split _ (fun hc => ?_) (fun hc => ?_) <;> (try simp at hc)) | (refine wp_drawF (by kernel_rfl) ?_) | (refine wk_yldW _ ?_) | (refine layOwe _ (by kernel_rfl) ?_) | (refine owe ?_ (fun ho => ?_)) | (simp (disch := first | assumption | omega | (simp; done) | (simp; omega)) [A0, A1, A5, Abs, -getElem?_pos, List.getElem?_cons_zero, List.getElem?_cons_succ]))
      rw [← hE, checkE_good hb (by omega) (fun j hj => hok j (by omega))]
@[simp] theorem S14 (n : Int) (l : List Edge) (hs : l.length < 1099511627776) (ht : ∀ x ∈ l, x.text.length < 1099511627776) (q1 : Fl) (hh : Heap) : Ci cfg (.func (.func 14) [] []) [.int .i64 n, R  q1 eE l] hh = some (.ret (.int .i64 (checkE n l)), hh) :=
  Ci_K cfg rfl rfl (by simp) (by simp) (C14 n l hs ht)
theorem C32 (l : List Edge) (hs : l.length < 1099511627776) (hc0 : ∀ x ∈ l, 0 ≤ x.cost) (hsum : sumE l ≤ 268435456) : Kc cfg 32 [R fl0 eE l] (.ret (.int .i64 (sumE l))) := by
  refine outS_of_wp cfg (fn := Tryd.f32) Tryd.func32 rfl (by simp [Tryd.f32]) ?_
  simp (disch := first | assumption | omega | (simp; done) | (simp; omega)) [-getElem?_pos, List.getElem?_cons_zero, List.getElem?_cons_succ, Tryd.f32]
  repeat' (first | (refine wpc_split _ (fun hc => ?_) (fun hc => ?_) <;> (try simp at hc)) | (refine ww_split _ (fun hc => ?_) (fun hc => ?_) <;> (try simp at hc)) | (refine wp_drawF (by kernel_rfl) ?_) | (refine wk_yldW _ ?_) | (refine layOwe _ (by kernel_rfl) ?_) | (refine owe ?_ (fun ho => ?_)) | (simp (disch := first | assumption | omega | (simp; done) | (simp; omega)) [-getElem?_pos, List.getElem?_cons_zero, List.getElem?_cons_succ]))
  refine wp_loopE cfg rfl (fun f0 h0 m fr h => ∃ i : Nat, fr 0 = f0 0 ∧ fr 3 = .int .i64 (sumE (l.take i)) ∧ fr 4 = .int .i64 i ∧ (i + m = l.length)) (l.length) _ _ ⟨0, rfl, by first | rfl | (simp; done) | (simp [R]; done) | simp [R], by first | rfl | (simp; done) | (simp [R]; done) | simp [R], by first | rfl | (simp; done) | omega⟩ ?_
  rintro Am Af Ah ⟨i, A0, A3, A4, hm⟩ Aih
  try simp at A0
  by_cases hi : i < l.length
  · have h1 := sumE_part (i := i) hc0
    have h2 := sumE_part (i := i + 1) hc0
    have h3 := sumE_take hi
    rw [h3] at h2
    repeat' (first | (refine wpc_split _ (fun hc => ?_) (fun hc => ?_) <;> (try simp at hc)) | (refine ww_split _ (fun hc => ?_) (fun hc => ?_) <;> (try simp at hc)) | (refine wp_drawF (by kernel_rfl) ?_) | (refine wk_yldW _ ?_) | (refine layOwe _ (by kernel_rfl) ?_) | (refine owe ?_ (fun ho => ?_)) | (simp (disch := first | assumption | omega | (simp; done) | (simp; omega)) [A0, A3, A4, eE, -getElem?_pos, List.getElem?_cons_zero, List.getElem?_cons_succ]))
    exact Aih (Am - 1) _ _ (by omega) ⟨i + 1, by simp [A0, A3, A4, h3], by simp [A0, A3, A4, h3], by simp [A0, A3, A4, h3], by omega⟩
  · have h1 : l.take i = l := List.take_of_length_le (by omega)
    rw [h1] at A3
    repeat' (first | (refine wpc_split _ (fun hc => ?_) (fun hc => ?_) <;> (try simp at hc)) | (refine ww_split _ (fun hc => ?_) (fun hc => ?_) <;> (try simp at hc)) | (refine wp_drawF (by kernel_rfl) ?_) | (refine wk_yldW _ ?_) | (refine layOwe _ (by kernel_rfl) ?_) | (refine owe ?_ (fun ho => ?_)) | (simp (disch := first | assumption | omega | (simp; done) | (simp; omega)) [A0, A3, A4, -getElem?_pos, List.getElem?_cons_zero, List.getElem?_cons_succ]))
@[simp] theorem S32 (l : List Edge) (hs : l.length < 1099511627776) (hc0 : ∀ x ∈ l, 0 ≤ x.cost) (hsum : sumE l ≤ 268435456) (q1 : Fl) (hh : Heap) : Ci cfg (.func (.func 32) [] []) [R  q1 eE l] hh = some (.ret (.int .i64 (sumE l)), hh) :=
  Ci_K cfg rfl rfl (by simp) (by simp) (C32 l hs hc0 hsum)
end Go.Ab
