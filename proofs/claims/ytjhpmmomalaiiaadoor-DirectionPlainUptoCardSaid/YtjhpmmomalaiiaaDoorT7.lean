/- Layer 9 (text): Word; joining code points. -/
import Derived.Test.YtjhpmmomalaiiaaDoorT3
import Derived.Test.YtjhpmmomalaiiaaDoorT6
set_option linter.unusedVariables false
set_option linter.unusedSimpArgs false
set_option linter.unusedSectionVars false
set_option linter.deprecated false
namespace Go.Ab
open Go.Proofs
set_option maxRecDepth 100000
set_option maxHeartbeats 1000000
theorem wordS_no {s : List UInt8} (h : (runesG s).2 ≠ 0 ∨ s.length = 0 ∨ 64 < s.length) : wordS s = false := by
  unfold wordS
  by_cases h1 : 0 < s.length ∧ s.length ≤ 64
  · have h2 : (runesG s).2 ≠ 0 := by omega
    rw [(runesG_small (s := s) (by omega)).2 h2]; simp
  · simp [h1]
theorem wordS_yes {s : List UInt8} (h : (runesG s).2 = 0) (h1 : 0 < s.length ∧ s.length ≤ 64) : wordS s = (runesG s).1.all fun r => !spaceR r := by
  unfold wordS
  rw [(runesG_small (s := s) (by omega)).1 h]; simp [h1]
/-! ### The bytes of code points -/
theorem encR_len (r : Int) : 1 ≤ (encR r).length ∧ (encR r).length ≤ 4 := by
  unfold encR; split <;> (try split) <;> (try split) <;> simp
@[simp] theorem encR_ne (r : Int) : ¬ encR r = [] := by
  intro h; have := encR_len r; rw [h] at this; simp at this
def encAll (l : List Int) : List UInt8 := l.flatMap encR
@[simp] theorem encAll_nil : encAll [] = [] := rfl
@[simp] theorem encAll_cons (r : Int) (l : List Int) : encAll (r :: l) = encR r ++ encAll l := rfl
@[simp] theorem encAll_append (a b : List Int) : encAll (a ++ b) = encAll a ++ encAll b := by simp [encAll]
theorem encAll_take {l : List Int} {i : Nat} (h : i < l.length) : encAll (l.take (i + 1)) = encAll (l.take i) ++ encR (nth l i) := by
  rw [nth_take h]; simp
theorem encAll_len (l : List Int) : l.length ≤ (encAll l).length ∧ (encAll l).length ≤ 4 * l.length := by
  induction l with
  | nil => simp
  | cons r l ih => have := encR_len r; simp; omega
theorem encAll_take_le (l : List Int) (i : Nat) : (encAll (l.take i)).length ≤ (encAll l).length := by
  have h := congrArg List.length (congrArg encAll (List.take_append_drop i l))
  rw [encAll_append, List.length_append] at h; omega
def joinG (l : List Int) : List UInt8 × Int := if l.all point then (if 4096 < (encAll l).length then ([], 2) else (encAll l, 0)) else ([], 90)
theorem C35 (l : List Int) (hs : l.length < 1099511627776) : Kc cfg 35 [R fl0 eI l] (.ret (.tuple [.str (joinG l).1, .int .i64 (joinG l).2])) := by
  refine outS_of_wp cfg (fn := Tryd.f35) Tryd.func35 rfl (by simp [Tryd.f35]) ?_
  simp (disch := first | assumption | omega | (simp; done) | (simp; omega)) [-getElem?_pos, List.getElem?_cons_zero, List.getElem?_cons_succ, Tryd.f35]
  refine wp_loopE cfg rfl (fun f0 h0 m fr h => ∃ i : Nat, fr 0 = f0 0 ∧ fr 4 = .int .i64 i ∧ (i + m = l.length) ∧ ((l.take i).all point = true)) (l.length) _ _ ⟨0, rfl, by first | rfl | (simp; done) | (simp [R]; done) | simp [R], by first | rfl | (simp; done) | omega, by first | rfl | (simp; done) | omega⟩ ?_
  rintro Am Af Ah ⟨i, A0, A4, hm, ht⟩ Aih
  try simp at A0
  by_cases hi : i < l.length
  · by_cases hp : point (nth l i) = true
    · repeat' (first | (refine wpc_split _ (fun hc => ?_) (fun hc => ?_) <;> (try simp at hc)) | (refine ww_split _ (fun hc => ?_) (fun hc => ?_) <;> (try simp at hc)) | (refine wp_drawF (by kernel_rfl) ?_) | (refine wk_yldW _ ?_) | (refine layOwe _ (by kernel_rfl) ?_) | (refine owe ?_ (fun ho => ?_)) | (simp (disch := first | assumption | omega | (simp; done) | (simp; omega)) [A0, A4, eI, hp, -getElem?_pos, List.getElem?_cons_zero, List.getElem?_cons_succ]))
      exact Aih (Am - 1) _ _ (by omega) ⟨i + 1, by simp [A0, A4], by simp [A0, A4], by omega, all_take_next hi ht hp⟩
    · have hp : point (nth l i) = false := by simpa using hp
      have hj : joinG l = ([], 90) := by unfold joinG; rw [all_nth_false hi hp]; rfl
      repeat' (first | (refine wpc_split _ (fun hc => ?_) (fun hc => ?_) <;> (try simp at hc)) | (refine ww_split _ (fun hc => ?_) (fun hc => ?_) <;> (try simp at hc)) | (refine wp_drawF (by kernel_rfl) ?_) | (refine wk_yldW _ ?_) | (refine layOwe _ (by kernel_rfl) ?_) | (refine owe ?_ (fun ho => ?_)) | (simp (disch := first | assumption | omega | (simp; done) | (simp; omega)) [A0, A4, eI, hp, -getElem?_pos, List.getElem?_cons_zero, List.getElem?_cons_succ]))
      rw [hj]; exact ⟨rfl, rfl⟩
  · rw [List.take_of_length_le (by omega)] at ht
    repeat' (first | (refine wpc_split _ (fun hc => ?_) (fun hc => ?_) <;> (try simp at hc)) | (refine ww_split _ (fun hc => ?_) (fun hc => ?_) <;> (try simp at hc)) | (refine wp_drawF (by kernel_rfl) ?_) | (refine wk_yldW _ ?_) | (refine layOwe _ (by kernel_rfl) ?_) | (refine owe ?_ (fun ho => ?_)) | (simp (disch := first | assumption | omega | (simp; done) | (simp; omega)) [A0, A4, -getElem?_pos, List.getElem?_cons_zero, List.getElem?_cons_succ]))
    refine wp_loopE cfg rfl (fun f0 h0 m fr h => ∃ i : Nat, ∃ fl : Fl, fr 0 = f0 0 ∧ fr 6 = .int .i64 i ∧ fr 5 = R fl eB (encAll (l.take i)) ∧ (App h.ts 1 fl) ∧ (i + m = l.length) ∧ ((encAll (l.take i)).length ≤ 4100)) (l.length) _ _ ⟨0, (false, true, none), rfl, by first | rfl | (simp; done) | (simp [R]; done) | simp [R], by first | rfl | (simp; done) | (simp [R]; done) | simp [R], App.full _ _ _, by first | rfl | (simp; done) | omega, by first | rfl | (simp; done) | omega⟩ ?_
    rintro Bm Bf Bh ⟨i, fl, B0, B6, B5, ha, hm, hb⟩ Bih
    try simp [A0, A4] at B0
    have hle := encAll_take_le l i
    by_cases hi : i < l.length
    · have hp : point (nth l i) = true := by rw [List.all_eq_true] at ht; exact ht _ (nth_mem hi)
      have hp2 := hp
      rw [point_t] at hp2
      have hel := encR_len (nth l i)
      repeat' (first | (refine wpc_split _ (fun hc => ?_) (fun hc => ?_) <;> (try simp at hc)) | (refine ww_split _ (fun hc => ?_) (fun hc => ?_) <;> (try simp at hc)) | (refine wp_drawF (by kernel_rfl) ?_) | (refine wk_yldW _ ?_) | (refine layOwe _ (by kernel_rfl) ?_) | (refine owe ?_ (fun ho => ?_)) | (simp (disch := first | assumption | omega | (simp; done) | (simp; omega)) [B0, B6, B5, eI, append_Rn, -getElem?_pos, List.getElem?_cons_zero, List.getElem?_cons_succ]))
      · exact Bih (Bm - 1) _ _ (by omega) ⟨i + 1, _, by simp [B0, B6, B5, A0, A4, encAll_take hi], by simp [B0, B6, B5, A0, A4, encAll_take hi], by simp [B0, B6, B5, A0, A4, encAll_take hi], App.new _ _ _, by omega, by rw [encAll_take hi]; simp; omega⟩
      · have hj : joinG l = ([], 2) := by unfold joinG; rw [ht, if_pos rfl, if_pos (by omega)]
        rw [hj]; exact ⟨rfl, rfl⟩
    · have he : encAll (l.take i) = encAll l := by rw [List.take_of_length_le (by omega)]
      rw [he] at B5
      repeat' (first | (refine wpc_split _ (fun hc => ?_) (fun hc => ?_) <;> (try simp at hc)) | (refine ww_split _ (fun hc => ?_) (fun hc => ?_) <;> (try simp at hc)) | (refine wp_drawF (by kernel_rfl) ?_) | (refine wk_yldW _ ?_) | (refine layOwe _ (by kernel_rfl) ?_) | (refine owe ?_ (fun ho => ?_)) | (simp (disch := first | assumption | omega | (simp; done) | (simp; omega)) [B0, B6, B5, -getElem?_pos, List.getElem?_cons_zero, List.getElem?_cons_succ]))
      · have hj : joinG l = ([], 2) := by unfold joinG; rw [ht, if_pos rfl, if_pos (by omega)]
        rw [hj]; exact ⟨rfl, rfl⟩
      · have hj : joinG l = (encAll l, 0) := by unfold joinG; rw [ht, if_pos rfl, if_neg (by omega)]
        rw [hj]; exact ⟨rfl, rfl⟩
@[simp] theorem S35 (l : List Int) (hs : l.length < 1099511627776) (q1 : Fl) (hh : Heap) : Ci cfg (.func (.func 35) [] []) [R  q1 eI l] hh = some (.ret (.tuple [.str (joinG l).1, .int .i64 (joinG l).2]), hh) :=
  Ci_K cfg rfl rfl (by simp) (by simp) (C35 l hs)
theorem wrapu32 {n : Int} (h : 0 ≤ n ∧ n ≤ 4294967295) : IntKind.u32.wrap n = n := IntWalk.u32_in n h
attribute [simp] wrapu32
theorem C46 (x : Int) : Kc cfg 46 [.int .i32 x] (.ret (.bool (decide (0 ≤ x ∧ x < 55296 ∨ 57343 < x ∧ x ≤ 1114111)))) := by
  refine outS_of_wp cfg (fn := Tryd.f46) Tryd.func46 rfl (by simp [Tryd.f46]) ?_
  simp (disch := first | assumption | omega | (simp; done) | (simp; omega)) [-getElem?_pos, List.getElem?_cons_zero, List.getElem?_cons_succ, Tryd.f46]
  repeat' (first | (refine wpc_split _ (fun hc => ?_) (fun hc => ?_) <;> (try simp at hc)) | (refine ww_split _ (fun hc => ?_) (fun hc => ?_) <;> (try simp at hc)) | (refine wp_drawF (by kernel_rfl) ?_) | (refine wk_yldW _ ?_) | (refine layOwe _ (by kernel_rfl) ?_) | (refine owe ?_ (fun ho => ?_)) | (simp (disch := first | assumption | omega | (simp; done) | (simp; omega)) [-getElem?_pos, List.getElem?_cons_zero, List.getElem?_cons_succ]))
  all_goals grind
@[simp] theorem S46 (x : Int) (hh : Heap) : Ci cfg (.func (.func 46) [] []) [.int .i32 x] hh = some (.ret (.bool (decide (0 ≤ x ∧ x < 55296 ∨ 57343 < x ∧ x ≤ 1114111))), hh) :=
  Ci_K cfg rfl rfl (by simp) (by simp) (C46 x)
theorem C36 (x : Int) : Kc cfg 36 [.int .i64 x] (.ret (.bool (point x))) := by
  refine outS_of_wp cfg (fn := Tryd.f36) Tryd.func36 rfl (by simp [Tryd.f36]) ?_
  simp (disch := first | assumption | omega | (simp; done) | (simp; omega)) [-getElem?_pos, List.getElem?_cons_zero, List.getElem?_cons_succ, Tryd.f36]
  repeat' (first | (refine wpc_split _ (fun hc => ?_) (fun hc => ?_) <;> (try simp at hc)) | (refine ww_split _ (fun hc => ?_) (fun hc => ?_) <;> (try simp at hc)) | (refine wp_drawF (by kernel_rfl) ?_) | (refine wk_yldW _ ?_) | (refine layOwe _ (by kernel_rfl) ?_) | (refine owe ?_ (fun ho => ?_)) | (simp (disch := first | assumption | omega | (simp; done) | (simp; omega)) [-getElem?_pos, List.getElem?_cons_zero, List.getElem?_cons_succ]))
  all_goals grind [point]
@[simp] theorem S36 (x : Int) (hh : Heap) : Ci cfg (.func (.func 36) [] []) [.int .i64 x] hh = some (.ret (.bool (point x)), hh) :=
  Ci_K cfg rfl rfl (by simp) (by simp) (C36 x)
end Go.Ab
