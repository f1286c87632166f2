/- Layer 37 (masks): the reference's Mask and Same; text.Word. -/
import Derived.Test.YthijadpjkcmioaaDoorM2
import Derived.Test.YthijadpjkcmioaaDoorT6
set_option linter.unusedVariables false
set_option linter.unusedSimpArgs false
set_option linter.unusedSectionVars false
set_option linter.deprecated false
namespace Go.Ab
open Go.Proofs
set_option maxRecDepth 100000
set_option maxHeartbeats 1000000
theorem wordS_no {s : List UInt8} (h : (runesG s).2 ≠ 0 ∨ s.length = 0 ∨ 64 < s.length) : wordS s = false := by
  unfold wordS
  by_cases h1 : 0 < s.length ∧ s.length ≤ 64
  · have h2 : (runesG s).2 ≠ 0 := by omega
    rw [(runesG_small (s := s) (by omega)).2 h2]; simp
  · simp [h1]
theorem wordS_yes {s : List UInt8} (h : (runesG s).2 = 0) (h1 : 0 < s.length ∧ s.length ≤ 64) : wordS s = (runesG s).1.all fun r => !spaceR r := by
  unfold wordS
  rw [(runesG_small (s := s) (by omega)).1 h]; simp [h1]
theorem fold_M1 (a b : Bool) (tok : Option Nat) (x y z) : V.row a b [.int .i64 x, .str y, R fl0 eI z] 1 tok = R (a, b, tok) eM [⟨x, y, z⟩] := rfl
def markS (v : List Int) (x : Target) : Mark := ⟨vd v x.deps, if vd v x.deps = 0 then x.text else if vd v x.deps = 2 then [45] else [], x.deps⟩
def maskS (l : List Target) (v : List Int) : List Mark × Int := if errS l v = 0 then (l.map (markS v), 0) else ([], errS l v)
theorem asc_in {many : Nat} : ∀ (d : List Int) (last : Int), -1 ≤ last → asc many last d = true → inB d many
  | [], _, _, _ => by simp [inB]
  | x :: r, last, hl, h => by
    simp only [asc, Bool.and_eq_true, decide_eq_true_eq] at h
    have := asc_in r x (by omega) h.2
    intro y hy
    rcases List.mem_cons.1 hy with rfl | hy
    · omega
    · exact this y hy
theorem errS_in {l : List Target} {v : List Int} (h : errS l v = 0) : (l.length ≤ 4096 ∧ v.length ≤ 4096) ∧ verdictsS v = true ∧ ∀ x ∈ l, rightS x.text x.deps v.length = true ∧ inB x.deps v.length := by
  unfold errS at h
  split at h
  · cases h
  · split at h
    · rename_i h1 h2
      simp only [Bool.and_eq_true, List.all_eq_true] at h2
      refine ⟨by omega, h2.1, fun x hx => ⟨h2.2 x hx, ?_⟩⟩
      have := h2.2 x hx
      unfold rightS at this
      simp only [Bool.and_eq_true] at this
      exact asc_in _ _ (by omega) this.1
    · cases h
theorem C11 (l : List Target) (v : List Int) (hs : l.length < 1099511627776 ∧ v.length < 1099511627776) (hl : ∀ x ∈ l, x.text.length < 1099511627776 ∧ x.deps.length < 1099511627776) : Kc cfg 11 [R fl0 eT l, R fl0 eI v] (.ret (.tuple [R fl0 eM (maskS l v).1, .int .i64 (maskS l v).2])) := by
  by_cases he : errS l v = 0
  · have hin := errS_in he
    have hm : maskS l v = (l.map (markS v), 0) := by unfold maskS; rw [if_pos he]
    refine outS_of_wp cfg (fn := Tryd.f11) Tryd.func11 rfl (by simp [Tryd.f11]) ?_
    simp (disch := first | assumption | omega | (simp; done) | (simp; omega)) [-getElem?_pos, List.getElem?_cons_zero, List.getElem?_cons_succ, Tryd.f11, he, hl]
    refine wp_loopE cfg rfl (fun f0 h0 m f h => ∃ (i : Nat) (fl : Fl), f 0 = f0 0 ∧ f 1 = f0 1 ∧ f 7 = R fl eM ((l.take i).map (markS v)) ∧ f 8 = .int .i64 i ∧ App h.ts 3 fl ∧ i + m = l.length) l.length _ _ ⟨0, (false, true, none), rfl, rfl, by simp [R], by simp, App.full _ _ _, by simp⟩ ?_
    rintro m f h ⟨i, fl, h0, h1, h7, h8, ha, hm'⟩ ih
    simp at h0 h1
    by_cases hi : i < l.length
    · have hx := hl _ (nth_mem hi)
      have hx2 := (hin.2.2 _ (nth_mem hi)).2
      repeat' (first | (refine wpc_split _ (fun hc => ?_) (fun hc => ?_) <;> (try simp at hc)) | (refine ww_split _ (fun hc => ?_) (fun hc => ?_) <;> (try simp at hc)) | (refine wp_drawF (by kernel_rfl) ?_) | (refine wk_yldW _ ?_) | (refine layOwe _ (by kernel_rfl) ?_) | (refine owe ?_ (fun ho => ?_)) | (simp (disch := first | assumption | omega | (simp; done) | (simp; omega)) [h0, h1, h7, h8, eT, hx.1, hx.2, hx2, fold_M1, -getElem?_pos, List.getElem?_cons_zero, List.getElem?_cons_succ]))
      all_goals
        refine ih (m - 1) _ _ (by omega) ⟨i + 1, _, by simp [h0], by simp [h1], ?_, by simp, App.new _ _ _, by omega⟩
        rw [nth_take hi, List.map_append]
        simp [markS, *]
    · repeat' (first | (refine wpc_split _ (fun hc => ?_) (fun hc => ?_) <;> (try simp at hc)) | (refine ww_split _ (fun hc => ?_) (fun hc => ?_) <;> (try simp at hc)) | (refine wp_drawF (by kernel_rfl) ?_) | (refine wk_yldW _ ?_) | (refine layOwe _ (by kernel_rfl) ?_) | (refine owe ?_ (fun ho => ?_)) | (simp (disch := first | assumption | omega | (simp; done) | (simp; omega)) [h0, h1, h7, h8, -getElem?_pos, List.getElem?_cons_zero, List.getElem?_cons_succ]))
      rw [hm]
      rw [List.take_of_length_le (by simp; omega)]
      exact ⟨rfl, rfl⟩
  · have hm : maskS l v = ([], errS l v) := by unfold maskS; rw [if_neg he]
    refine outS_of_wp cfg (fn := Tryd.f11) Tryd.func11 rfl (by simp [Tryd.f11]) ?_
    simp (disch := first | assumption | omega | (simp; done) | (simp; omega)) [-getElem?_pos, List.getElem?_cons_zero, List.getElem?_cons_succ, Tryd.f11, he, hl]
    repeat' (first | (refine wpc_split _ (fun hc => ?_) (fun hc => ?_) <;> (try simp at hc)) | (refine ww_split _ (fun hc => ?_) (fun hc => ?_) <;> (try simp at hc)) | (refine wp_drawF (by kernel_rfl) ?_) | (refine wk_yldW _ ?_) | (refine layOwe _ (by kernel_rfl) ?_) | (refine owe ?_ (fun ho => ?_)) | (simp (disch := first | assumption | omega | (simp; done) | (simp; omega)) [he, -getElem?_pos, List.getElem?_cons_zero, List.getElem?_cons_succ]))
    all_goals (rw [hm]; exact ⟨rfl, rfl⟩)
@[simp] theorem S11 (l : List Target) (v : List Int) (hs : l.length < 1099511627776 ∧ v.length < 1099511627776) (hl : ∀ x ∈ l, x.text.length < 1099511627776 ∧ x.deps.length < 1099511627776) (q1 q2 : Fl) (hh : Heap) : Ci cfg (.func (.func 11) [] []) [R  q1 eT l, R  q2 eI v] hh = some (.ret (.tuple [R fl0 eM (maskS l v).1, .int .i64 (maskS l v).2]), hh) :=
  Ci_K cfg rfl rfl (by simp) (by simp) (C11 l v hs hl)
deriving instance DecidableEq for Mark
theorem C12 (a b : List Mark) (hs : a.length < 1099511627776) (ha : ∀ x ∈ a, x.deps.length < 1099511627776) : Kc cfg 12 [R fl0 eM a, R fl0 eM b] (.ret (.bool (decide (a = b)))) := by
  refine outS_of_wp cfg (fn := Tryd.f12) Tryd.func12 rfl (by simp [Tryd.f12]) ?_
  simp (disch := first | assumption | omega | (simp; done) | (simp; omega)) [-getElem?_pos, List.getElem?_cons_zero, List.getElem?_cons_succ, Tryd.f12]
  repeat' (first | (refine wpc_split _ (fun hc => ?_) (fun hc => ?_) <;> (try simp at hc)) | (refine ww_split _ (fun hc => ?_) (fun hc => ?_) <;> (try simp at hc)) | (refine wp_drawF (by kernel_rfl) ?_) | (refine wk_yldW _ ?_) | (refine layOwe _ (by kernel_rfl) ?_) | (refine owe ?_ (fun ho => ?_)) | (simp (disch := first | assumption | omega | (simp; done) | (simp; omega)) [-getElem?_pos, List.getElem?_cons_zero, List.getElem?_cons_succ]))
  · have : ¬ a = b := fun e => hc (by rw [e])
    simp [this]
  · refine wp_loopE cfg rfl (fun f0 h0 m f h => ∃ i : Nat, f 0 = f0 0 ∧ f 1 = f0 1 ∧ f 5 = .int .i64 i ∧ i + m = a.length ∧ a.take i = b.take i) a.length _ _ ⟨0, rfl, rfl, by simp, by simp, by simp⟩ ?_
    rintro m f h ⟨i, h0, h1, h5, hm, ht⟩ ih
    simp at h0 h1
    by_cases hi : i < a.length
    · have hx := ha _ (nth_mem hi)
      repeat' (first | (refine wpc_split _ (fun hc => ?_) (fun hc => ?_) <;> (try simp at hc)) | (refine ww_split _ (fun hc => ?_) (fun hc => ?_) <;> (try simp at hc)) | (refine wp_drawF (by kernel_rfl) ?_) | (refine wk_yldW _ ?_) | (refine layOwe _ (by kernel_rfl) ?_) | (refine owe ?_ (fun ho => ?_)) | (simp (disch := first | assumption | omega | (simp; done) | (simp; omega)) [h0, h1, h5, eM, hx, -getElem?_pos, List.getElem?_cons_zero, List.getElem?_cons_succ]))
      · intro e; subst e; simp at hc
      · have he : nth a i = nth b i := by
          cases h2 : nth a i; cases h3 : nth b i
          simp only [h2, h3] at hc
          simp [hc]
        exact ih (m - 1) _ _ (by omega) ⟨i + 1, by simp [h0], by simp [h1], by simp, by omega, take_next hi (by omega) ht he⟩
    · repeat' (first | (refine wpc_split _ (fun hc => ?_) (fun hc => ?_) <;> (try simp at hc)) | (refine ww_split _ (fun hc => ?_) (fun hc => ?_) <;> (try simp at hc)) | (refine wp_drawF (by kernel_rfl) ?_) | (refine wk_yldW _ ?_) | (refine layOwe _ (by kernel_rfl) ?_) | (refine owe ?_ (fun ho => ?_)) | (simp (disch := first | assumption | omega | (simp; done) | (simp; omega)) [h0, h1, h5, -getElem?_pos, List.getElem?_cons_zero, List.getElem?_cons_succ]))
      rw [List.take_of_length_le (by omega), List.take_of_length_le (by omega)] at ht
      simp [ht]
@[simp] theorem S12 (a b : List Mark) (hs : a.length < 1099511627776) (ha : ∀ x ∈ a, x.deps.length < 1099511627776) (q1 q2 : Fl) (hh : Heap) : Ci cfg (.func (.func 12) [] []) [R  q1 eM a, R  q2 eM b] hh = some (.ret (.bool (decide (a = b))), hh) :=
  Ci_K cfg rfl rfl (by simp) (by simp) (C12 a b hs ha)
theorem C21 (s : List UInt8) (hs : s.length < 1099511627776) : Kc cfg 21 [.str s] (.ret (.bool (wordS s))) := by
  refine outS_of_wp cfg (fn := Tryd.f21) Tryd.func21 rfl (by simp [Tryd.f21]) ?_
  simp (disch := first | assumption | omega | (simp; done) | (simp; omega)) [-getElem?_pos, List.getElem?_cons_zero, List.getElem?_cons_succ, Tryd.f21]
  repeat' (first | (refine wpc_split _ (fun hc => ?_) (fun hc => ?_) <;> (try simp at hc)) | (refine ww_split _ (fun hc => ?_) (fun hc => ?_) <;> (try simp at hc)) | (refine wp_drawF (by kernel_rfl) ?_) | (refine wk_yldW _ ?_) | (refine layOwe _ (by kernel_rfl) ?_) | (refine owe ?_ (fun ho => ?_)) | (simp (disch := first | assumption | omega | (simp; done) | (simp; omega)) [Tryd.f34, Tryd.f48, Tryd.f22, Tryd.f35, -getElem?_pos, List.getElem?_cons_zero, List.getElem?_cons_succ]))
  · have hw := wordS_yes (s := s) (by omega) (by omega)
    have hn := runes_len _ _ _ (Nat.le_refl _) ((runesG_small (s := s) (by omega)).1 (by assumption))
    generalize hg : (runesG s).1 = l at *
    refine wp_loopE cfg rfl (fun f0 h0 m f h => ∃ i : Nat, f 0 = f0 0 ∧ f 1 = f0 1 ∧ f 7 = f0 7 ∧ f 8 = .int .i64 i ∧ i + m = l.length ∧ (l.take i).all (fun r => !spaceR r) = true) l.length _ _ ⟨0, rfl, rfl, rfl, by simp, by simp, by simp⟩ ?_
    rintro m f h ⟨i, h0, h1, h7, h8, hm, ht⟩ ih
    simp at h0 h1 h7
    repeat' (first | (refine wpc_split _ (fun hc => ?_) (fun hc => ?_) <;> (try simp at hc)) | (refine ww_split _ (fun hc => ?_) (fun hc => ?_) <;> (try simp at hc)) | (refine wp_drawF (by kernel_rfl) ?_) | (refine wk_yldW _ ?_) | (refine layOwe _ (by kernel_rfl) ?_) | (refine owe ?_ (fun ho => ?_)) | (simp (disch := first | assumption | omega | (simp; done) | (simp; omega)) [h0, h1, h7, h8, eI, Tryd.f47, -getElem?_pos, List.getElem?_cons_zero, List.getElem?_cons_succ]))
    all_goals first
      | exact ih (m - 1) _ _ (by omega) ⟨i + 1, by simp [h0], by simp [h1], by simp [h7], by simp, by omega, all_take_next (p := fun r => !spaceR r) (by omega : i < l.length) ht (by simp [spaceR]; omega)⟩
      | (rw [hw]; exact all_nth_false (p := fun r => !spaceR r) (by omega : i < l.length) (by simp [spaceR]; omega))
      | (rw [hw]; rw [List.take_of_length_le (by omega)] at ht; exact ht)
  all_goals first
    | exact wordS_no (by omega)
    | (subst hc; exact wordS_no (by simp))
@[simp] theorem S21 (s : List UInt8) (hs : s.length < 1099511627776) (hh : Heap) : Ci cfg (.func (.func 21) [] []) [.str s] hh = some (.ret (.bool (wordS s)), hh) :=
  Ci_K cfg rfl rfl (by simp) (by simp) (C21 s hs)
end Go.Ab
