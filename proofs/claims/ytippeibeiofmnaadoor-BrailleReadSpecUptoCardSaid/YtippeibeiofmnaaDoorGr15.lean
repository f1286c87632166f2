/- A part of the proof. -/
import Derived.Test.YtippeibeiofmnaaDoorGr5
import Derived.Test.YtippeibeiofmnaaDoorGr13
import Derived.Test.YtippeibeiofmnaaDoorGr14
set_option linter.unusedVariables false
set_option linter.unusedSimpArgs false
set_option linter.unusedSectionVars false
set_option linter.deprecated false
namespace Go.Ab
open Go.Proofs
set_option maxRecDepth 100000
set_option maxHeartbeats 4000000
def few1 (x : Sgn) : Bool := decide (x.text.length ≤ 40 ∧ x.cells.length ≤ 10)
def fewH (t : List Sgn) (s : List UInt8) : Bool := !decide (6 < t.length ∧ t.length ≤ 64 ∨ 100 < t.length ∨ 40 < s.length ∧ s.length ≤ 4096 ∨ 5000 < s.length)
def fewZ (t : List Sgn) (s : List UInt8) : Bool := fewH t s && t.all few1
theorem fewZ_bad {t : List Sgn} {s : List UInt8} {i : Nat} (hi : i < t.length) (h : few1 (nth t i) = false) : fewZ t s = false := by
 unfold fewZ
 have : t.all few1 = false := by
  rw [List.all_eq_false]
  exact ⟨_, nth_mem hi, by simp [h]⟩
 rw [this, Bool.and_false]
theorem fewZ_ok {t : List Sgn} {s : List UInt8} (h : fewH t s = true) (k : ∀ j, j < t.length → few1 (nth t j) = true) : fewZ t s = true := by
 unfold fewZ
 have : t.all few1 = true := by
  rw [List.all_eq_true]
  intro x hx
  obtain ⟨j, hj, rfl⟩ := List.getElem_of_mem hx
  have := k j hj
  rwa [nth_eq hj] at this
 rw [h, this]; rfl
theorem C10 (t : List Sgn) (s : List UInt8) (hs : smZs t) (hl : s.length < 1099511627776) : Kc cfg 10 [R fl0 eZ t, .str s] (.ret (.bool (fewZ t s))) := by
 have hs1 := hs.1
 have kbad := fun i => fewZ_bad (t := t) (s := s) (i := i)
 have kok := fewZ_ok (t := t) (s := s)
 cases hH : fewH t s with
 | false =>
  have hF : fewZ t s = false := by unfold fewZ; rw [hH]; rfl
  rw [hF]
  clear kbad kok hF
  simp only [fewH, Bool.not_eq_false', decide_eq_true_eq] at hH
  refine outS_of_wp cfg (fn := Tryd.f10) Tryd.func10 rfl (by simp [Tryd.f10]) ?_
  simp (disch := first | assumption | omega | (simp; done) | (simp; omega)) [-getElem?_pos, gZ, gS, Tryd.f10, ]
  repeat' (first | ((first | refine wpc_split _ ?_ ?_ | refine ww_split _ ?_ ?_) <;> intro hc <;> try simp at hc) | (refine wp_drawF (by kernel_rfl) ?_) | refine wk_yldW _ ?_ | refine layOwe _ (by kernel_rfl) ?_ | refine owe ?_ (fun ho => ?_) | (simp (disch := first | assumption | omega | (simp; done) | (simp; omega)) [-getElem?_pos, gZ, gS]))
  all_goals (exfalso; omega)
 | true =>
  have kok := kok hH
  generalize hF : fewZ t s = F at *
  simp only [fewH, Bool.not_eq_true', decide_eq_false_iff_not] at hH
  refine outS_of_wp cfg (fn := Tryd.f10) Tryd.func10 rfl (by simp [Tryd.f10]) ?_
  simp (disch := first | assumption | omega | (simp; done) | (simp; omega)) [-getElem?_pos, gZ, gS, Tryd.f10, ]
  repeat' (first | ((first | refine wpc_split _ ?_ ?_ | refine ww_split _ ?_ ?_) <;> intro hc <;> try simp at hc) | (refine wp_drawF (by kernel_rfl) ?_) | refine wk_yldW _ ?_ | refine layOwe _ (by kernel_rfl) ?_ | refine owe ?_ (fun ho => ?_) | (simp (disch := first | assumption | omega | (simp; done) | (simp; omega)) [-getElem?_pos, gZ, gS]))
  all_goals try (exfalso; omega)
  all_goals
   refine wp_loopE cfg rfl (fun f0 h0 m fr h => ∃ i : Nat, fr 0 = f0 0 ∧ fr 5 = .int .i64 i ∧ h.bs = h0.bs ∧ (i + m = t.length) ∧ (∀ j, j < i → few1 (nth t j) = true)) (t.length) _ _ ⟨0, rfl, by first | rfl | (simp; done) | (simp [R]; done) | simp [R], rfl, by first | rfl | (simp; done) | omega, fun j hj => by omega⟩ ?_
   rintro Am Af Ah ⟨i, A0, A5, Abs, hm, ht⟩ Aih
   try simp at A0 Abs
   by_cases hi : i < t.length
   ·obtain ⟨k1, k2⟩ := smZs_nth hs hi
    cases h1 : few1 (nth t i) with
    | false =>
     have h2 := kbad i hi h1
     simp only [few1, decide_eq_false_iff_not] at h1
     rw [h2]
     repeat' (first | ((first | refine wpc_split _ ?_ ?_ | refine ww_split _ ?_ ?_) <;> intro hc <;> try simp at hc) | (refine wp_drawF (by kernel_rfl) ?_) | refine wk_yldW _ ?_ | refine layOwe _ (by kernel_rfl) ?_ | refine owe ?_ (fun ho => ?_) | (simp (disch := first | assumption | omega | (simp; done) | (simp; omega)) [A0, A5, Abs, eZ, -getElem?_pos, gZ, gS]))
     all_goals (exfalso; omega)
    | true =>
     have h0 := h1
     simp only [few1, decide_eq_true_eq] at h1
     repeat' (first | ((first | refine wpc_split _ ?_ ?_ | refine ww_split _ ?_ ?_) <;> intro hc <;> try simp at hc) | (refine wp_drawF (by kernel_rfl) ?_) | refine wk_yldW _ ?_ | refine layOwe _ (by kernel_rfl) ?_ | refine owe ?_ (fun ho => ?_) | (simp (disch := first | assumption | omega | (simp; done) | (simp; omega)) [A0, A5, Abs, eZ, -getElem?_pos, gZ, gS]))
     all_goals first
      | (exfalso; omega)
      | exact Aih (Am - 1) _ _ (by omega) ⟨i + 1, by simp [A0, A5, Abs], by simp [A0, A5, Abs], by simp [A0, A5, Abs], by omega, fun j hj => by (by_cases e : j = i; (subst e; exact h0); exact ht j (by omega))⟩
   ·obtain rfl : i = t.length := by omega
    have h2 := kok ht
    rw [h2]
    repeat' (first | ((first | refine wpc_split _ ?_ ?_ | refine ww_split _ ?_ ?_) <;> intro hc <;> try simp at hc) | (refine wp_drawF (by kernel_rfl) ?_) | refine wk_yldW _ ?_ | refine layOwe _ (by kernel_rfl) ?_ | refine owe ?_ (fun ho => ?_) | (simp (disch := first | assumption | omega | (simp; done) | (simp; omega)) [A0, A5, Abs, -getElem?_pos, gZ, gS]))
@[simp] theorem S10 (t : List Sgn) (s : List UInt8) (hs : smZs t) (hl : s.length < 1099511627776) (q1 : Fl) (hh : Heap) : Ci cfg (.func (.func 10) [] []) [R  q1 eZ t, .str s] hh = some (.ret (.bool (fewZ t s)), hh) :=
 Ci_K cfg rfl rfl (by simp) (by simp) (C10 t s hs hl)
end Go.Ab
namespace Go.Ab
open Go.Proofs
set_option maxRecDepth 100000
set_option maxHeartbeats 4000000
instance (x : Sgn) : Decidable (smZ x) := by unfold smZ; infer_instance
theorem sm_t3 : smZs t3 := ⟨by decide, by decide⟩
theorem sm_u1 : smZs u1 := ⟨by decide, by decide⟩
theorem sm_u2 : smZs u2 := ⟨by decide, by decide⟩
theorem ext_twice {t : List Sgn} (hs : smZs t) : cfg.ext 19 [R fl0 eZ t] = some (.ret (.tuple [R fl0 eI (twiceZ t).1, R fl0 eI (twiceZ t).2.1, .bool (twiceZ t).2.2.1, .int .i64 (twiceZ t).2.2.2])) := by
 show extE 19 [R fl0 eZ t] = _
 unfold extE
 rw [if_pos rfl]
 simp only
 rw [if_pos (Tw.twice_ps hs)]
 unfold twiceR
 rw [tabV_R]
@[simp] theorem S19 (t : List Sgn) (hs : smZs t) (q : Fl) (hh : Heap) : Ci cfg (.func (.func 19) [] []) [R q eZ t] hh = some (.ret (.tuple [R fl0 eI (twiceZ t).1, R fl0 eI (twiceZ t).2.1, .bool (twiceZ t).2.2.1, .int .i64 (twiceZ t).2.2.2]), hh) :=
 Ci_ext rfl (by simp) (by simpa using ext_twice hs)
theorem zE1 (hh : Heap) : Ci cfg (.func (.func 11) [] []) [V.row false true [V.str [97], V.row false true [V.int IntKind.i64 1] 1 none, V.str [98], V.row false true [V.int IntKind.i64 3] 1 none, V.str [97, 98], V.row false true [V.int IntKind.i64 7] 1 none] 3 none, V.str [97, 98, 98]] hh = some (.ret (.tuple [R fl0 eI [2, 1], R fl0 eI [7, 3], .bool true, .int .i64 0]), hh) := by
 have := Ci_K cfg (f := 11) (h := hh) (args := [V.row false true [V.str [97], V.row false true [V.int IntKind.i64 1] 1 none, V.str [98], V.row false true [V.int IntKind.i64 3] 1 none, V.str [97, 98], V.row false true [V.int IntKind.i64 7] 1 none] 3 none, V.str [97, 98, 98]]) (xs := [R fl0 eZ t3, V.str [97, 98, 98]]) rfl rfl rfl rfl (C11 t3 [97, 98, 98] sm_t3 (by decide))
 rw [x_e1] at this
 exact this
theorem zE2 (hh : Heap) : Ci cfg (.func (.func 11) [] []) [V.row false true [V.str [97], V.row false true [V.int IntKind.i64 1] 1 none, V.str [98], V.row false true [V.int IntKind.i64 3] 1 none, V.str [97, 98], V.row false true [V.int IntKind.i64 7] 1 none] 3 none, V.str []] hh = some (.ret (.tuple [R fl0 eI [], R fl0 eI [], .bool true, .int .i64 0]), hh) := by
 have := Ci_K cfg (f := 11) (h := hh) (args := [V.row false true [V.str [97], V.row false true [V.int IntKind.i64 1] 1 none, V.str [98], V.row false true [V.int IntKind.i64 3] 1 none, V.str [97, 98], V.row false true [V.int IntKind.i64 7] 1 none] 3 none, V.str []]) (xs := [R fl0 eZ t3, V.str []]) rfl rfl rfl rfl (C11 t3 [] sm_t3 (by decide))
 rw [x_e2] at this
 exact this
theorem zE3 (hh : Heap) : Ci cfg (.func (.func 11) [] []) [V.row false true [V.str [97], V.row false true [V.int IntKind.i64 1] 1 none, V.str [98], V.row false true [V.int IntKind.i64 3] 1 none, V.str [97, 98], V.row false true [V.int IntKind.i64 7] 1 none] 3 none, V.str [99]] hh = some (.ret (.tuple [R fl0 eI [], R fl0 eI [], .bool false, .int .i64 0]), hh) := by
 have := Ci_K cfg (f := 11) (h := hh) (args := [V.row false true [V.str [97], V.row false true [V.int IntKind.i64 1] 1 none, V.str [98], V.row false true [V.int IntKind.i64 3] 1 none, V.str [97, 98], V.row false true [V.int IntKind.i64 7] 1 none] 3 none, V.str [99]]) (xs := [R fl0 eZ t3, V.str [99]]) rfl rfl rfl rfl (C11 t3 [99] sm_t3 (by decide))
 rw [x_e3] at this
 exact this
theorem zD1 (hh : Heap) : Ci cfg (.func (.func 17) [] []) [V.row false true [V.str [97], V.row false true [V.int IntKind.i64 1] 1 none, V.str [98], V.row false true [V.int IntKind.i64 3] 1 none, V.str [97, 98], V.row false true [V.int IntKind.i64 7] 1 none] 3 none, V.row false true [V.int IntKind.i64 1, V.int IntKind.i64 3, V.int IntKind.i64 7] 3 none] hh = some (.ret (.tuple [.str [97, 98, 97, 98], .bool true, .int .i64 0]), hh) := by
 have := Ci_K cfg (f := 17) (h := hh) (args := [V.row false true [V.str [97], V.row false true [V.int IntKind.i64 1] 1 none, V.str [98], V.row false true [V.int IntKind.i64 3] 1 none, V.str [97, 98], V.row false true [V.int IntKind.i64 7] 1 none] 3 none, V.row false true [V.int IntKind.i64 1, V.int IntKind.i64 3, V.int IntKind.i64 7] 3 none]) (xs := [R fl0 eZ t3, R fl0 eI [1, 3, 7]]) rfl rfl rfl rfl (C17 t3 [1, 3, 7] sm_t3 (by decide))
 rw [x_d1] at this
 exact this
theorem zD2 (hh : Heap) : Ci cfg (.func (.func 17) [] []) [V.row false true [V.str [97], V.row false true [V.int IntKind.i64 1] 1 none, V.str [98], V.row false true [V.int IntKind.i64 3] 1 none, V.str [97, 98], V.row false true [V.int IntKind.i64 7] 1 none] 3 none, V.row true true [] 0 none] hh = some (.ret (.tuple [.str [], .bool true, .int .i64 0]), hh) := by
 have := Ci_K cfg (f := 17) (h := hh) (args := [V.row false true [V.str [97], V.row false true [V.int IntKind.i64 1] 1 none, V.str [98], V.row false true [V.int IntKind.i64 3] 1 none, V.str [97, 98], V.row false true [V.int IntKind.i64 7] 1 none] 3 none, V.row true true [] 0 none]) (xs := [R fl0 eZ t3, R fl0 eI []]) rfl rfl rfl rfl (C17 t3 [] sm_t3 (by decide))
 rw [x_d2] at this
 exact this
theorem zD3 (hh : Heap) : Ci cfg (.func (.func 17) [] []) [V.row false true [V.str [97], V.row false true [V.int IntKind.i64 1] 1 none, V.str [98], V.row false true [V.int IntKind.i64 3] 1 none, V.str [97, 98], V.row false true [V.int IntKind.i64 7] 1 none] 3 none, V.row false true [V.int IntKind.i64 2] 1 none] hh = some (.ret (.tuple [.str [], .bool false, .int .i64 0]), hh) := by
 have := Ci_K cfg (f := 17) (h := hh) (args := [V.row false true [V.str [97], V.row false true [V.int IntKind.i64 1] 1 none, V.str [98], V.row false true [V.int IntKind.i64 3] 1 none, V.str [97, 98], V.row false true [V.int IntKind.i64 7] 1 none] 3 none, V.row false true [V.int IntKind.i64 2] 1 none]) (xs := [R fl0 eZ t3, R fl0 eI [2]]) rfl rfl rfl rfl (C17 t3 [2] sm_t3 (by decide))
 rw [x_d3] at this
 exact this
theorem zD4 (hh : Heap) : Ci cfg (.func (.func 17) [] []) [V.row false true [V.str [97], V.row false true [V.int IntKind.i64 1] 1 none, V.str [98], V.row false true [V.int IntKind.i64 3] 1 none, V.str [97, 98], V.row false true [V.int IntKind.i64 7] 1 none] 3 none, V.row false true [V.int IntKind.i64 64] 1 none] hh = some (.ret (.tuple [.str [], .bool false, .int .i64 120]), hh) := by
 have := Ci_K cfg (f := 17) (h := hh) (args := [V.row false true [V.str [97], V.row false true [V.int IntKind.i64 1] 1 none, V.str [98], V.row false true [V.int IntKind.i64 3] 1 none, V.str [97, 98], V.row false true [V.int IntKind.i64 7] 1 none] 3 none, V.row false true [V.int IntKind.i64 64] 1 none]) (xs := [R fl0 eZ t3, R fl0 eI [64]]) rfl rfl rfl rfl (C17 t3 [64] sm_t3 (by decide))
 rw [x_d4] at this
 exact this
theorem zC1 (hh : Heap) : Ci cfg (.func (.func 13) [] []) [V.row true true [] 0 none] hh = some (.ret (.int .i64 120), hh) := by
 have := Ci_K cfg (f := 13) (h := hh) (args := [V.row true true [] 0 none]) (xs := [R fl0 eZ []]) rfl rfl rfl rfl (C13 [] ⟨by decide, by decide⟩)
 rw [x_c1] at this
 exact this
theorem zC2 (hh : Heap) : Ci cfg (.func (.func 13) [] []) [V.row false true [V.str [97], V.row false true [V.int IntKind.i64 1] 1 none, V.str [98], V.row false true [V.int IntKind.i64 3] 1 none, V.str [97, 98], V.row false true [V.int IntKind.i64 7] 1 none] 3 none] hh = some (.ret (.int .i64 0), hh) := by
 have := Ci_K cfg (f := 13) (h := hh) (args := [V.row false true [V.str [97], V.row false true [V.int IntKind.i64 1] 1 none, V.str [98], V.row false true [V.int IntKind.i64 3] 1 none, V.str [97, 98], V.row false true [V.int IntKind.i64 7] 1 none] 3 none]) (xs := [R fl0 eZ t3]) rfl rfl rfl rfl (C13 t3 sm_t3)
 rw [x_c2] at this
 exact this
theorem zC3 (n : Nat) (hh : Heap) : Ci cfg (.func (.func 13) [] []) [V.row false false [V.str [97], V.row false true [V.int IntKind.i64 1] 1 none, V.str [98], V.row false true [V.int IntKind.i64 3] 1 none, V.str [97, 98], V.row false true [V.int IntKind.i64 7] 1 none, V.str [97], V.row false false [V.int IntKind.i64 1] 1 none, V.str [98], V.row false false [V.int IntKind.i64 3] 1 none, V.str [97, 98], V.row false false [V.int IntKind.i64 7] 1 none] 6 (some n)] hh = some (.ret (.int .i64 120), hh) := by
 have := Ci_K cfg (f := 13) (h := hh) (args := [V.row false false [V.str [97], V.row false true [V.int IntKind.i64 1] 1 none, V.str [98], V.row false true [V.int IntKind.i64 3] 1 none, V.str [97, 98], V.row false true [V.int IntKind.i64 7] 1 none, V.str [97], V.row false false [V.int IntKind.i64 1] 1 none, V.str [98], V.row false false [V.int IntKind.i64 3] 1 none, V.str [97, 98], V.row false false [V.int IntKind.i64 7] 1 none] 6 (some n)]) (xs := [R fl0 eZ (t3 ++ t3)]) rfl rfl rfl rfl (C13 (t3 ++ t3) ⟨by decide, by decide⟩)
 rw [x_c3] at this
 exact this
theorem zT1 (hh : Heap) : Ci cfg (.func (.func 19) [] []) [V.row false true [V.str [97], V.row false true [V.int IntKind.i64 1] 1 none, V.str [98], V.row false true [V.int IntKind.i64 1, V.int IntKind.i64 2] 2 none, V.str [99], V.row false true [V.int IntKind.i64 2] 1 none] 3 none] hh = some (.ret (.tuple [R fl0 eI [0, 2], R fl0 eI [1], .bool true, .int .i64 0]), hh) := by
 have e := ext_twice sm_u1
 rw [x_t1] at e
 exact Ci_ext rfl rfl e
theorem zT2 (hh : Heap) : Ci cfg (.func (.func 19) [] []) [V.row false true [V.str [97], V.row false true [V.int IntKind.i64 1] 1 none, V.str [98], V.row false true [V.int IntKind.i64 1, V.int IntKind.i64 2] 2 none] 2 none] hh = some (.ret (.tuple [R fl0 eI [], R fl0 eI [], .bool false, .int .i64 0]), hh) := by
 have e := ext_twice sm_u2
 rw [x_t2] at e
 exact Ci_ext rfl rfl e
theorem zI1 (hh : Heap) : Ci cfg (.func (.func 15) [] []) [R fl0 eI [2, 1], V.row false true [V.int IntKind.i64 2, V.int IntKind.i64 1] 2 none] hh = some (.ret (.bool true), hh) := by
 have := Ci_K cfg (f := 15) (h := hh) (args := [R fl0 eI [2, 1], V.row false true [V.int IntKind.i64 2, V.int IntKind.i64 1] 2 none]) (xs := [R fl0 eI [2, 1], R fl0 eI [2, 1]]) rfl rfl rfl rfl (C15 [2, 1] [2, 1] (by decide))
 rw [show decide (([2, 1] : List Int) = [2, 1]) = true from by decide] at this
 exact this
theorem zI2 (hh : Heap) : Ci cfg (.func (.func 15) [] []) [R fl0 eI [7, 3], V.row false true [V.int IntKind.i64 7, V.int IntKind.i64 3] 2 none] hh = some (.ret (.bool true), hh) := by
 have := Ci_K cfg (f := 15) (h := hh) (args := [R fl0 eI [7, 3], V.row false true [V.int IntKind.i64 7, V.int IntKind.i64 3] 2 none]) (xs := [R fl0 eI [7, 3], R fl0 eI [7, 3]]) rfl rfl rfl rfl (C15 [7, 3] [7, 3] (by decide))
 rw [show decide (([7, 3] : List Int) = [7, 3]) = true from by decide] at this
 exact this
theorem zI3 (hh : Heap) : Ci cfg (.func (.func 15) [] []) [R fl0 eI [0, 2], V.row false true [V.int IntKind.i64 0, V.int IntKind.i64 2] 2 none] hh = some (.ret (.bool true), hh) := by
 have := Ci_K cfg (f := 15) (h := hh) (args := [R fl0 eI [0, 2], V.row false true [V.int IntKind.i64 0, V.int IntKind.i64 2] 2 none]) (xs := [R fl0 eI [0, 2], R fl0 eI [0, 2]]) rfl rfl rfl rfl (C15 [0, 2] [0, 2] (by decide))
 rw [show decide (([0, 2] : List Int) = [0, 2]) = true from by decide] at this
 exact this
theorem zI4 (hh : Heap) : Ci cfg (.func (.func 15) [] []) [R fl0 eI [1], V.row false true [V.int IntKind.i64 1] 1 none] hh = some (.ret (.bool true), hh) := by
 have := Ci_K cfg (f := 15) (h := hh) (args := [R fl0 eI [1], V.row false true [V.int IntKind.i64 1] 1 none]) (xs := [R fl0 eI [1], R fl0 eI [1]]) rfl rfl rfl rfl (C15 [1] [1] (by decide))
 rw [show decide (([1] : List Int) = [1]) = true from by decide] at this
 exact this
theorem zA (h : Heap) : appendV Tryd.prog h false #[22, 22] (V.row false true [V.str [97], V.row false true [V.int IntKind.i64 1] 1 none, V.str [98], V.row false true [V.int IntKind.i64 3] 1 none, V.str [97, 98], V.row false true [V.int IntKind.i64 7] 1 none] 3 none) (V.row false true [V.str [97], V.row false true [V.int IntKind.i64 1] 1 none, V.str [98], V.row false true [V.int IntKind.i64 3] 1 none, V.str [97, 98], V.row false true [V.int IntKind.i64 7] 1 none] 3 none) = some (V.row false false [V.str [97], V.row false true [V.int IntKind.i64 1] 1 none, V.str [98], V.row false true [V.int IntKind.i64 3] 1 none, V.str [97, 98], V.row false true [V.int IntKind.i64 7] 1 none, V.str [97], V.row false false [V.int IntKind.i64 1] 1 none, V.str [98], V.row false false [V.int IntKind.i64 3] 1 none, V.str [97, 98], V.row false false [V.int IntKind.i64 7] 1 none] 6 (some h.ts.length), ⟨h.bs, h.ts ++ [some 2]⟩) := by kernel_rfl
theorem C9  : Kc cfg 9 [] (.ret (.bool true)) := by
 refine outS_of_wp cfg (fn := Tryd.f9) Tryd.func9 rfl (by simp [Tryd.f9]) ?_
 simp (disch := first | assumption | omega | (simp; done) | (simp; omega)) [-getElem?_pos, gZ, gS, Tryd.f9, emptyH]
 repeat' (first | ((first | refine wpc_split _ ?_ ?_ | refine ww_split _ ?_ ?_) <;> intro hc <;> try simp at hc) | (refine wp_drawF (by kernel_rfl) ?_) | refine wk_yldW _ ?_ | refine layOwe _ (by kernel_rfl) ?_ | refine owe ?_ (fun ho => ?_) | (simp (config := { maxSteps := 2000000 }) (disch := first | assumption | omega | (simp; done) | (simp; omega)) [emptyH, Tryd.f26, zE1, zE2, zE3, zD1, zD2, zD3, zD4, zC1, zC2, zC3, zT1, zT2, zI1, zI2, zI3, zI4, zA, -getElem?_pos, gZ, gS]))
 all_goals trace_state
@[simp] theorem S9  (hh : Heap) : Ci cfg (.func (.func 9) [] []) [] hh = some (.ret (.bool true), hh) :=
 Ci_K cfg rfl rfl (by simp) (by simp) (C9 )
end Go.Ab
