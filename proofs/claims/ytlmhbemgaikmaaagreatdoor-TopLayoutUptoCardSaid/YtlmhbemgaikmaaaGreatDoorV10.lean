
import Derived.Test.YtlmhbemgaikmaaaGreatDoorGr6
set_option linter.unusedVariables false
set_option linter.unusedSimpArgs false
set_option linter.unusedSectionVars false
set_option linter.deprecated false
namespace Go.Ab
open Go.Proofs
set_option maxRecDepth 100000
set_option maxHeartbeats 4000000
def few1 (x : Sgn) : Bool := decide (x.text.length ≤ 40 ∧ x.cells.length ≤ 10)
def fewH (t : List Sgn) (s : List UInt8) : Bool := !decide (6 < t.length ∧ t.length ≤ 64 ∨ 100 < t.length ∨ 40 < s.length ∧ s.length ≤ 4096 ∨ 5000 < s.length)
def fewZ (t : List Sgn) (s : List UInt8) : Bool := fewH t s && t.all few1
theorem fewZ_bad {t : List Sgn} {s : List UInt8} {i : Nat} (hi : i < t.length) (h : few1 (nth t i) = false) : fewZ t s = false := by
 unfold fewZ
 have : t.all few1 = false := by
  rw [List.all_eq_false]
  exact ⟨_, nth_mem hi, by simp [h]⟩
 rw [this, Bool.and_false]
theorem fewZ_ok {t : List Sgn} {s : List UInt8} (h : fewH t s = true) (k : ∀ j, j < t.length → few1 (nth t j) = true) : fewZ t s = true := by
 unfold fewZ
 have : t.all few1 = true := by
  rw [List.all_eq_true]
  intro x hx
  obtain ⟨j, hj, rfl⟩ := List.getElem_of_mem hx
  have := k j hj
  rwa [nth_eq hj] at this
 rw [h, this]; rfl
theorem C25 (t : List Sgn) (s : List UInt8) (hs : smZs t) (hl : s.length < 1099511627776) : Kc cfg 25 [R fl0 eZ t, .str s] (.ret (.bool (fewZ t s))) := by
 have hs1 := hs.1
 have kbad := fun i => fewZ_bad (t := t) (s := s) (i := i)
 have kok := fewZ_ok (t := t) (s := s)
 cases hH : fewH t s with
 | false =>
  have hF : fewZ t s = false := by unfold fewZ; rw [hH]; rfl
  rw [hF]
  clear kbad kok hF
  simp only [fewH, Bool.not_eq_false', decide_eq_true_eq] at hH
  refine outS_of_wp cfg (fn := Tryz.f25) Tryz.func25 rfl (by simp [Tryz.f25]) ?_
  simp (disch := first | assumption | omega | (simp; done) | (simp; omega)) [-getElem?_pos, gZ, gS, Tryz.f25, ]
  repeat' (first|((first|refine wA ?_ ?_|refine wB ?_ ?_)<;>intro hc<;>try simp at hc)|refine wF ?_|refine wY ?_|refine wL ?_|refine owe ?_ fun ho=>?_|(simp (disch := first | assumption | omega | (simp; done) | (simp; omega)) [-getElem?_pos, gZ, gS]))
  all_goals (exfalso; omega)
 | true =>
  have kok := kok hH
  generalize hF : fewZ t s = F at *
  simp only [fewH, Bool.not_eq_true', decide_eq_false_iff_not] at hH
  refine outS_of_wp cfg (fn := Tryz.f25) Tryz.func25 rfl (by simp [Tryz.f25]) ?_
  simp (disch := first | assumption | omega | (simp; done) | (simp; omega)) [-getElem?_pos, gZ, gS, Tryz.f25, ]
  repeat' (first|((first|refine wA ?_ ?_|refine wB ?_ ?_)<;>intro hc<;>try simp at hc)|refine wF ?_|refine wY ?_|refine wL ?_|refine owe ?_ fun ho=>?_|(simp (disch := first | assumption | omega | (simp; done) | (simp; omega)) [-getElem?_pos, gZ, gS]))
  all_goals try (exfalso; omega)
  all_goals
   refine wp_loopE cfg rfl (fun f0 h0 m fr h => ∃ i : Nat, fr 0 = f0 0 ∧ fr 5 = .int .i64 i ∧ h.bs = h0.bs ∧ (i + m = t.length) ∧ (∀ j, j < i → few1 (nth t j) = true)) (t.length) _ _ ⟨0, rfl, by first | rfl | (simp; done) | (simp [R]; done) | simp [R], rfl, by first | rfl | (simp; done) | omega, fun j hj => by omega⟩ ?_
   rintro Am Af Ah ⟨i, A0, A5, Abs, hm, ht⟩ Aih
   try simp at A0 Abs
   by_cases hi : i < t.length
   ·obtain ⟨k1, k2⟩ := smZs_nth hs hi
    cases h1 : few1 (nth t i) with
    | false =>
     have h2 := kbad i hi h1
     simp only [few1, decide_eq_false_iff_not] at h1
     rw [h2]
     repeat' (first|((first|refine wA ?_ ?_|refine wB ?_ ?_)<;>intro hc<;>try simp at hc)|refine wF ?_|refine wY ?_|refine wL ?_|refine owe ?_ fun ho=>?_|(simp (disch := first | assumption | omega | (simp; done) | (simp; omega)) [A0, A5, Abs, eZ, -getElem?_pos, gZ, gS]))
     all_goals (exfalso; omega)
    | true =>
     have h0 := h1
     simp only [few1, decide_eq_true_eq] at h1
     repeat' (first|((first|refine wA ?_ ?_|refine wB ?_ ?_)<;>intro hc<;>try simp at hc)|refine wF ?_|refine wY ?_|refine wL ?_|refine owe ?_ fun ho=>?_|(simp (disch := first | assumption | omega | (simp; done) | (simp; omega)) [A0, A5, Abs, eZ, -getElem?_pos, gZ, gS]))
     all_goals first
      | (exfalso; omega)
      | exact Aih (Am - 1) _ _ (by omega) ⟨i + 1, by simp [A0, A5, Abs], by simp [A0, A5, Abs], by simp [A0, A5, Abs], by omega, fun j hj => by (by_cases e : j = i; (subst e; exact h0); exact ht j (by omega))⟩
   ·obtain rfl : i = t.length := by omega
    have h2 := kok ht
    rw [h2]
    repeat' (first|((first|refine wA ?_ ?_|refine wB ?_ ?_)<;>intro hc<;>try simp at hc)|refine wF ?_|refine wY ?_|refine wL ?_|refine owe ?_ fun ho=>?_|(simp (disch := first | assumption | omega | (simp; done) | (simp; omega)) [A0, A5, Abs, -getElem?_pos, gZ, gS]))
@[simp] theorem S25 (t : List Sgn) (s : List UInt8) (hs : smZs t) (hl : s.length < 1099511627776) (q1 : Fl) (hh : Heap) : Ci cfg (.func (.func 25) [] []) [R  q1 eZ t, .str s] hh = some (.ret (.bool (fewZ t s)), hh) :=
 Ci_K cfg rfl rfl (by simp) (by simp) (C25 t s hs hl)
end Go.Ab
