/- A part of the proof. -/
import Derived.Test.YtlmhbemgaikmaaaGreatDoorP46
set_option linter.unusedVariables false
set_option linter.unusedSimpArgs false
set_option linter.unusedSectionVars false
set_option linter.deprecated false
namespace Go.Ab
open Go.Proofs
set_option maxRecDepth 100000
set_option maxHeartbeats 4000000
theorem C91 (n : Int) : Kc cfg 91 [.int .i64 n] (.ret (.bool (pixB n))) := by
 refine outS_of_wp cfg (fn := Tryz.f91) Tryz.func91 rfl (by simp [Tryz.f91]) ?_
 simp (disch := first|exact DD|fail) [-getElem?_pos, gZ, gS, Tryz.f91]
 repeat' (first|((first|refine wA ?_ ?_|refine wB ?_ ?_)<;>intro hc<;>try simp at hc)|refine wF ?_|refine wY ?_|refine wL ?_|refine owe ?_ fun ho=>?_|(simp (disch := first|exact DD|fail) [-getElem?_pos, gZ, gS]))
 all_goals grind [pixB]
@[simp] theorem S91 (n : Int) (hh : Heap) : Ci cfg (.func (.func 91) [] []) [.int .i64 n] hh = some (.ret (.bool (pixB n)), hh) :=
 Ci_K cfg rfl rfl (by simp) (by simp) (C91 n)
theorem C79 (n : Int) : Kc cfg 79 [.int .i64 n] (.ret (.bool (pixB n))) := by
 refine outS_of_wp cfg (fn := Tryz.f79) Tryz.func79 rfl (by simp [Tryz.f79]) ?_
 simp (disch := first|exact DD|fail) [-getElem?_pos, gZ, gS, Tryz.f79]
 repeat' (first|((first|refine wA ?_ ?_|refine wB ?_ ?_)<;>intro hc<;>try simp at hc)|refine wF ?_|refine wY ?_|refine wL ?_|refine owe ?_ fun ho=>?_|(simp (disch := first|exact DD|fail) [-getElem?_pos, gZ, gS]))
 all_goals grind [pixB]
@[simp] theorem S79 (n : Int) (hh : Heap) : Ci cfg (.func (.func 79) [] []) [.int .i64 n] hh = some (.ret (.bool (pixB n)), hh) :=
 Ci_K cfg rfl rfl (by simp) (by simp) (C79 n)
theorem C80 (w h : Int) (r : RectZ) (hs : (1 ≤ w ∧ w ≤ 16384) ∧ 1 ≤ h ∧ h ≤ 16384) : Kc cfg 80 [.int .i64 w, .int .i64 h, .agg [.int .i64 r.x, .int .i64 r.y, .int .i64 r.w, .int .i64 r.h]] (.ret (.bool (liesB w h r))) := by
 obtain ⟨r1, r2, r3, r4⟩ := r
 have hlb := liesB_t (w := w) (h := h) (r := ⟨r1, r2, r3, r4⟩)
 generalize hF : liesB w h ⟨r1, r2, r3, r4⟩ = F at *
 simp only at hlb
 refine outS_of_wp cfg (fn := Tryz.f80) Tryz.func80 rfl (by simp [Tryz.f80]) ?_
 simp (disch := first|exact DD|fail) [-getElem?_pos, gZ, gS, Tryz.f80]
 repeat' (first|((first|refine wA ?_ ?_|refine wB ?_ ?_)<;>intro hc<;>try simp at hc)|refine wF ?_|refine wY ?_|refine wL ?_|refine owe ?_ fun ho=>?_|(simp (disch := first|exact DD|fail) [-getElem?_pos, gZ, gS]))
 all_goals grind
@[simp] theorem S80 (w h : Int) (r : RectZ) (hs : (1 ≤ w ∧ w ≤ 16384) ∧ 1 ≤ h ∧ h ≤ 16384) (hh : Heap) : Ci cfg (.func (.func 80) [] []) [.int .i64 w, .int .i64 h, .agg [.int .i64 r.x, .int .i64 r.y, .int .i64 r.w, .int .i64 r.h]] hh = some (.ret (.bool (liesB w h r)), hh) :=
 Ci_K cfg rfl rfl (by simp) (by simp) (C80 w h r hs)
end Go.Ab
namespace Go.Ab
open Go.Proofs
set_option maxRecDepth 100000
set_option maxHeartbeats 4000000
@[local simp] theorem foldN_minV (k k' : IntKind) (a b : Int) : foldN .min (.int k a) [.int k' b] = some (.int k (min a b)) := by
 simp only [foldN, maxN]
 congr 2
 by_cases h : b < a
 ·rw [if_pos h]; omega
 ·rw [if_neg h]; omega
theorem C67 (s : ScrZ) (hs : s.bl.length < 1099511627776) : Kc cfg 67 [.agg [.int .i64 s.w, .int .i64 s.h, R fl0 eQ s.bl]] (.ret (.int .i64 (scrE s))) := by
 have hmany := scrE_many (s := s)
 have hsize := scrE_size (s := s)
 have hbad := fun h i => scrE_bad (s := s) h (i := i)
 have hok := scrE_ok (s := s)
 generalize hF : scrE s = F at *
 by_cases h32 : 32 < s.bl.length
 ·rw [hmany h32]
  refine outS_of_wp cfg (fn := Tryz.f67) Tryz.func67 rfl (by simp [Tryz.f67]) ?_
  simp (disch := first|exact DD|fail) [-getElem?_pos, gZ, gS, Tryz.f67, h32]
  repeat' (first|((first|refine wA ?_ ?_|refine wB ?_ ?_)<;>intro hc<;>try simp at hc)|refine wF ?_|refine wY ?_|refine wL ?_|refine owe ?_ fun ho=>?_|(simp (disch := first|exact DD|fail) [h32, -getElem?_pos, gZ, gS]))
  all_goals try (exfalso; omega)
 by_cases hp : pixB s.w = true ∧ pixB s.h = true
 ·obtain ⟨p1, p2⟩ := hp
  have p3 := p1
  have p4 := p2
  rw [pixB_t] at p3 p4
  refine outS_of_wp cfg (fn := Tryz.f67) Tryz.func67 rfl (by simp [Tryz.f67]) ?_
  simp (disch := first|exact DD|fail) [-getElem?_pos, gZ, gS, Tryz.f67, p1, p2, emptyH]
  repeat' (first|((first|refine wA ?_ ?_|refine wB ?_ ?_)<;>intro hc<;>try simp at hc)|refine wF ?_|refine wY ?_|refine wL ?_|refine owe ?_ fun ho=>?_|(simp (disch := first|exact DD|fail) [p1, p2, emptyH, Tryz.f92, Tryz.f98, -getElem?_pos, gZ, gS]))
  all_goals try (exfalso; omega)
  refine wp_loopE cfg rfl (fun f0 h0 m fr h => ∃ i : Nat, ∃ X : List Blk, fr 0 = f0 0 ∧ fr 1 = f0 1 ∧ fr 7 = f0 7 ∧ fr 8 = .int .i64 i ∧ (h.bs = .cells [.int .i64 s.w, .int .i64 s.h, R fl0 eQ s.bl] :: X) ∧ (i + m = s.bl.length) ∧ (∀ j, j < i → liesB s.w s.h (nth s.bl j) = true)) (s.bl.length) _ _ ⟨0, [], rfl, rfl, rfl, by first | rfl | (simp; done) | (simp [R]; done) | simp [R], by simp, by first | rfl | (simp; done) | omega, fun j hj => by omega⟩ ?_
  rintro Am Af Ah ⟨i, X, A0, A1, A7, A8, hb, hm, ht⟩ Aih
  try simp at A0 A1 A7
  by_cases hi : i < s.bl.length
  ·cases hl : liesB s.w s.h (nth s.bl i) with
   | false =>
    have h2 := hbad h32 i hi hl
    rw [liesB_f] at hl
    repeat' (first|((first|refine wA ?_ ?_|refine wB ?_ ?_)<;>intro hc<;>try simp at hc)|refine wF ?_|refine wY ?_|refine wL ?_|refine owe ?_ fun ho=>?_|(simp (disch := first|exact DD|fail) [A0, A1, A7, A8, hb, eQ, p3, p4, Tryz.f90, -getElem?_pos, gZ, gS]))
    all_goals first | exact h2.symm | (exfalso; omega) | rw [h2] | skip
   | true =>
    rw [liesB_t] at hl
    repeat' (first|((first|refine wA ?_ ?_|refine wB ?_ ?_)<;>intro hc<;>try simp at hc)|refine wF ?_|refine wY ?_|refine wL ?_|refine owe ?_ fun ho=>?_|(simp (disch := first|exact DD|fail) [A0, A1, A7, A8, hb, eQ, p3, p4, Tryz.f90, -getElem?_pos, gZ, gS]))
    all_goals try (exfalso; omega)
    exact Aih (Am - 1) _ _ (by omega) ⟨i + 1, X ++ [.cells (eQ (nth s.bl i))], by simp [A0, A1, A7, A8], by simp [A0, A1, A7, A8], by simp [A0, A1, A7, A8], by simp [A0, A1, A7, A8], (by simp [hb, eQ]), by omega, fun j hj => by (by_cases e : j = i; (subst e; exact (liesB_t.2 hl)); exact ht j (by omega))⟩
  ·obtain rfl : i = s.bl.length := by omega
   have h2 := hok h32 p1 p2 ht
   repeat' (first|((first|refine wA ?_ ?_|refine wB ?_ ?_)<;>intro hc<;>try simp at hc)|refine wF ?_|refine wY ?_|refine wL ?_|refine owe ?_ fun ho=>?_|(simp (disch := first|exact DD|fail) [A0, A1, A7, A8, hb, -getElem?_pos, gZ, gS]))
   all_goals first | exact h2.symm | (exfalso; omega) | rw [h2]
 ·have h2 := hsize h32 hp
  rw [h2]
  cases p1 : pixB s.w with
  | false =>
   refine outS_of_wp cfg (fn := Tryz.f67) Tryz.func67 rfl (by simp [Tryz.f67]) ?_
   simp (disch := first|exact DD|fail) [-getElem?_pos, gZ, gS, Tryz.f67, p1]
   repeat' (first|((first|refine wA ?_ ?_|refine wB ?_ ?_)<;>intro hc<;>try simp at hc)|refine wF ?_|refine wY ?_|refine wL ?_|refine owe ?_ fun ho=>?_|(simp (disch := first|exact DD|fail) [p1, -getElem?_pos, gZ, gS]))
   all_goals try (exfalso; omega)
  | true =>
   have p2 : pixB s.h = false := by
    cases q : pixB s.h with
    | false => rfl
    | true => exact absurd ⟨p1, q⟩ hp
   refine outS_of_wp cfg (fn := Tryz.f67) Tryz.func67 rfl (by simp [Tryz.f67]) ?_
   simp (disch := first|exact DD|fail) [-getElem?_pos, gZ, gS, Tryz.f67, p1, p2]
   repeat' (first|((first|refine wA ?_ ?_|refine wB ?_ ?_)<;>intro hc<;>try simp at hc)|refine wF ?_|refine wY ?_|refine wL ?_|refine owe ?_ fun ho=>?_|(simp (disch := first|exact DD|fail) [p1, p2, -getElem?_pos, gZ, gS]))
   all_goals try (exfalso; omega)
@[simp] theorem S67 (s : ScrZ) (hs : s.bl.length < 1099511627776) (q1 : Fl) (hh : Heap) : Ci cfg (.func (.func 67) [] []) [.agg [.int .i64 s.w, .int .i64 s.h, R  q1 eQ s.bl]] hh = some (.ret (.int .i64 (scrE s)), hh) :=
 Ci_K cfg rfl rfl (by simp) (by simp) (C67 s hs)
end Go.Ab
