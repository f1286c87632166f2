/- A part of the proof. -/
import Derived.Test.YtlmhbemgaikmaaaGreatDoorGr21
import Derived.Test.YtlmhbemgaikmaaaGreatDoorGr9
import Derived.Test.YtlmhbemgaikmaaaGreatDoorGr12
import Derived.Test.YtlmhbemgaikmaaaGreatDoorJ2
set_option linter.unusedVariables false
set_option linter.unusedSimpArgs false
set_option linter.unusedSectionVars false
set_option linter.deprecated false
namespace Go.Ab
open Go.Proofs
set_option maxRecDepth 100000
set_option maxHeartbeats 4000000
theorem C54 (s : ScrZ) (hs : s.bl.length < 1099511627776) : Kc cfg 54 [.agg [.int .i64 s.w, .int .i64 s.h, R fl0 eQ s.bl]] (.ret (.int .i64 (scrE s))) := by
 have hmany := scrE_many (s := s)
 have hsize := scrE_size (s := s)
 have hbad := fun h i => scrE_bad (s := s) h (i := i)
 have hok := scrE_ok (s := s)
 generalize hF : scrE s = F at *
 by_cases h32 : 32 < s.bl.length
 ·rw [hmany h32]
  refine outS_of_wp cfg (fn := Tryz.f54) Tryz.func54 rfl (by simp [Tryz.f54]) ?_
  simp (disch := first|exact DD|fail) [-getElem?_pos, gZ, gS, Tryz.f54, h32]
  repeat' (first|((first|refine wA ?_ ?_|refine wB ?_ ?_)<;>intro hc<;>try simp at hc)|refine wF ?_|refine wY ?_|refine wL ?_|refine owe ?_ fun ho=>?_|(simp (disch := first|exact DD|fail) [h32, -getElem?_pos, gZ, gS]))
  all_goals try (exfalso; omega)
 by_cases hp : pixB s.w = true ∧ pixB s.h = true
 ·obtain ⟨p1, p2⟩ := hp
  have p3 := p1
  have p4 := p2
  rw [pixB_t] at p3 p4
  refine outS_of_wp cfg (fn := Tryz.f54) Tryz.func54 rfl (by simp [Tryz.f54]) ?_
  simp (disch := first|exact DD|fail) [-getElem?_pos, gZ, gS, Tryz.f54, p1, p2]
  repeat' (first|((first|refine wA ?_ ?_|refine wB ?_ ?_)<;>intro hc<;>try simp at hc)|refine wF ?_|refine wY ?_|refine wL ?_|refine owe ?_ fun ho=>?_|(simp (disch := first|exact DD|fail) [p1, p2, -getElem?_pos, gZ, gS]))
  all_goals try (exfalso; omega)
  refine wp_loopE cfg rfl (fun f0 h0 m fr h => ∃ i : Nat, fr 1 = f0 1 ∧ fr 3 = .int .i64 i ∧ h.bs = h0.bs ∧ (i + m = s.bl.length) ∧ (∀ j, j < i → liesB s.w s.h (nth s.bl j) = true)) (s.bl.length) _ _ ⟨0, rfl, by first | rfl | (simp; done) | (simp [R]; done) | simp [R], rfl, by first | rfl | (simp; done) | omega, fun j hj => by omega⟩ ?_
  rintro Am Af Ah ⟨i, A1, A3, Abs, hm, ht⟩ Aih
  try simp at A1 Abs
  by_cases hi : i < s.bl.length
  ·cases hl : liesB s.w s.h (nth s.bl i) with
   | false =>
    have h2 := hbad h32 i hi hl
    repeat' (first|((first|refine wA ?_ ?_|refine wB ?_ ?_)<;>intro hc<;>try simp at hc)|refine wF ?_|refine wY ?_|refine wL ?_|refine owe ?_ fun ho=>?_|(simp (disch := first|exact DD|fail) [A1, A3, Abs, eQ, hl, p3, p4, -getElem?_pos, gZ, gS]))
    all_goals first | exact h2.symm | (exfalso; omega) | rw [h2]
   | true =>
    repeat' (first|((first|refine wA ?_ ?_|refine wB ?_ ?_)<;>intro hc<;>try simp at hc)|refine wF ?_|refine wY ?_|refine wL ?_|refine owe ?_ fun ho=>?_|(simp (disch := first|exact DD|fail) [A1, A3, Abs, eQ, hl, p3, p4, -getElem?_pos, gZ, gS]))
    all_goals try (exfalso; omega)
    exact Aih (Am - 1) _ _ (by omega) ⟨i + 1, by simp [A1, A3, Abs], by simp [A1, A3, Abs], by simp [A1, A3, Abs], by omega, fun j hj => by (by_cases e : j = i; (subst e; exact hl); exact ht j (by omega))⟩
  ·obtain rfl : i = s.bl.length := by omega
   have h2 := hok h32 p1 p2 ht
   repeat' (first|((first|refine wA ?_ ?_|refine wB ?_ ?_)<;>intro hc<;>try simp at hc)|refine wF ?_|refine wY ?_|refine wL ?_|refine owe ?_ fun ho=>?_|(simp (disch := first|exact DD|fail) [A1, A3, Abs, -getElem?_pos, gZ, gS]))
   all_goals first | exact h2.symm | (exfalso; omega) | rw [h2]
 ·have h2 := hsize h32 hp
  rw [h2]
  cases p1 : pixB s.w with
  | false =>
   refine outS_of_wp cfg (fn := Tryz.f54) Tryz.func54 rfl (by simp [Tryz.f54]) ?_
   simp (disch := first|exact DD|fail) [-getElem?_pos, gZ, gS, Tryz.f54, p1]
   repeat' (first|((first|refine wA ?_ ?_|refine wB ?_ ?_)<;>intro hc<;>try simp at hc)|refine wF ?_|refine wY ?_|refine wL ?_|refine owe ?_ fun ho=>?_|(simp (disch := first|exact DD|fail) [p1, -getElem?_pos, gZ, gS]))
   all_goals try (exfalso; omega)
  | true =>
   have p2 : pixB s.h = false := by
    cases q : pixB s.h with
    | false => rfl
    | true => exact absurd ⟨p1, q⟩ hp
   refine outS_of_wp cfg (fn := Tryz.f54) Tryz.func54 rfl (by simp [Tryz.f54]) ?_
   simp (disch := first|exact DD|fail) [-getElem?_pos, gZ, gS, Tryz.f54, p1, p2]
   repeat' (first|((first|refine wA ?_ ?_|refine wB ?_ ?_)<;>intro hc<;>try simp at hc)|refine wF ?_|refine wY ?_|refine wL ?_|refine owe ?_ fun ho=>?_|(simp (disch := first|exact DD|fail) [p1, p2, -getElem?_pos, gZ, gS]))
   all_goals try (exfalso; omega)
@[simp] theorem S54 (s : ScrZ) (hs : s.bl.length < 1099511627776) (q1 : Fl) (hh : Heap) : Ci cfg (.func (.func 54) [] []) [.agg [.int .i64 s.w, .int .i64 s.h, R  q1 eQ s.bl]] hh = some (.ret (.int .i64 (scrE s)), hh) :=
 Ci_K cfg rfl rfl (by simp) (by simp) (C54 s hs)
end Go.Ab
namespace Go.Ab
open Go.Proofs
set_option maxRecDepth 100000
set_option maxHeartbeats 4000000
theorem C53 (n lo hi : Int) : Kc cfg 53 [.int .i64 n, .int .i64 lo, .int .i64 hi] (.ret (.bool (inB n lo hi))) := by
 refine outS_of_wp cfg (fn := Tryz.f53) Tryz.func53 rfl (by simp [Tryz.f53]) ?_
 simp (disch := first|exact DD|fail) [-getElem?_pos, gZ, gS, Tryz.f53]
 repeat' (first|((first|refine wA ?_ ?_|refine wB ?_ ?_)<;>intro hc<;>try simp at hc)|refine wF ?_|refine wY ?_|refine wL ?_|refine owe ?_ fun ho=>?_|(simp (disch := first|exact DD|fail) [-getElem?_pos, gZ, gS]))
 all_goals grind [inB]
@[simp] theorem S53 (n lo hi : Int) (hh : Heap) : Ci cfg (.func (.func 53) [] []) [.int .i64 n, .int .i64 lo, .int .i64 hi] hh = some (.ret (.bool (inB n lo hi)), hh) :=
 Ci_K cfg rfl rfl (by simp) (by simp) (C53 n lo hi)
theorem C26 (v : VwZ) (hs : smVw v) : Kc cfg 26 [.agg [.int .i64 v.no, .int .i64 v.lang, .int .i64 v.lines, .int .i64 v.room, .int .i64 v.cells, .int .i64 v.speed, .bool v.right, R fl0 eG v.font.gs, .int .i64 v.font.other, R fl0 eK v.font.ks, R fl0 eZ v.signs, .int .i64 v.scr.w, .int .i64 v.scr.h, R fl0 eQ v.scr.bl]] (.ret (.bool (vwR v))) := by
 obtain ⟨hs1, hs2, hs3⟩ := hs
 have kbase := baseB_t (v := v)
 have kno := vwR_base (v := v)
 by_cases hc0 : v.cells = 0
 ·have kright := vwR_s hc0
  generalize hF : vwR v = F at *
  generalize hB : baseB v = B at *
  clear hF hB
  refine outS_of_wp cfg (fn := Tryz.f26) Tryz.func26 rfl (by simp [Tryz.f26]) ?_
  simp (disch := first|exact DD|fail) [-getElem?_pos, gZ, gS, Tryz.f26, emptyH, hc0]
  repeat' (first|((first|refine wA ?_ ?_|refine wB ?_ ?_)<;>intro hc<;>try simp at hc)|refine wF ?_|refine wY ?_|refine wL ?_|refine owe ?_ fun ho=>?_|(simp (disch := first|exact DD|fail) [emptyH, hc0, -getElem?_pos, gZ, gS]))
  all_goals (clear hs1 hs2 hs3; grind)
 ·have kright := vwR_c hc0
  generalize hF : vwR v = F at *
  generalize hB : baseB v = B at *
  clear hF hB
  refine outS_of_wp cfg (fn := Tryz.f26) Tryz.func26 rfl (by simp [Tryz.f26]) ?_
  simp (disch := first|exact DD|fail) [-getElem?_pos, gZ, gS, Tryz.f26, emptyH, hc0]
  repeat' (first|((first|refine wA ?_ ?_|refine wB ?_ ?_)<;>intro hc<;>try simp at hc)|refine wF ?_|refine wY ?_|refine wL ?_|refine owe ?_ fun ho=>?_|(simp (disch := first|exact DD|fail) [emptyH, hc0, -getElem?_pos, gZ, gS]))
  all_goals (clear hs1 hs2 hs3; grind)
@[simp] theorem S26 (v : VwZ) (hs : smVw v) (q1 q2 q3 q4 : Fl) (hh : Heap) : Ci cfg (.func (.func 26) [] []) [.agg [.int .i64 v.no, .int .i64 v.lang, .int .i64 v.lines, .int .i64 v.room, .int .i64 v.cells, .int .i64 v.speed, .bool v.right, R  q1 eG v.font.gs, .int .i64 v.font.other, R  q2 eK v.font.ks, R  q3 eZ v.signs, .int .i64 v.scr.w, .int .i64 v.scr.h, R  q4 eQ v.scr.bl]] hh = some (.ret (.bool (vwR v)), hh) :=
 Ci_K cfg rfl rfl (by simp) (by simp) (C26 v hs)
theorem C6 (v : VwZ) (hs : smVw v) : Kc cfg 6 [.agg [.int .i64 v.no, .int .i64 v.lang, .int .i64 v.lines, .int .i64 v.room, .int .i64 v.cells, .int .i64 v.speed, .bool v.right, R fl0 eG v.font.gs, .int .i64 v.font.other, R fl0 eK v.font.ks, R fl0 eZ v.signs, .int .i64 v.scr.w, .int .i64 v.scr.h, R fl0 eQ v.scr.bl]] (.ret (.int .i64 (vwE v))) := by
 have kf : vwE v = if vwR v = true then 0 else 450 := rfl
 refine outS_of_wp cfg (fn := Tryz.f6) Tryz.func6 rfl (by simp [Tryz.f6]) ?_
 simp (disch := first|exact DD|fail) [-getElem?_pos, gZ, gS, Tryz.f6]
 repeat' (first|((first|refine wA ?_ ?_|refine wB ?_ ?_)<;>intro hc<;>try simp at hc)|refine wF ?_|refine wY ?_|refine wL ?_|refine owe ?_ fun ho=>?_|(simp (disch := first|exact DD|fail) [-getElem?_pos, gZ, gS]))
 all_goals simp_all
@[simp] theorem S6 (v : VwZ) (hs : smVw v) (q1 q2 q3 q4 : Fl) (hh : Heap) : Ci cfg (.func (.func 6) [] []) [.agg [.int .i64 v.no, .int .i64 v.lang, .int .i64 v.lines, .int .i64 v.room, .int .i64 v.cells, .int .i64 v.speed, .bool v.right, R  q1 eG v.font.gs, .int .i64 v.font.other, R  q2 eK v.font.ks, R  q3 eZ v.signs, .int .i64 v.scr.w, .int .i64 v.scr.h, R  q4 eQ v.scr.bl]] hh = some (.ret (.int .i64 (vwE v)), hh) :=
 Ci_K cfg rfl rfl (by simp) (by simp) (C6 v hs)
end Go.Ab
