/- A part of the proof. -/
import Derived.Test.YtlmhbemgaikmaaaGreatDoorGr5
import Derived.Test.YtlmhbemgaikmaaaGreatDoorV10
import Derived.Test.YtlmhbemgaikmaaaGreatDoorGr9
set_option linter.unusedVariables false
set_option linter.unusedSimpArgs false
set_option linter.unusedSectionVars false
set_option linter.deprecated false
namespace Go.Ab
open Go.Proofs
set_option maxRecDepth 100000
set_option maxHeartbeats 4000000
theorem C24 (f : Font) (s : List UInt8) (hs : f.gs.length < 1099511627776 ∧ f.ks.length < 1099511627776 ∧ s.length < 1099511627776) : Kc cfg 24 [.agg [R fl0 eG f.gs, .int .i64 f.other, R fl0 eK f.ks], .str s] (.ret (.bool (decide ((f.gs.length ≤ 30 ∨ 1024 < f.gs.length ∧ f.gs.length ≤ 1100) ∧ (f.ks.length ≤ 30 ∨ 1024 < f.ks.length ∧ f.ks.length ≤ 1100) ∧ s.length ≤ 200)))) := by
 refine outS_of_wp cfg (fn := Tryz.f24) Tryz.func24 rfl (by simp [Tryz.f24]) ?_
 simp (disch := first|exact DD|fail) [-getElem?_pos, gZ, gS, Tryz.f24]
 repeat' (first|((first|refine wA ?_ ?_|refine wB ?_ ?_)<;>intro hc<;>try simp at hc)|refine wF ?_|refine wY ?_|refine wL ?_|refine owe ?_ fun ho=>?_|(simp (disch := first|exact DD|fail) [-getElem?_pos, gZ, gS]))
 all_goals first | omega | (simp; omega) | grind
@[simp] theorem S24 (f : Font) (s : List UInt8) (hs : f.gs.length < 1099511627776 ∧ f.ks.length < 1099511627776 ∧ s.length < 1099511627776) (q1 q2 : Fl) (hh : Heap) : Ci cfg (.func (.func 24) [] []) [.agg [R  q1 eG f.gs, .int .i64 f.other, R  q2 eK f.ks], .str s] hh = some (.ret (.bool (decide ((f.gs.length ≤ 30 ∨ 1024 < f.gs.length ∧ f.gs.length ≤ 1100) ∧ (f.ks.length ≤ 30 ∨ 1024 < f.ks.length ∧ f.ks.length ≤ 1100) ∧ s.length ≤ 200))), hh) :=
 Ci_K cfg rfl rfl (by simp) (by simp) (C24 f s hs)
end Go.Ab
namespace Go.Ab
open Go.Proofs
set_option maxRecDepth 100000
set_option maxHeartbeats 4000000
def fewF (v : VwZ) (s : List UInt8) : Bool := (decide ((v.font.gs.length ≤ 30 ∨ 1024 < v.font.gs.length ∧ v.font.gs.length ≤ 1100) ∧ (v.font.ks.length ≤ 30 ∨ 1024 < v.font.ks.length ∧ v.font.ks.length ≤ 1100) ∧ s.length ≤ 200))
def fewW (v : VwZ) (s : List UInt8) : Bool := fewF v s && fewZ v.signs s && decide (s.length ≤ 40) && decide (v.scr.bl.length ≤ 60)
theorem fewW_iff {v : VwZ} {s : List UInt8} : fewW v s = true ↔ fewF v s = true ∧ fewZ v.signs s = true ∧ (s.length : Int) ≤ 40 ∧ (v.scr.bl.length : Int) ≤ 60 := by
 have h1 : ((s.length : Int) ≤ 40) ↔ s.length ≤ 40 := by omega
 have h2 : ((v.scr.bl.length : Int) ≤ 60) ↔ v.scr.bl.length ≤ 60 := by omega
 rw [h1, h2]
 simp only [fewW, Bool.and_eq_true, decide_eq_true_eq, and_assoc]
theorem C5 (v : VwZ) (s : List UInt8) (hs : smVw v) (hl : s.length < 1099511627776) : Kc cfg 5 [.agg [.int .i64 v.no, .int .i64 v.lang, .int .i64 v.lines, .int .i64 v.room, .int .i64 v.cells, .int .i64 v.speed, .bool v.right, R fl0 eG v.font.gs, .int .i64 v.font.other, R fl0 eK v.font.ks, R fl0 eZ v.signs, .int .i64 v.scr.w, .int .i64 v.scr.h, R fl0 eQ v.scr.bl], .str s] (.ret (.bool (fewW v s))) := by
 have hsf : v.font.gs.length < 1099511627776 ∧ v.font.ks.length < 1099511627776 ∧ s.length < 1099511627776 := ⟨hs.1.1, hs.1.2, hl⟩
 have hs2 := hs.2.1
 have kf := fewW_iff (v := v) (s := s)
 have kd : (decide ((v.font.gs.length ≤ 30 ∨ 1024 < v.font.gs.length ∧ v.font.gs.length ≤ 1100) ∧ (v.font.ks.length ≤ 30 ∨ 1024 < v.font.ks.length ∧ v.font.ks.length ≤ 1100) ∧ s.length ≤ 200)) = fewF v s := rfl
 generalize fewF v s = B at *
 generalize fewW v s = F at *
 cases hz : fewZ v.signs s with
 | true =>
  rw [hz] at kf
  refine outS_of_wp cfg (fn := Tryz.f5) Tryz.func5 rfl (by simp [Tryz.f5]) ?_
  simp (disch := first|exact DD|fail) [-getElem?_pos, gZ, gS, Tryz.f5, kd, hz]
  repeat' (first|((first|refine wA ?_ ?_|refine wB ?_ ?_)<;>intro hc<;>try simp at hc)|refine wF ?_|refine wY ?_|refine wL ?_|refine owe ?_ fun ho=>?_|(simp (disch := first|exact DD|fail) [kd, hz, -getElem?_pos, gZ, gS]))
  all_goals (clear hs hs2 hsf kd; cases F <;> cases B <;> grind)
 | false =>
  rw [hz] at kf
  refine outS_of_wp cfg (fn := Tryz.f5) Tryz.func5 rfl (by simp [Tryz.f5]) ?_
  simp (disch := first|exact DD|fail) [-getElem?_pos, gZ, gS, Tryz.f5, kd, hz]
  repeat' (first|((first|refine wA ?_ ?_|refine wB ?_ ?_)<;>intro hc<;>try simp at hc)|refine wF ?_|refine wY ?_|refine wL ?_|refine owe ?_ fun ho=>?_|(simp (disch := first|exact DD|fail) [kd, hz, -getElem?_pos, gZ, gS]))
  all_goals (clear hs hs2 hsf kd; cases F <;> cases B <;> grind)
@[simp] theorem S5 (v : VwZ) (s : List UInt8) (hs : smVw v) (hl : s.length < 1099511627776) (q1 q2 q3 q4 : Fl) (hh : Heap) : Ci cfg (.func (.func 5) [] []) [.agg [.int .i64 v.no, .int .i64 v.lang, .int .i64 v.lines, .int .i64 v.room, .int .i64 v.cells, .int .i64 v.speed, .bool v.right, R  q1 eG v.font.gs, .int .i64 v.font.other, R  q2 eK v.font.ks, R  q3 eZ v.signs, .int .i64 v.scr.w, .int .i64 v.scr.h, R  q4 eQ v.scr.bl], .str s] hh = some (.ret (.bool (fewW v s)), hh) :=
 Ci_K cfg rfl rfl (by simp) (by simp) (C5 v s hs hl)
end Go.Ab
