/- A part of the proof. -/
import Derived.Test.YtlmhbemgaikmaaaGreatDoorGr25
set_option linter.unusedVariables false
set_option linter.unusedSimpArgs false
set_option linter.unusedSectionVars false
set_option linter.deprecated false
namespace Go.Ab
open Go.Proofs
set_option maxRecDepth 100000
set_option maxHeartbeats 4000000
def ofW (v : VwZ) : CRes := if vwR v = true then .ret (rdV v) else panW 450
theorem C41 (v : VwZ) (hs : smVw v) : Kc cfg 41 [.agg [.int .i64 v.no, .int .i64 v.lang, .int .i64 v.lines, .int .i64 v.room, .int .i64 v.cells, .int .i64 v.speed, .bool v.right, R fl0 eG v.font.gs, .int .i64 v.font.other, R fl0 eK v.font.ks, R fl0 eZ v.signs, .int .i64 v.scr.w, .int .i64 v.scr.h, R fl0 eQ v.scr.bl]] (ofW v) := by
 have hof : ofW v = if vwR v = true then .ret (rdV v) else .panic (.iface 37 (.int .i64 450)) := rfl
 rw [hof]
 clear hof
 by_cases hc : v.cells = 0
 ·have hr : rdV v = .iface 134 (.agg (cellsV v)) := by unfold rdV; rw [if_pos hc]
  have hz : (v.cells == (0 : Int)) = true := by simp [hc]
  cases hv : vwR v with
  | true =>
   simp only [if_true]
   rw [hr]
   unfold cellsV
   refine outS_of_wp cfg (fn := Tryz.f41) Tryz.func41 rfl (by simp [Tryz.f41]) ?_
   simp (disch := first|exact DD|fail) [-getElem?_pos, gZ, gS, Tryz.f41, hz, emptyH]
   repeat' (first | ((first | refine wA ?_ ?_ | refine wB ?_ ?_) <;> intro hc <;> try simp at hc) | refine wY ?_ | refine wL ?_ | refine owe ?_ fun ho => ?_ | (simp (disch := first|exact DD|fail) [hz, emptyH, -getElem?_pos, gZ, gS]))
   refine regO_wp hs (by simp) (by simp) (by simp [hr, cellsV]) (fun f1 hf1 => ?_)
   obtain ⟨f38, hf⟩ := hf1
   have f4 : f1 4 = rdV v := by rw [hf 4 (by omega)]; simp [hr, cellsV]
   rw [hr, cellsV] at f4
   repeat' (first|((first|refine wA ?_ ?_|refine wB ?_ ?_)<;>intro hc<;>try simp at hc)|refine wF ?_|refine wY ?_|refine wL ?_|refine owe ?_ fun ho=>?_|(simp (disch := first|exact DD|fail) [f38, f4, hv, -getElem?_pos, gZ, gS]))
  | false =>
   simp only [Bool.false_eq_true, if_false]
   refine outS_of_wp cfg (fn := Tryz.f41) Tryz.func41 rfl (by simp [Tryz.f41]) ?_
   simp (disch := first|exact DD|fail) [-getElem?_pos, gZ, gS, Tryz.f41, hz, emptyH]
   repeat' (first | ((first | refine wA ?_ ?_ | refine wB ?_ ?_) <;> intro hc <;> try simp at hc) | refine wY ?_ | refine wL ?_ | refine owe ?_ fun ho => ?_ | (simp (disch := first|exact DD|fail) [hz, emptyH, -getElem?_pos, gZ, gS]))
   refine regO_wp hs (by simp) (by simp) (by simp [hr, cellsV]) (fun f1 hf1 => ?_)
   obtain ⟨f38, hf⟩ := hf1
   repeat' (first|((first|refine wA ?_ ?_|refine wB ?_ ?_)<;>intro hc<;>try simp at hc)|refine wF ?_|refine wY ?_|refine wL ?_|refine owe ?_ fun ho=>?_|(simp (disch := first|exact DD|fail) [f38, hv, -getElem?_pos, gZ, gS]))
 ·have hr : rdV v = .iface 133 (.agg (cellsV v)) := by unfold rdV; rw [if_neg hc]
  have hz : (v.cells == (0 : Int)) = false := by simp [hc]
  cases hv : vwR v with
  | true =>
   simp only [if_true]
   rw [hr]
   unfold cellsV
   refine outS_of_wp cfg (fn := Tryz.f41) Tryz.func41 rfl (by simp [Tryz.f41]) ?_
   simp (disch := first|exact DD|fail) [-getElem?_pos, gZ, gS, Tryz.f41, hz, emptyH]
   repeat' (first | ((first | refine wA ?_ ?_ | refine wB ?_ ?_) <;> intro hc <;> try simp at hc) | refine wY ?_ | refine wL ?_ | refine owe ?_ fun ho => ?_ | (simp (disch := first|exact DD|fail) [hz, emptyH, -getElem?_pos, gZ, gS]))
   refine regO_wp hs (by simp) (by simp) (by simp [hr, cellsV]) (fun f1 hf1 => ?_)
   obtain ⟨f38, hf⟩ := hf1
   have f4 : f1 4 = rdV v := by rw [hf 4 (by omega)]; simp [hr, cellsV]
   rw [hr, cellsV] at f4
   repeat' (first|((first|refine wA ?_ ?_|refine wB ?_ ?_)<;>intro hc<;>try simp at hc)|refine wF ?_|refine wY ?_|refine wL ?_|refine owe ?_ fun ho=>?_|(simp (disch := first|exact DD|fail) [f38, f4, hv, -getElem?_pos, gZ, gS]))
  | false =>
   simp only [Bool.false_eq_true, if_false]
   refine outS_of_wp cfg (fn := Tryz.f41) Tryz.func41 rfl (by simp [Tryz.f41]) ?_
   simp (disch := first|exact DD|fail) [-getElem?_pos, gZ, gS, Tryz.f41, hz, emptyH]
   repeat' (first | ((first | refine wA ?_ ?_ | refine wB ?_ ?_) <;> intro hc <;> try simp at hc) | refine wY ?_ | refine wL ?_ | refine owe ?_ fun ho => ?_ | (simp (disch := first|exact DD|fail) [hz, emptyH, -getElem?_pos, gZ, gS]))
   refine regO_wp hs (by simp) (by simp) (by simp [hr, cellsV]) (fun f1 hf1 => ?_)
   obtain ⟨f38, hf⟩ := hf1
   repeat' (first|((first|refine wA ?_ ?_|refine wB ?_ ?_)<;>intro hc<;>try simp at hc)|refine wF ?_|refine wY ?_|refine wL ?_|refine owe ?_ fun ho=>?_|(simp (disch := first|exact DD|fail) [f38, hv, -getElem?_pos, gZ, gS]))
@[simp] theorem S41 (v : VwZ) (hs : smVw v) (q1 q2 q3 q4 : Fl) (hh : Heap) : Ci cfg (.func (.func 41) [] []) [.agg [.int .i64 v.no, .int .i64 v.lang, .int .i64 v.lines, .int .i64 v.room, .int .i64 v.cells, .int .i64 v.speed, .bool v.right, R  q1 eG v.font.gs, .int .i64 v.font.other, R  q2 eK v.font.ks, R  q3 eZ v.signs, .int .i64 v.scr.w, .int .i64 v.scr.h, R  q4 eQ v.scr.bl]] hh = some (ofW v, hh) :=
 Ci_K cfg rfl rfl (by simp) (by simp) (C41 v hs)
end Go.Ab
namespace Go.Ab
open Go.Proofs
set_option maxRecDepth 100000
set_option maxHeartbeats 4000000
attribute [local simp] typeAssertV
@[simp] theorem DcaughtV_no (a : Nat) (h : Heap) : Di cfg (.func (.func 40) [] []) [.ptr a 0] h .no = some (h, .no) := by
 refine Di_of_wp cfg (fn := Tryz.f40) Tryz.func40 rfl (by simp [Tryz.f40]) ?_
 simp (disch := first|exact DD|fail) [-getElem?_pos, gZ, gS, Tryz.f40]
@[simp] theorem DcaughtV_int (b0 : Blk) (e : V) (n : Int) (bs : List Blk) (ts : List (Option Nat)) :
  Di cfg (.func (.func 40) [] []) [.ptr 1 0] ⟨b0 :: .cells [e] :: bs, ts⟩ (.pan (.iface 37 (.int .i64 n))) = some (⟨b0 :: .cells [.int .i64 n] :: bs, ts⟩, .got (.iface 37 (.int .i64 n))) := by
 refine Di_of_wp cfg (fn := Tryz.f40) Tryz.func40 rfl (by simp [Tryz.f40]) ?_
 simp (disch := first|exact DD|fail) [-getElem?_pos, gZ, gS, Tryz.f40]
theorem ofW_ok {v : VwZ} (h : vwR v = true) : ofW v = .ret (rdV v) := by unfold ofW; rw [if_pos h]
theorem ofW_bad {v : VwZ} (h : vwR v = false) : ofW v = .panic (.iface 37 (.int .i64 450)) := by unfold ofW; rw [if_neg (by simp [h])]; rfl
theorem pointsW_ok {s : List UInt8} (h : (runesG s).2 = 0) : pointsW s = .ret (.int .i64 (runesG s).1.length) := by unfold pointsW; rw [if_pos h]
theorem pointsW_bad {s : List UInt8} (h : ¬ (runesG s).2 = 0) : pointsW s = .panic (.iface 37 (.int .i64 (runesG s).2)) := by unfold pointsW; rw [if_neg h]; rfl
theorem hws : methV Tryz.prog 134 "hansard/viewers.width" = some 137 := by kernel_rfl
theorem hwc : methV Tryz.prog 133 "hansard/viewers.width" = some 124 := by kernel_rfl
theorem hss : methV Tryz.prog 134 "hansard/viewers.shape" = some 136 := by kernel_rfl
theorem hsc : methV Tryz.prog 133 "hansard/viewers.shape" = some 123 := by kernel_rfl
theorem rdV_s {v : VwZ} (hc : v.cells = 0) : rdV v = .iface 134 (.agg (cellsV v)) := by unfold rdV; rw [if_pos hc]
theorem rdV_c {v : VwZ} (hc : ¬ v.cells = 0) : rdV v = .iface 133 (.agg (cellsV v)) := by unfold rdV; rw [if_neg hc]
end Go.Ab
namespace Go.Ab
open Go.Proofs
set_option maxRecDepth 100000
set_option maxHeartbeats 4000000
theorem codeW_bad {x : List Int × List Int × Bool × Int} (h : ¬ (codeW x).2 = 0) : (codeW x).1 = 0 := by
 unfold codeW at h ⊢
 split
 ·rename_i h4
  rw [if_pos h4] at h
  split
  ·rename_i h3; rw [if_pos h3] at h; exact absurd rfl h
  ·rfl
 ·rfl
theorem widthS_bad {f : Font} {s : List UInt8} (h : ¬ (widthS f s).2 = 0) : (widthS f s).1 = 0 := by
 unfold widthS at h ⊢
 split
 ·rfl
 ·rename_i h1
  rw [if_neg h1] at h
  split
  ·rfl
  ·rename_i h2; rw [if_neg h2] at h; exact absurd rfl h
theorem joinG_bad' {l : List Int} (h : ¬ (joinG l).2 = 0) : (joinG l).1 = [] := by
 unfold joinG at h ⊢
 repeat' split
 all_goals first | rfl | simp_all
theorem showS_bad {s : List UInt8} {r : Bool} (h : ¬ (showS s r).2 = 0) : (showS s r).1 = [] := by
 unfold showS at h ⊢
 split
 ·rename_i h1; rw [if_pos h1] at h; exact joinG_bad' h
 ·rfl
theorem C29 (v : VwZ) (s : List UInt8) (hs : smVw v) (hl : s.length < 1099511627776) : Kc cfg 29 [.agg [.int .i64 v.no, .int .i64 v.lang, .int .i64 v.lines, .int .i64 v.room, .int .i64 v.cells, .int .i64 v.speed, .bool v.right, R fl0 eG v.font.gs, .int .i64 v.font.other, R fl0 eK v.font.ks, R fl0 eZ v.signs, .int .i64 v.scr.w, .int .i64 v.scr.h, R fl0 eQ v.scr.bl], .str s] (.ret (.tuple [.int .i64 (widthW v s).1, .int .i64 (widthW v s).2])) := by
 cases hv : vwR v with
 | false =>
  have hF : widthW v s = (0, 450) := by unfold widthW; rw [if_neg (by simp [hv])]
  have ho := ofW_bad hv
  rw [hF]
  refine outS_of_wp cfg (fn := Tryz.f29) Tryz.func29 rfl (by simp [Tryz.f29]) ?_
  simp (disch := first|exact DD|fail) [-getElem?_pos, gZ, gS, Tryz.f29, ho, emptyH]
  repeat' (first|((first|refine wA ?_ ?_|refine wB ?_ ?_)<;>intro hc<;>try simp at hc)|refine wF ?_|refine wY ?_|refine wL ?_|refine owe ?_ fun ho=>?_|(simp (disch := first|exact DD|fail) [ho, emptyH, -getElem?_pos, gZ, gS]))
 | true =>
  have ho := ofW_ok hv
  by_cases he : (runesG s).2 = 0
  ·have hp := pointsW_ok he
   by_cases hc : v.cells = 0
   ·have hF : widthW v s = widthS v.font s := by unfold widthW; rw [if_pos hv, if_pos he, if_pos hc]
    rw [rdV_s hc, cellsV] at ho
    rw [hF]
    by_cases h2 : (widthS v.font s).2 = 0
    ·have hr : screenW v s = .ret (.int .i64 (widthS v.font s).1) := by unfold screenW; rw [if_pos h2]
     rw [h2]
     refine outS_of_wp cfg (fn := Tryz.f29) Tryz.func29 rfl (by simp [Tryz.f29]) ?_
     simp (disch := first|exact DD|fail) [-getElem?_pos, gZ, gS, Tryz.f29, ho, hp, hws, hr, emptyH]
     repeat' (first|((first|refine wA ?_ ?_|refine wB ?_ ?_)<;>intro hc<;>try simp at hc)|refine wF ?_|refine wY ?_|refine wL ?_|refine owe ?_ fun ho=>?_|(simp (disch := first|exact DD|fail) [ho, hp, hws, hr, emptyH, -getElem?_pos, gZ, gS]))
    ·have hr : screenW v s = .panic (.iface 37 (.int .i64 (widthS v.font s).2)) := by unfold screenW; rw [if_neg h2]; rfl
     rw [widthS_bad h2]
     refine outS_of_wp cfg (fn := Tryz.f29) Tryz.func29 rfl (by simp [Tryz.f29]) ?_
     simp (disch := first|exact DD|fail) [-getElem?_pos, gZ, gS, Tryz.f29, ho, hp, hws, hr, emptyH]
     repeat' (first|((first|refine wA ?_ ?_|refine wB ?_ ?_)<;>intro hc<;>try simp at hc)|refine wF ?_|refine wY ?_|refine wL ?_|refine owe ?_ fun ho=>?_|(simp (disch := first|exact DD|fail) [ho, hp, hws, hr, emptyH, -getElem?_pos, gZ, gS]))
   ·have hF : widthW v s = codeW (encodeZ v.signs s) := by unfold widthW; rw [if_pos hv, if_pos he, if_neg hc]
    rw [rdV_c hc, cellsV] at ho
    rw [hF]
    by_cases h2 : (codeW (encodeZ v.signs s)).2 = 0
    ·have hr : cellsW v s = .ret (.int .i64 (codeW (encodeZ v.signs s)).1) := by unfold cellsW; rw [if_pos h2]
     rw [h2]
     refine outS_of_wp cfg (fn := Tryz.f29) Tryz.func29 rfl (by simp [Tryz.f29]) ?_
     simp (disch := first|exact DD|fail) [-getElem?_pos, gZ, gS, Tryz.f29, ho, hp, hwc, hr, emptyH]
     repeat' (first|((first|refine wA ?_ ?_|refine wB ?_ ?_)<;>intro hc<;>try simp at hc)|refine wF ?_|refine wY ?_|refine wL ?_|refine owe ?_ fun ho=>?_|(simp (disch := first|exact DD|fail) [ho, hp, hwc, hr, emptyH, -getElem?_pos, gZ, gS]))
    ·have hr : cellsW v s = .panic (.iface 37 (.int .i64 (codeW (encodeZ v.signs s)).2)) := by unfold cellsW; rw [if_neg h2]; rfl
     rw [codeW_bad h2]
     refine outS_of_wp cfg (fn := Tryz.f29) Tryz.func29 rfl (by simp [Tryz.f29]) ?_
     simp (disch := first|exact DD|fail) [-getElem?_pos, gZ, gS, Tryz.f29, ho, hp, hwc, hr, emptyH]
     repeat' (first|((first|refine wA ?_ ?_|refine wB ?_ ?_)<;>intro hc<;>try simp at hc)|refine wF ?_|refine wY ?_|refine wL ?_|refine owe ?_ fun ho=>?_|(simp (disch := first|exact DD|fail) [ho, hp, hwc, hr, emptyH, -getElem?_pos, gZ, gS]))
  ·have hp := pointsW_bad he
   have hF : widthW v s = (0, (runesG s).2) := by unfold widthW; rw [if_pos hv, if_neg he]
   rw [hF]
   cases hc : decide (v.cells = 0) with
   | true =>
    rw [rdV_s (by simpa using hc), cellsV] at ho
    refine outS_of_wp cfg (fn := Tryz.f29) Tryz.func29 rfl (by simp [Tryz.f29]) ?_
    simp (disch := first|exact DD|fail) [-getElem?_pos, gZ, gS, Tryz.f29, ho, hp, emptyH]
    repeat' (first|((first|refine wA ?_ ?_|refine wB ?_ ?_)<;>intro hc<;>try simp at hc)|refine wF ?_|refine wY ?_|refine wL ?_|refine owe ?_ fun ho=>?_|(simp (disch := first|exact DD|fail) [ho, hp, emptyH, -getElem?_pos, gZ, gS]))
   | false =>
    rw [rdV_c (by simpa using hc), cellsV] at ho
    refine outS_of_wp cfg (fn := Tryz.f29) Tryz.func29 rfl (by simp [Tryz.f29]) ?_
    simp (disch := first|exact DD|fail) [-getElem?_pos, gZ, gS, Tryz.f29, ho, hp, emptyH]
    repeat' (first|((first|refine wA ?_ ?_|refine wB ?_ ?_)<;>intro hc<;>try simp at hc)|refine wF ?_|refine wY ?_|refine wL ?_|refine owe ?_ fun ho=>?_|(simp (disch := first|exact DD|fail) [ho, hp, emptyH, -getElem?_pos, gZ, gS]))
@[simp] theorem S29 (v : VwZ) (s : List UInt8) (hs : smVw v) (hl : s.length < 1099511627776) (q1 q2 q3 q4 : Fl) (hh : Heap) : Ci cfg (.func (.func 29) [] []) [.agg [.int .i64 v.no, .int .i64 v.lang, .int .i64 v.lines, .int .i64 v.room, .int .i64 v.cells, .int .i64 v.speed, .bool v.right, R  q1 eG v.font.gs, .int .i64 v.font.other, R  q2 eK v.font.ks, R  q3 eZ v.signs, .int .i64 v.scr.w, .int .i64 v.scr.h, R  q4 eQ v.scr.bl], .str s] hh = some (.ret (.tuple [.int .i64 (widthW v s).1, .int .i64 (widthW v s).2]), hh) :=
 Ci_K cfg rfl rfl (by simp) (by simp) (C29 v s hs hl)
theorem C46 (v : VwZ) (s : List UInt8) (hs : smVw v) (hl : s.length < 1099511627776) : Kc cfg 46 [.agg [.int .i64 v.no, .int .i64 v.lang, .int .i64 v.lines, .int .i64 v.room, .int .i64 v.cells, .int .i64 v.speed, .bool v.right, R fl0 eG v.font.gs, .int .i64 v.font.other, R fl0 eK v.font.ks, R fl0 eZ v.signs, .int .i64 v.scr.w, .int .i64 v.scr.h, R fl0 eQ v.scr.bl], .str s] (.ret (.tuple [.str (shapeW v s).1, .int .i64 (shapeW v s).2])) := by
 cases hv : vwR v with
 | false =>
  have hF : shapeW v s = ([], 450) := by unfold shapeW; rw [if_neg (by simp [hv])]
  have ho := ofW_bad hv
  rw [hF]
  refine outS_of_wp cfg (fn := Tryz.f46) Tryz.func46 rfl (by simp [Tryz.f46]) ?_
  simp (disch := first|exact DD|fail) [-getElem?_pos, gZ, gS, Tryz.f46, ho, emptyH]
  repeat' (first|((first|refine wA ?_ ?_|refine wB ?_ ?_)<;>intro hc<;>try simp at hc)|refine wF ?_|refine wY ?_|refine wL ?_|refine owe ?_ fun ho=>?_|(simp (disch := first|exact DD|fail) [ho, emptyH, -getElem?_pos, gZ, gS]))
 | true =>
  have ho := ofW_ok hv
  by_cases he : (runesG s).2 = 0
  ·have hp := pointsW_ok he
   by_cases hc : v.cells = 0
   ·have hF : shapeW v s = showS s v.right := by unfold shapeW; rw [if_pos hv, if_pos he, if_pos hc]
    rw [rdV_s hc, cellsV] at ho
    rw [hF]
    by_cases h2 : (showS s v.right).2 = 0
    ·have hr : drawW v s = .ret (.str (showS s v.right).1) := by unfold drawW; rw [if_pos h2]
     rw [h2]
     refine outS_of_wp cfg (fn := Tryz.f46) Tryz.func46 rfl (by simp [Tryz.f46]) ?_
     simp (disch := first|exact DD|fail) [-getElem?_pos, gZ, gS, Tryz.f46, ho, hp, hss, hr, emptyH]
     repeat' (first|((first|refine wA ?_ ?_|refine wB ?_ ?_)<;>intro hc<;>try simp at hc)|refine wF ?_|refine wY ?_|refine wL ?_|refine owe ?_ fun ho=>?_|(simp (disch := first|exact DD|fail) [ho, hp, hss, hr, emptyH, -getElem?_pos, gZ, gS]))
    ·have hr : drawW v s = .panic (.iface 37 (.int .i64 (showS s v.right).2)) := by unfold drawW; rw [if_neg h2]; rfl
     rw [showS_bad h2]
     refine outS_of_wp cfg (fn := Tryz.f46) Tryz.func46 rfl (by simp [Tryz.f46]) ?_
     simp (disch := first|exact DD|fail) [-getElem?_pos, gZ, gS, Tryz.f46, ho, hp, hss, hr, emptyH]
     repeat' (first|((first|refine wA ?_ ?_|refine wB ?_ ?_)<;>intro hc<;>try simp at hc)|refine wF ?_|refine wY ?_|refine wL ?_|refine owe ?_ fun ho=>?_|(simp (disch := first|exact DD|fail) [ho, hp, hss, hr, emptyH, -getElem?_pos, gZ, gS]))
   ·have hF : shapeW v s = (s, 0) := by unfold shapeW; rw [if_pos hv, if_pos he, if_neg hc]
    rw [rdV_c hc, cellsV] at ho
    rw [hF]
    refine outS_of_wp cfg (fn := Tryz.f46) Tryz.func46 rfl (by simp [Tryz.f46]) ?_
    simp (disch := first|exact DD|fail) [-getElem?_pos, gZ, gS, Tryz.f46, ho, hp, hsc, emptyH]
    repeat' (first|((first|refine wA ?_ ?_|refine wB ?_ ?_)<;>intro hc<;>try simp at hc)|refine wF ?_|refine wY ?_|refine wL ?_|refine owe ?_ fun ho=>?_|(simp (disch := first|exact DD|fail) [ho, hp, hsc, emptyH, -getElem?_pos, gZ, gS]))
  ·have hp := pointsW_bad he
   have hF : shapeW v s = ([], (runesG s).2) := by unfold shapeW; rw [if_pos hv, if_neg he]
   rw [hF]
   cases hc : decide (v.cells = 0) with
   | true =>
    rw [rdV_s (by simpa using hc), cellsV] at ho
    refine outS_of_wp cfg (fn := Tryz.f46) Tryz.func46 rfl (by simp [Tryz.f46]) ?_
    simp (disch := first|exact DD|fail) [-getElem?_pos, gZ, gS, Tryz.f46, ho, hp, emptyH]
    repeat' (first|((first|refine wA ?_ ?_|refine wB ?_ ?_)<;>intro hc<;>try simp at hc)|refine wF ?_|refine wY ?_|refine wL ?_|refine owe ?_ fun ho=>?_|(simp (disch := first|exact DD|fail) [ho, hp, emptyH, -getElem?_pos, gZ, gS]))
   | false =>
    rw [rdV_c (by simpa using hc), cellsV] at ho
    refine outS_of_wp cfg (fn := Tryz.f46) Tryz.func46 rfl (by simp [Tryz.f46]) ?_
    simp (disch := first|exact DD|fail) [-getElem?_pos, gZ, gS, Tryz.f46, ho, hp, emptyH]
    repeat' (first|((first|refine wA ?_ ?_|refine wB ?_ ?_)<;>intro hc<;>try simp at hc)|refine wF ?_|refine wY ?_|refine wL ?_|refine owe ?_ fun ho=>?_|(simp (disch := first|exact DD|fail) [ho, hp, emptyH, -getElem?_pos, gZ, gS]))
@[simp] theorem S46 (v : VwZ) (s : List UInt8) (hs : smVw v) (hl : s.length < 1099511627776) (q1 q2 q3 q4 : Fl) (hh : Heap) : Ci cfg (.func (.func 46) [] []) [.agg [.int .i64 v.no, .int .i64 v.lang, .int .i64 v.lines, .int .i64 v.room, .int .i64 v.cells, .int .i64 v.speed, .bool v.right, R  q1 eG v.font.gs, .int .i64 v.font.other, R  q2 eK v.font.ks, R  q3 eZ v.signs, .int .i64 v.scr.w, .int .i64 v.scr.h, R  q4 eQ v.scr.bl], .str s] hh = some (.ret (.tuple [.str (shapeW v s).1, .int .i64 (shapeW v s).2]), hh) :=
 Ci_K cfg rfl rfl (by simp) (by simp) (C46 v s hs hl)
end Go.Ab
