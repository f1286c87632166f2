/- A part of the proof. -/
import Derived.Test.YtigmnglnedcfpaaGreatDoorGr4
import Derived.Test.YtigmnglnedcfpaaGreatDoorGr17
import Derived.Test.YtigmnglnedcfpaaGreatDoorGr18
import Derived.Test.YtigmnglnedcfpaaGreatDoorGr27
import Derived.Test.YtigmnglnedcfpaaGreatDoorJ4
set_option linter.unusedVariables false
set_option linter.unusedSimpArgs false
set_option linter.unusedSectionVars false
set_option linter.deprecated false
namespace Go.Ab
open Go.Proofs
set_option maxRecDepth 100000
set_option maxHeartbeats 4000000
end Go.Ab
namespace Go.Ab
open Go.Proofs
set_option maxRecDepth 100000
set_option maxHeartbeats 4000000
theorem C34 (s : List UInt8) (right : Bool) (hs : s.length < 1099511627776) : Kc cfg 34 [.str s, .bool right] (.ret (.tuple [.str (showS s right).1, .int .i64 (showS s right).2])) := by
 by_cases he : (runesG s).2 = 0
 ·obtain ⟨k1, k2, k3, k4, k5⟩ := lev_ok right he
  have hS : showS s right = joinG (shownL (runesG s).1 (levS (runesG s).1 right).1) := by unfold showS; rw [if_pos he]
  rw [hS]
  generalize hl : (runesG s).1 = l at *
  generalize hL : (levS l right).1 = L at *
  have hsl : l.length < 1099511627776 := by omega
  have hsL : L.length < 1099511627776 := by omega
  have hrl : (rowF l.length (fun i => (ordF L i : Int))).length = l.length := by simp
  have hrn := fun i (h : i < l.length) => nth_rowF (g := fun i => (ordF L i : Int)) h
  have holt := fun i (h : i < l.length) => ordF_lt (L := L) (i := i) (by omega)
  generalize hW : rowF l.length (fun i => (ordF L i : Int)) = W at *
  refine outS_of_wp cfg (fn := Tryz.f34) Tryz.func34 rfl (by simp [Tryz.f34]) ?_
  simp (disch := first | assumption | omega | (simp; done) | (simp; omega)) [-getElem?_pos, gZ, gS, Tryz.f34, he, hl, hL, k1, k3, k5]
  repeat' (first | ((first | refine wpc_split _ ?_ ?_ | refine ww_split _ ?_ ?_) <;> intro hc <;> try simp at hc) | (refine wp_drawF (by kernel_rfl) ?_) | refine wk_yldW _ ?_ | refine layOwe _ (by kernel_rfl) ?_ | refine owe ?_ (fun ho => ?_) | (simp (disch := first | assumption | omega | (simp; done) | (simp; omega)) [he, hl, hL, k1, k3, k5, -getElem?_pos, gZ, gS]))
  refine wp_loopE cfg rfl (fun f0 h0 m fr h => ∃ i : Nat, ∃ fl : Fl, fr 6 = f0 6 ∧ fr 10 = f0 10 ∧ fr 12 = R fl eI (rowF i (fun i => nth l (ordF L i))) ∧ fr 13 = .int .i64 i ∧ (App h.ts 1 fl) ∧ (i + m = l.length)) (l.length) _ _ ⟨0, (false, true, none), rfl, rfl, by first | rfl | (simp; done) | (simp [R]; done) | simp [R], by first | rfl | (simp; done) | (simp [R]; done) | simp [R], App.full _ _ _, by first | rfl | (simp; done) | omega⟩ ?_
  rintro Am Af Ah ⟨i, fl, A6, A10, A12, A13, hap, hm⟩ Aih
  try simp at A6 A10
  by_cases hi : i < l.length
  ·have hst := shown_take l L i
   have hrni := hrn i hi
   have hlt := holt i hi
   have hlt2 : ordF L i < l.length := by omega
   have hrf : (rowF i (fun i => nth l (ordF L i))).length = i := rowF_len _ _
   repeat' (first | ((first | refine wpc_split _ ?_ ?_ | refine ww_split _ ?_ ?_) <;> intro hc <;> try simp at hc) | (refine wp_drawF (by kernel_rfl) ?_) | refine wk_yldW _ ?_ | refine layOwe _ (by kernel_rfl) ?_ | refine owe ?_ (fun ho => ?_) | (simp (disch := first | assumption | omega | (simp; done) | (simp; omega)) [A6, A10, A12, A13, eI, hrni, hrl, fold_I1, -getElem?_pos, gZ, gS]))
   exact Aih (Am - 1) _ _ (by omega) ⟨i + 1, _, by simp [A6, A10, A12, A13, hst], by simp [A6, A10, A12, A13, hst], by simp [A6, A10, A12, A13, hst], by simp [A6, A10, A12, A13, hst], App.new _ _ _, by omega⟩
  ·obtain rfl : i = l.length := by omega
   have hsh : rowF l.length (fun i => nth l (ordF L i)) = shownL l L := rfl
   have hll : (shownL l L).length < 1099511627776 := by simp [shownL]; omega
   rw [hsh] at A12
   repeat' (first | ((first | refine wpc_split _ ?_ ?_ | refine ww_split _ ?_ ?_) <;> intro hc <;> try simp at hc) | (refine wp_drawF (by kernel_rfl) ?_) | refine wk_yldW _ ?_ | refine layOwe _ (by kernel_rfl) ?_ | refine owe ?_ (fun ho => ?_) | (simp (disch := first | assumption | omega | (simp; done) | (simp; omega)) [A6, A10, A12, A13, hrl, -getElem?_pos, gZ, gS]))
 ·have hS : showS s right = ([], (runesG s).2) := by unfold showS; rw [if_neg he]
  rw [hS]
  refine outS_of_wp cfg (fn := Tryz.f34) Tryz.func34 rfl (by simp [Tryz.f34]) ?_
  simp (disch := first | assumption | omega | (simp; done) | (simp; omega)) [-getElem?_pos, gZ, gS, Tryz.f34, he]
  repeat' (first | ((first | refine wpc_split _ ?_ ?_ | refine ww_split _ ?_ ?_) <;> intro hc <;> try simp at hc) | (refine wp_drawF (by kernel_rfl) ?_) | refine wk_yldW _ ?_ | refine layOwe _ (by kernel_rfl) ?_ | refine owe ?_ (fun ho => ?_) | (simp (disch := first | assumption | omega | (simp; done) | (simp; omega)) [he, -getElem?_pos, gZ, gS]))
@[simp] theorem S34 (s : List UInt8) (right : Bool) (hs : s.length < 1099511627776) (hh : Heap) : Ci cfg (.func (.func 34) [] []) [.str s, .bool right] hh = some (.ret (.tuple [.str (showS s right).1, .int .i64 (showS s right).2]), hh) :=
 Ci_K cfg rfl rfl (by simp) (by simp) (C34 s right hs)
def few10 (l : List Int) : Bool := decide (l.length ≤ 120 ∨ 4096 < l.length ∧ l.length ≤ 5000)
end Go.Ab
namespace Go.Ab
open Go.Proofs
set_option maxRecDepth 100000
set_option maxHeartbeats 4000000
theorem C15 (v : VwZ) (s : List UInt8) (hs : smVw v) (hl : s.length < 1099511627776) : Kc cfg 15 [.agg [.int .i64 v.no, .int .i64 v.lang, .int .i64 v.lines, .int .i64 v.room, .int .i64 v.cells, .int .i64 v.speed, .bool v.right, R fl0 eG v.font.gs, .int .i64 v.font.other, R fl0 eK v.font.ks, R fl0 eZ v.signs, .int .i64 v.scr.w, .int .i64 v.scr.h, R fl0 eQ v.scr.bl], .str s] (.ret (.tuple [.int .i64 (needW v s).1, .int .i64 (needW v s).2])) := by
 cases hv : vwR v with
 | true =>
  have hw := need_wrap s hv
  have hF : needW v s = (v.speed * (runesG s).1.length, (runesG s).2) := by unfold needW; rw [if_pos hv]
  rw [hF]
  refine outS_of_wp cfg (fn := Tryz.f15) Tryz.func15 rfl (by simp [Tryz.f15]) ?_
  simp (disch := first | assumption | omega | (simp; done) | (simp; omega)) [-getElem?_pos, gZ, gS, Tryz.f15, hv, hw]
  repeat' (first | ((first | refine wpc_split _ ?_ ?_ | refine ww_split _ ?_ ?_) <;> intro hc <;> try simp at hc) | (refine wp_drawF (by kernel_rfl) ?_) | refine wk_yldW _ ?_ | refine layOwe _ (by kernel_rfl) ?_ | refine owe ?_ (fun ho => ?_) | (simp (disch := first | assumption | omega | (simp; done) | (simp; omega)) [hv, hw, -getElem?_pos, gZ, gS]))
 | false =>
  have hF : needW v s = (0, 450) := by unfold needW; rw [if_neg (by simp [hv])]
  rw [hF]
  refine outS_of_wp cfg (fn := Tryz.f15) Tryz.func15 rfl (by simp [Tryz.f15]) ?_
  simp (disch := first | assumption | omega | (simp; done) | (simp; omega)) [-getElem?_pos, gZ, gS, Tryz.f15, hv]
  repeat' (first | ((first | refine wpc_split _ ?_ ?_ | refine ww_split _ ?_ ?_) <;> intro hc <;> try simp at hc) | (refine wp_drawF (by kernel_rfl) ?_) | refine wk_yldW _ ?_ | refine layOwe _ (by kernel_rfl) ?_ | refine owe ?_ (fun ho => ?_) | (simp (disch := first | assumption | omega | (simp; done) | (simp; omega)) [hv, -getElem?_pos, gZ, gS]))
@[simp] theorem S15 (v : VwZ) (s : List UInt8) (hs : smVw v) (hl : s.length < 1099511627776) (q1 q2 q3 q4 : Fl) (hh : Heap) : Ci cfg (.func (.func 15) [] []) [.agg [.int .i64 v.no, .int .i64 v.lang, .int .i64 v.lines, .int .i64 v.room, .int .i64 v.cells, .int .i64 v.speed, .bool v.right, R  q1 eG v.font.gs, .int .i64 v.font.other, R  q2 eK v.font.ks, R  q3 eZ v.signs, .int .i64 v.scr.w, .int .i64 v.scr.h, R  q4 eQ v.scr.bl], .str s] hh = some (.ret (.tuple [.int .i64 (needW v s).1, .int .i64 (needW v s).2]), hh) :=
 Ci_K cfg rfl rfl (by simp) (by simp) (C15 v s hs hl)
theorem C13 (v : VwZ) (s : List UInt8) (hs : smVw v) (hl : s.length < 1099511627776) : Kc cfg 13 [.agg [.int .i64 v.no, .int .i64 v.lang, .int .i64 v.lines, .int .i64 v.room, .int .i64 v.cells, .int .i64 v.speed, .bool v.right, R fl0 eG v.font.gs, .int .i64 v.font.other, R fl0 eK v.font.ks, R fl0 eZ v.signs, .int .i64 v.scr.w, .int .i64 v.scr.h, R fl0 eQ v.scr.bl], .str s] (.ret (.tuple [.int .i64 (widthW v s).1, .int .i64 (widthW v s).2])) := by
 have hs1 := hs.1
 have hs2 := hs.2.1
 cases hv : vwR v with
 | true =>
  by_cases he : (runesG s).2 = 0
  ·by_cases hc0 : v.cells = 0
   ·have hF : widthW v s = widthS v.font s := by unfold widthW; rw [if_pos hv, if_pos he, if_pos hc0]
    rw [hF]
    have hz : (v.cells == (0 : Int)) = true := by simp [hc0]
    refine outS_of_wp cfg (fn := Tryz.f13) Tryz.func13 rfl (by simp [Tryz.f13]) ?_
    simp (disch := first | assumption | omega | (simp; done) | (simp; omega)) [-getElem?_pos, gZ, gS, Tryz.f13, hv, he, hz]
    repeat' (first | ((first | refine wpc_split _ ?_ ?_ | refine ww_split _ ?_ ?_) <;> intro hc <;> try simp at hc) | (refine wp_drawF (by kernel_rfl) ?_) | refine wk_yldW _ ?_ | refine layOwe _ (by kernel_rfl) ?_ | refine owe ?_ (fun ho => ?_) | (simp (disch := first | assumption | omega | (simp; done) | (simp; omega)) [hv, he, hz, -getElem?_pos, gZ, gS]))
   ·have hF : widthW v s = codeW (encodeZ v.signs s) := by unfold widthW; rw [if_pos hv, if_pos he, if_neg hc0]
    rw [hF]
    generalize hx : encodeZ v.signs s = x
    obtain ⟨x1, x2, x3, x4⟩ := x
    by_cases h4 : x4 = 0
    ·cases x3 with
     | true =>
      refine outS_of_wp cfg (fn := Tryz.f13) Tryz.func13 rfl (by simp [Tryz.f13]) ?_
      simp (disch := first | assumption | omega | (simp; done) | (simp; omega)) [-getElem?_pos, gZ, gS, Tryz.f13, hv, he, hc0, hx, h4]
      repeat' (first | ((first | refine wpc_split _ ?_ ?_ | refine ww_split _ ?_ ?_) <;> intro hc <;> try simp at hc) | (refine wp_drawF (by kernel_rfl) ?_) | refine wk_yldW _ ?_ | refine layOwe _ (by kernel_rfl) ?_ | refine owe ?_ (fun ho => ?_) | (simp (disch := first | assumption | omega | (simp; done) | (simp; omega)) [hv, he, hc0, hx, h4, -getElem?_pos, gZ, gS]))
      all_goals simp [codeW, h4]
     | false =>
      refine outS_of_wp cfg (fn := Tryz.f13) Tryz.func13 rfl (by simp [Tryz.f13]) ?_
      simp (disch := first | assumption | omega | (simp; done) | (simp; omega)) [-getElem?_pos, gZ, gS, Tryz.f13, hv, he, hc0, hx, h4]
      repeat' (first | ((first | refine wpc_split _ ?_ ?_ | refine ww_split _ ?_ ?_) <;> intro hc <;> try simp at hc) | (refine wp_drawF (by kernel_rfl) ?_) | refine wk_yldW _ ?_ | refine layOwe _ (by kernel_rfl) ?_ | refine owe ?_ (fun ho => ?_) | (simp (disch := first | assumption | omega | (simp; done) | (simp; omega)) [hv, he, hc0, hx, h4, -getElem?_pos, gZ, gS]))
      all_goals simp [codeW, h4]
    ·skip
     refine outS_of_wp cfg (fn := Tryz.f13) Tryz.func13 rfl (by simp [Tryz.f13]) ?_
     simp (disch := first | assumption | omega | (simp; done) | (simp; omega)) [-getElem?_pos, gZ, gS, Tryz.f13, hv, he, hc0, hx, h4]
     repeat' (first | ((first | refine wpc_split _ ?_ ?_ | refine ww_split _ ?_ ?_) <;> intro hc <;> try simp at hc) | (refine wp_drawF (by kernel_rfl) ?_) | refine wk_yldW _ ?_ | refine layOwe _ (by kernel_rfl) ?_ | refine owe ?_ (fun ho => ?_) | (simp (disch := first | assumption | omega | (simp; done) | (simp; omega)) [hv, he, hc0, hx, h4, -getElem?_pos, gZ, gS]))
     all_goals simp [codeW, h4]
  ·have hF : widthW v s = (0, (runesG s).2) := by unfold widthW; rw [if_pos hv, if_neg he]
   rw [hF]
   refine outS_of_wp cfg (fn := Tryz.f13) Tryz.func13 rfl (by simp [Tryz.f13]) ?_
   simp (disch := first | assumption | omega | (simp; done) | (simp; omega)) [-getElem?_pos, gZ, gS, Tryz.f13, hv, he]
   repeat' (first | ((first | refine wpc_split _ ?_ ?_ | refine ww_split _ ?_ ?_) <;> intro hc <;> try simp at hc) | (refine wp_drawF (by kernel_rfl) ?_) | refine wk_yldW _ ?_ | refine layOwe _ (by kernel_rfl) ?_ | refine owe ?_ (fun ho => ?_) | (simp (disch := first | assumption | omega | (simp; done) | (simp; omega)) [hv, he, -getElem?_pos, gZ, gS]))
 | false =>
  have hF : widthW v s = (0, 450) := by unfold widthW; rw [if_neg (by simp [hv])]
  rw [hF]
  refine outS_of_wp cfg (fn := Tryz.f13) Tryz.func13 rfl (by simp [Tryz.f13]) ?_
  simp (disch := first | assumption | omega | (simp; done) | (simp; omega)) [-getElem?_pos, gZ, gS, Tryz.f13, hv]
  repeat' (first | ((first | refine wpc_split _ ?_ ?_ | refine ww_split _ ?_ ?_) <;> intro hc <;> try simp at hc) | (refine wp_drawF (by kernel_rfl) ?_) | refine wk_yldW _ ?_ | refine layOwe _ (by kernel_rfl) ?_ | refine owe ?_ (fun ho => ?_) | (simp (disch := first | assumption | omega | (simp; done) | (simp; omega)) [hv, -getElem?_pos, gZ, gS]))
@[simp] theorem S13 (v : VwZ) (s : List UInt8) (hs : smVw v) (hl : s.length < 1099511627776) (q1 q2 q3 q4 : Fl) (hh : Heap) : Ci cfg (.func (.func 13) [] []) [.agg [.int .i64 v.no, .int .i64 v.lang, .int .i64 v.lines, .int .i64 v.room, .int .i64 v.cells, .int .i64 v.speed, .bool v.right, R  q1 eG v.font.gs, .int .i64 v.font.other, R  q2 eK v.font.ks, R  q3 eZ v.signs, .int .i64 v.scr.w, .int .i64 v.scr.h, R  q4 eQ v.scr.bl], .str s] hh = some (.ret (.tuple [.int .i64 (widthW v s).1, .int .i64 (widthW v s).2]), hh) :=
 Ci_K cfg rfl rfl (by simp) (by simp) (C13 v s hs hl)
theorem C17 (v : VwZ) (s : List UInt8) (hs : smVw v) (hl : s.length < 1099511627776) : Kc cfg 17 [.agg [.int .i64 v.no, .int .i64 v.lang, .int .i64 v.lines, .int .i64 v.room, .int .i64 v.cells, .int .i64 v.speed, .bool v.right, R fl0 eG v.font.gs, .int .i64 v.font.other, R fl0 eK v.font.ks, R fl0 eZ v.signs, .int .i64 v.scr.w, .int .i64 v.scr.h, R fl0 eQ v.scr.bl], .str s] (.ret (.tuple [.str (shapeW v s).1, .int .i64 (shapeW v s).2])) := by
 cases hv : vwR v with
 | true =>
  by_cases he : (runesG s).2 = 0
  ·by_cases hc0 : v.cells = 0
   ·have hF : shapeW v s = showS s v.right := by unfold shapeW; rw [if_pos hv, if_pos he, if_pos hc0]
    rw [hF]
    have hz : (v.cells == (0 : Int)) = true := by simp [hc0]
    refine outS_of_wp cfg (fn := Tryz.f17) Tryz.func17 rfl (by simp [Tryz.f17]) ?_
    simp (disch := first | assumption | omega | (simp; done) | (simp; omega)) [-getElem?_pos, gZ, gS, Tryz.f17, hv, he, hz]
    repeat' (first | ((first | refine wpc_split _ ?_ ?_ | refine ww_split _ ?_ ?_) <;> intro hc <;> try simp at hc) | (refine wp_drawF (by kernel_rfl) ?_) | refine wk_yldW _ ?_ | refine layOwe _ (by kernel_rfl) ?_ | refine owe ?_ (fun ho => ?_) | (simp (disch := first | assumption | omega | (simp; done) | (simp; omega)) [hv, he, hz, -getElem?_pos, gZ, gS]))
   ·have hF : shapeW v s = (s, 0) := by unfold shapeW; rw [if_pos hv, if_pos he, if_neg hc0]
    rw [hF]
    refine outS_of_wp cfg (fn := Tryz.f17) Tryz.func17 rfl (by simp [Tryz.f17]) ?_
    simp (disch := first | assumption | omega | (simp; done) | (simp; omega)) [-getElem?_pos, gZ, gS, Tryz.f17, hv, he, hc0]
    repeat' (first | ((first | refine wpc_split _ ?_ ?_ | refine ww_split _ ?_ ?_) <;> intro hc <;> try simp at hc) | (refine wp_drawF (by kernel_rfl) ?_) | refine wk_yldW _ ?_ | refine layOwe _ (by kernel_rfl) ?_ | refine owe ?_ (fun ho => ?_) | (simp (disch := first | assumption | omega | (simp; done) | (simp; omega)) [hv, he, hc0, -getElem?_pos, gZ, gS]))
  ·have hF : shapeW v s = ([], (runesG s).2) := by unfold shapeW; rw [if_pos hv, if_neg he]
   rw [hF]
   refine outS_of_wp cfg (fn := Tryz.f17) Tryz.func17 rfl (by simp [Tryz.f17]) ?_
   simp (disch := first | assumption | omega | (simp; done) | (simp; omega)) [-getElem?_pos, gZ, gS, Tryz.f17, hv, he]
   repeat' (first | ((first | refine wpc_split _ ?_ ?_ | refine ww_split _ ?_ ?_) <;> intro hc <;> try simp at hc) | (refine wp_drawF (by kernel_rfl) ?_) | refine wk_yldW _ ?_ | refine layOwe _ (by kernel_rfl) ?_ | refine owe ?_ (fun ho => ?_) | (simp (disch := first | assumption | omega | (simp; done) | (simp; omega)) [hv, he, -getElem?_pos, gZ, gS]))
 | false =>
  have hF : shapeW v s = ([], 450) := by unfold shapeW; rw [if_neg (by simp [hv])]
  rw [hF]
  refine outS_of_wp cfg (fn := Tryz.f17) Tryz.func17 rfl (by simp [Tryz.f17]) ?_
  simp (disch := first | assumption | omega | (simp; done) | (simp; omega)) [-getElem?_pos, gZ, gS, Tryz.f17, hv]
  repeat' (first | ((first | refine wpc_split _ ?_ ?_ | refine ww_split _ ?_ ?_) <;> intro hc <;> try simp at hc) | (refine wp_drawF (by kernel_rfl) ?_) | refine wk_yldW _ ?_ | refine layOwe _ (by kernel_rfl) ?_ | refine owe ?_ (fun ho => ?_) | (simp (disch := first | assumption | omega | (simp; done) | (simp; omega)) [hv, -getElem?_pos, gZ, gS]))
@[simp] theorem S17 (v : VwZ) (s : List UInt8) (hs : smVw v) (hl : s.length < 1099511627776) (q1 q2 q3 q4 : Fl) (hh : Heap) : Ci cfg (.func (.func 17) [] []) [.agg [.int .i64 v.no, .int .i64 v.lang, .int .i64 v.lines, .int .i64 v.room, .int .i64 v.cells, .int .i64 v.speed, .bool v.right, R  q1 eG v.font.gs, .int .i64 v.font.other, R  q2 eK v.font.ks, R  q3 eZ v.signs, .int .i64 v.scr.w, .int .i64 v.scr.h, R  q4 eQ v.scr.bl], .str s] hh = some (.ret (.tuple [.str (shapeW v s).1, .int .i64 (shapeW v s).2]), hh) :=
 Ci_K cfg rfl rfl (by simp) (by simp) (C17 v s hs hl)
end Go.Ab
