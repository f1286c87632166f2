
import Derived.Test.YtigmnglnedcfpaaGreatDoorGr31
import Derived.Test.YtigmnglnedcfpaaGreatDoorGr32
set_option linter.unusedVariables false
set_option linter.unusedSimpArgs false
set_option linter.unusedSectionVars false
set_option linter.deprecated false
namespace Go.Ab
open Go.Proofs
set_option maxRecDepth 100000
set_option maxHeartbeats 4000000
theorem needW_twice {v x : VwZ} (hv : vwR v = true) (hx : vwR x = true) (hs : x.speed = 2 * v.speed) (s : List UInt8) : needW x s = (2 * (needW v s).1, (needW v s).2) := by
 unfold needW
 rw [if_pos hv, if_pos hx, hs, Int.mul_assoc]
theorem needW_range {v : VwZ} (hv : vwR v = true) (s : List UInt8) : 0 ≤ (needW v s).1 ∧ (needW v s).1 ≤ 4096000 := by
 unfold needW
 rw [if_pos hv]
 exact needW_bound hv _ (runesG_len' s)
theorem xwa {v o : VwZ} {s : List UInt8} (hs : smVw v) (ho : smVw o) (hl : s.length < 1099511627776) (hv : vwR v = true) (hw : vwR o = true) (q1 q2 q3 q4 : Fl) (hh : Heap) : Ci cfg (.func (.func 12) [] []) [.agg [.int .i64 o.no, .int .i64 o.lang, .int .i64 o.lines, .int .i64 v.room, .int .i64 v.cells, .int .i64 v.speed, .bool v.right, R q1 eG v.font.gs, .int .i64 v.font.other, R q2 eK v.font.ks, R q3 eZ v.signs, .int .i64 o.scr.w, .int .i64 o.scr.h, R q4 eQ o.scr.bl], .str s] hh = some (.ret (.tuple [.int .i64 (widthW v s).1, .int .i64 (widthW v s).2]), hh) := by
 have hx : vwR (otherW v o) = true := vwR_other hv hw v.speed (vwR_speed hv).1 (vwR_speed hv).2
 have := S12 (otherW v o) s ⟨hs.1, hs.2.1, ho.2.2⟩ hl q1 q2 q3 q4 hh
 rw [widthW_other hv hx (Iff.rfl) rfl rfl s] at this; exact this
theorem xna {v o : VwZ} {s : List UInt8} (hs : smVw v) (ho : smVw o) (hl : s.length < 1099511627776) (hv : vwR v = true) (hw : vwR o = true) (q1 q2 q3 q4 : Fl) (hh : Heap) : Ci cfg (.func (.func 14) [] []) [.agg [.int .i64 o.no, .int .i64 o.lang, .int .i64 o.lines, .int .i64 v.room, .int .i64 v.cells, .int .i64 v.speed, .bool v.right, R q1 eG v.font.gs, .int .i64 v.font.other, R q2 eK v.font.ks, R q3 eZ v.signs, .int .i64 o.scr.w, .int .i64 o.scr.h, R q4 eQ o.scr.bl], .str s] hh = some (.ret (.tuple [.int .i64 (needW v s).1, .int .i64 (needW v s).2]), hh) := by
 have hx : vwR (otherW v o) = true := vwR_other hv hw v.speed (vwR_speed hv).1 (vwR_speed hv).2
 have := S14 (otherW v o) s ⟨hs.1, hs.2.1, ho.2.2⟩ hl q1 q2 q3 q4 hh
 rw [needW_other hv hx rfl s] at this; exact this
theorem xta {v o : VwZ} {s : List UInt8} (hs : smVw v) (ho : smVw o) (hl : s.length < 1099511627776) (hv : vwR v = true) (hw : vwR o = true) (q1 q2 q3 q4 : Fl) (hh : Heap) : Ci cfg (.func (.func 16) [] []) [.agg [.int .i64 o.no, .int .i64 o.lang, .int .i64 o.lines, .int .i64 v.room, .int .i64 v.cells, .int .i64 v.speed, .bool v.right, R q1 eG v.font.gs, .int .i64 v.font.other, R q2 eK v.font.ks, R q3 eZ v.signs, .int .i64 o.scr.w, .int .i64 o.scr.h, R q4 eQ o.scr.bl], .str s] hh = some (.ret (.tuple [.str (shapeW v s).1, .int .i64 (shapeW v s).2]), hh) := by
 have hx : vwR (otherW v o) = true := vwR_other hv hw v.speed (vwR_speed hv).1 (vwR_speed hv).2
 have := S16 (otherW v o) s ⟨hs.1, hs.2.1, ho.2.2⟩ hl q1 q2 q3 q4 hh
 rw [shapeW_other hv hx (Iff.rfl) rfl s] at this; exact this
theorem xsa {v o : VwZ} {s : List UInt8} (hs : smVw v) (ho : smVw o) (hl : s.length < 1099511627776) (hv : vwR v = true) (hw : vwR o = true) (q1 q2 q3 q4 : Fl) (hh : Heap) (h5 : v.speed ≤ 500) : Ci cfg (.func (.func 14) [] []) [.agg [.int .i64 o.no, .int .i64 o.lang, .int .i64 o.lines, .int .i64 v.room, .int .i64 v.cells, .int .i64 (2 * v.speed), .bool v.right, R q1 eG v.font.gs, .int .i64 v.font.other, R q2 eK v.font.ks, R q3 eZ v.signs, .int .i64 o.scr.w, .int .i64 o.scr.h, R q4 eQ o.scr.bl], .str s] hh = some (.ret (.tuple [.int .i64 (2 * (needW v s).1), .int .i64 (needW v s).2]), hh) := by
 have h0 := (vwR_speed hv).1
 have hx : vwR { otherW v o with speed := 2 * v.speed } = true := vwR_other hv hw (2 * v.speed) (by omega) (by omega)
 have := S14 { otherW v o with speed := 2 * v.speed } s ⟨hs.1, hs.2.1, ho.2.2⟩ hl q1 q2 q3 q4 hh
 rw [needW_twice hv hx rfl s] at this; exact this
theorem xwb {v o : VwZ} {s : List UInt8} (hs : smVw v) (ho : smVw o) (hl : s.length < 1099511627776) (hv : vwR v = true) (hw : vwR o = true) (hco : v.cells = 0 ↔ o.cells = 0) (q1 q2 q3 q4 : Fl) (hh : Heap) : Ci cfg (.func (.func 12) [] []) [.agg [.int .i64 o.no, .int .i64 o.lang, .int .i64 o.lines, .int .i64 o.room, .int .i64 o.cells, .int .i64 v.speed, .bool v.right, R q1 eG v.font.gs, .int .i64 v.font.other, R q2 eK v.font.ks, R q3 eZ v.signs, .int .i64 o.scr.w, .int .i64 o.scr.h, R q4 eQ o.scr.bl], .str s] hh = some (.ret (.tuple [.int .i64 (widthW v s).1, .int .i64 (widthW v s).2]), hh) := by
 have hx : vwR (other2W v o) = true := vwR_other2 hv hw hco v.speed (vwR_speed hv).1 (vwR_speed hv).2
 have := S12 (other2W v o) s ⟨hs.1, hs.2.1, ho.2.2⟩ hl q1 q2 q3 q4 hh
 rw [widthW_other hv hx (hco) rfl rfl s] at this; exact this
theorem xnb {v o : VwZ} {s : List UInt8} (hs : smVw v) (ho : smVw o) (hl : s.length < 1099511627776) (hv : vwR v = true) (hw : vwR o = true) (hco : v.cells = 0 ↔ o.cells = 0) (q1 q2 q3 q4 : Fl) (hh : Heap) : Ci cfg (.func (.func 14) [] []) [.agg [.int .i64 o.no, .int .i64 o.lang, .int .i64 o.lines, .int .i64 o.room, .int .i64 o.cells, .int .i64 v.speed, .bool v.right, R q1 eG v.font.gs, .int .i64 v.font.other, R q2 eK v.font.ks, R q3 eZ v.signs, .int .i64 o.scr.w, .int .i64 o.scr.h, R q4 eQ o.scr.bl], .str s] hh = some (.ret (.tuple [.int .i64 (needW v s).1, .int .i64 (needW v s).2]), hh) := by
 have hx : vwR (other2W v o) = true := vwR_other2 hv hw hco v.speed (vwR_speed hv).1 (vwR_speed hv).2
 have := S14 (other2W v o) s ⟨hs.1, hs.2.1, ho.2.2⟩ hl q1 q2 q3 q4 hh
 rw [needW_other hv hx rfl s] at this; exact this
theorem xtb {v o : VwZ} {s : List UInt8} (hs : smVw v) (ho : smVw o) (hl : s.length < 1099511627776) (hv : vwR v = true) (hw : vwR o = true) (hco : v.cells = 0 ↔ o.cells = 0) (q1 q2 q3 q4 : Fl) (hh : Heap) : Ci cfg (.func (.func 16) [] []) [.agg [.int .i64 o.no, .int .i64 o.lang, .int .i64 o.lines, .int .i64 o.room, .int .i64 o.cells, .int .i64 v.speed, .bool v.right, R q1 eG v.font.gs, .int .i64 v.font.other, R q2 eK v.font.ks, R q3 eZ v.signs, .int .i64 o.scr.w, .int .i64 o.scr.h, R q4 eQ o.scr.bl], .str s] hh = some (.ret (.tuple [.str (shapeW v s).1, .int .i64 (shapeW v s).2]), hh) := by
 have hx : vwR (other2W v o) = true := vwR_other2 hv hw hco v.speed (vwR_speed hv).1 (vwR_speed hv).2
 have := S16 (other2W v o) s ⟨hs.1, hs.2.1, ho.2.2⟩ hl q1 q2 q3 q4 hh
 rw [shapeW_other hv hx (hco) rfl s] at this; exact this
theorem xsb {v o : VwZ} {s : List UInt8} (hs : smVw v) (ho : smVw o) (hl : s.length < 1099511627776) (hv : vwR v = true) (hw : vwR o = true) (hco : v.cells = 0 ↔ o.cells = 0) (q1 q2 q3 q4 : Fl) (hh : Heap) (h5 : v.speed ≤ 500) : Ci cfg (.func (.func 14) [] []) [.agg [.int .i64 o.no, .int .i64 o.lang, .int .i64 o.lines, .int .i64 o.room, .int .i64 o.cells, .int .i64 (2 * v.speed), .bool v.right, R q1 eG v.font.gs, .int .i64 v.font.other, R q2 eK v.font.ks, R q3 eZ v.signs, .int .i64 o.scr.w, .int .i64 o.scr.h, R q4 eQ o.scr.bl], .str s] hh = some (.ret (.tuple [.int .i64 (2 * (needW v s).1), .int .i64 (needW v s).2]), hh) := by
 have h0 := (vwR_speed hv).1
 have hx : vwR { other2W v o with speed := 2 * v.speed } = true := vwR_other2 hv hw hco (2 * v.speed) (by omega) (by omega)
 have := S14 { other2W v o with speed := 2 * v.speed } s ⟨hs.1, hs.2.1, ho.2.2⟩ hl q1 q2 q3 q4 hh
 rw [needW_twice hv hx rfl s] at this; exact this
theorem C6 (v o : VwZ) (s : List UInt8) (hs : smVw v) (ho : smVw o) (hl : s.length < 1099511627776) : Kc cfg 6 [.agg [.int .i64 v.no, .int .i64 v.lang, .int .i64 v.lines, .int .i64 v.room, .int .i64 v.cells, .int .i64 v.speed, .bool v.right, R fl0 eG v.font.gs, .int .i64 v.font.other, R fl0 eK v.font.ks, R fl0 eZ v.signs, .int .i64 v.scr.w, .int .i64 v.scr.h, R fl0 eQ v.scr.bl], .agg [.int .i64 o.no, .int .i64 o.lang, .int .i64 o.lines, .int .i64 o.room, .int .i64 o.cells, .int .i64 o.speed, .bool o.right, R fl0 eG o.font.gs, .int .i64 o.font.other, R fl0 eK o.font.ks, R fl0 eZ o.signs, .int .i64 o.scr.w, .int .i64 o.scr.h, R fl0 eQ o.scr.bl], .str s] (.ret (.bool true)) := by
 cases hf : fewW v s with
 | false =>
  refine outS_of_wp cfg (fn := Tryz.f6) Tryz.func6 rfl (by simp [Tryz.f6]) ?_
  simp (disch := first | assumption | omega | (simp; done) | (simp; omega)) [-getElem?_pos, gZ, gS, Tryz.f6, hs, ho, hf, emptyH]
  repeat' (first | ((first | refine wpc_split _ ?_ ?_ | refine ww_split _ ?_ ?_) <;> intro hc <;> try simp at hc) | (refine wp_drawF (by kernel_rfl) ?_) | refine wk_yldW _ ?_ | refine layOwe _ (by kernel_rfl) ?_ | refine owe ?_ (fun ho => ?_) | (simp (disch := first | assumption | omega | (simp; done) | (simp; omega)) [hs, ho, hf, emptyH, -getElem?_pos, gZ, gS]))
 | true =>
 cases hf2 : fewW o s with
 | false =>
  refine outS_of_wp cfg (fn := Tryz.f6) Tryz.func6 rfl (by simp [Tryz.f6]) ?_
  simp (disch := first | assumption | omega | (simp; done) | (simp; omega)) [-getElem?_pos, gZ, gS, Tryz.f6, hs, ho, hf, hf2, emptyH]
  repeat' (first | ((first | refine wpc_split _ ?_ ?_ | refine ww_split _ ?_ ?_) <;> intro hc <;> try simp at hc) | (refine wp_drawF (by kernel_rfl) ?_) | refine wk_yldW _ ?_ | refine layOwe _ (by kernel_rfl) ?_ | refine owe ?_ (fun ho => ?_) | (simp (disch := first | assumption | omega | (simp; done) | (simp; omega)) [hs, ho, hf, hf2, emptyH, -getElem?_pos, gZ, gS]))
 | true =>
 cases hv : vwR v with
 | false =>
  refine outS_of_wp cfg (fn := Tryz.f6) Tryz.func6 rfl (by simp [Tryz.f6]) ?_
  simp (disch := first | assumption | omega | (simp; done) | (simp; omega)) [-getElem?_pos, gZ, gS, Tryz.f6, hs, ho, hf, hf2, hv, emptyH]
  repeat' (first | ((first | refine wpc_split _ ?_ ?_ | refine ww_split _ ?_ ?_) <;> intro hc <;> try simp at hc) | (refine wp_drawF (by kernel_rfl) ?_) | refine wk_yldW _ ?_ | refine layOwe _ (by kernel_rfl) ?_ | refine owe ?_ (fun ho => ?_) | (simp (disch := first | assumption | omega | (simp; done) | (simp; omega)) [hs, ho, hf, hf2, hv, emptyH, -getElem?_pos, gZ, gS]))
 | true =>
 cases hw : vwR o with
 | false =>
  refine outS_of_wp cfg (fn := Tryz.f6) Tryz.func6 rfl (by simp [Tryz.f6]) ?_
  simp (disch := first | assumption | omega | (simp; done) | (simp; omega)) [-getElem?_pos, gZ, gS, Tryz.f6, hs, ho, hf, hf2, hv, hw, emptyH]
  repeat' (first | ((first | refine wpc_split _ ?_ ?_ | refine ww_split _ ?_ ?_) <;> intro hc <;> try simp at hc) | (refine wp_drawF (by kernel_rfl) ?_) | refine wk_yldW _ ?_ | refine layOwe _ (by kernel_rfl) ?_ | refine owe ?_ (fun ho => ?_) | (simp (disch := first | assumption | omega | (simp; done) | (simp; omega)) [hs, ho, hf, hf2, hv, hw, emptyH, -getElem?_pos, gZ, gS]))
 | true =>
 have hsp1 := (vwR_speed hv).1
 have hsp2 := (vwR_speed hv).2
 have hnr := needW_range hv s
 by_cases hc : v.cells = 0
 ·by_cases hc2 : o.cells = 0
  ·have e1 : (v.cells == 0) = true := by simpa using hc
   have e2 : (o.cells == 0) = true := by simpa using hc2
   have hco : v.cells = 0 ↔ o.cells = 0 := by simp [hc, hc2]
   by_cases h5 : 500 < v.speed
   ·skip
    refine outS_of_wp cfg (fn := Tryz.f6) Tryz.func6 rfl (by simp [Tryz.f6]) ?_
    simp (config := { maxSteps := 2000000 }) (disch := first | assumption | omega | (simp; done) | (simp; omega)) [-getElem?_pos, gZ, gS, Tryz.f6, hs, ho, hf, hf2, hv, hw, e1, e2, h5, emptyH]
    repeat' (first | ((first | refine wpc_split _ ?_ ?_ | refine ww_split _ ?_ ?_) <;> intro hc <;> try simp at hc) | (refine wp_drawT _ (by kernel_rfl) ?_) | refine wk_yldW _ ?_ | refine layOwe _ (by kernel_rfl) ?_ | refine owe ?_ (fun ho => ?_) | (simp (config := { maxSteps := 2000000 }) (disch := first | assumption | omega | (simp; done) | (simp; omega)) [hs, ho, hf, hf2, hv, hw, e1, e2, h5, emptyH, xwb hs ho hl hv hw hco, xnb hs ho hl hv hw hco, xtb hs ho hl hv hw hco, -getElem?_pos, gZ, gS]))
   ·have h6 : v.speed ≤ 500 := by omega
    refine outS_of_wp cfg (fn := Tryz.f6) Tryz.func6 rfl (by simp [Tryz.f6]) ?_
    simp (config := { maxSteps := 2000000 }) (disch := first | assumption | omega | (simp; done) | (simp; omega)) [-getElem?_pos, gZ, gS, Tryz.f6, hs, ho, hf, hf2, hv, hw, e1, e2, emptyH]
    repeat' (first | ((first | refine wpc_split _ ?_ ?_ | refine ww_split _ ?_ ?_) <;> intro hc <;> try simp at hc) | (refine wp_drawT _ (by kernel_rfl) ?_) | refine wk_yldW _ ?_ | refine layOwe _ (by kernel_rfl) ?_ | refine owe ?_ (fun ho => ?_) | (simp (config := { maxSteps := 2000000 }) (disch := first | assumption | omega | (simp; done) | (simp; omega)) [hs, ho, hf, hf2, hv, hw, e1, e2, emptyH, xwb hs ho hl hv hw hco, xnb hs ho hl hv hw hco, xtb hs ho hl hv hw hco, xsb hs ho hl hv hw hco, -getElem?_pos, gZ, gS]))
    all_goals try omega
  ·have e1 : (v.cells == 0) = true := by simpa using hc
   have e2 : (o.cells == 0) = false := by simpa using hc2
   by_cases h5 : 500 < v.speed
   ·skip
    refine outS_of_wp cfg (fn := Tryz.f6) Tryz.func6 rfl (by simp [Tryz.f6]) ?_
    simp (config := { maxSteps := 2000000 }) (disch := first | assumption | omega | (simp; done) | (simp; omega)) [-getElem?_pos, gZ, gS, Tryz.f6, hs, ho, hf, hf2, hv, hw, e1, e2, h5, emptyH]
    repeat' (first | ((first | refine wpc_split _ ?_ ?_ | refine ww_split _ ?_ ?_) <;> intro hc <;> try simp at hc) | (refine wp_drawT _ (by kernel_rfl) ?_) | refine wk_yldW _ ?_ | refine layOwe _ (by kernel_rfl) ?_ | refine owe ?_ (fun ho => ?_) | (simp (config := { maxSteps := 2000000 }) (disch := first | assumption | omega | (simp; done) | (simp; omega)) [hs, ho, hf, hf2, hv, hw, e1, e2, h5, emptyH, xwa hs ho hl hv hw, xna hs ho hl hv hw, xta hs ho hl hv hw, -getElem?_pos, gZ, gS]))
   ·have h6 : v.speed ≤ 500 := by omega
    refine outS_of_wp cfg (fn := Tryz.f6) Tryz.func6 rfl (by simp [Tryz.f6]) ?_
    simp (config := { maxSteps := 2000000 }) (disch := first | assumption | omega | (simp; done) | (simp; omega)) [-getElem?_pos, gZ, gS, Tryz.f6, hs, ho, hf, hf2, hv, hw, e1, e2, emptyH]
    repeat' (first | ((first | refine wpc_split _ ?_ ?_ | refine ww_split _ ?_ ?_) <;> intro hc <;> try simp at hc) | (refine wp_drawT _ (by kernel_rfl) ?_) | refine wk_yldW _ ?_ | refine layOwe _ (by kernel_rfl) ?_ | refine owe ?_ (fun ho => ?_) | (simp (config := { maxSteps := 2000000 }) (disch := first | assumption | omega | (simp; done) | (simp; omega)) [hs, ho, hf, hf2, hv, hw, e1, e2, emptyH, xwa hs ho hl hv hw, xna hs ho hl hv hw, xta hs ho hl hv hw, xsa hs ho hl hv hw, -getElem?_pos, gZ, gS]))
    all_goals try omega
 ·by_cases hc2 : o.cells = 0
  ·have e1 : (v.cells == 0) = false := by simpa using hc
   have e2 : (o.cells == 0) = true := by simpa using hc2
   by_cases h5 : 500 < v.speed
   ·skip
    refine outS_of_wp cfg (fn := Tryz.f6) Tryz.func6 rfl (by simp [Tryz.f6]) ?_
    simp (config := { maxSteps := 2000000 }) (disch := first | assumption | omega | (simp; done) | (simp; omega)) [-getElem?_pos, gZ, gS, Tryz.f6, hs, ho, hf, hf2, hv, hw, e1, e2, h5, emptyH]
    repeat' (first | ((first | refine wpc_split _ ?_ ?_ | refine ww_split _ ?_ ?_) <;> intro hc <;> try simp at hc) | (refine wp_drawT _ (by kernel_rfl) ?_) | refine wk_yldW _ ?_ | refine layOwe _ (by kernel_rfl) ?_ | refine owe ?_ (fun ho => ?_) | (simp (config := { maxSteps := 2000000 }) (disch := first | assumption | omega | (simp; done) | (simp; omega)) [hs, ho, hf, hf2, hv, hw, e1, e2, h5, emptyH, xwa hs ho hl hv hw, xna hs ho hl hv hw, xta hs ho hl hv hw, -getElem?_pos, gZ, gS]))
   ·have h6 : v.speed ≤ 500 := by omega
    refine outS_of_wp cfg (fn := Tryz.f6) Tryz.func6 rfl (by simp [Tryz.f6]) ?_
    simp (config := { maxSteps := 2000000 }) (disch := first | assumption | omega | (simp; done) | (simp; omega)) [-getElem?_pos, gZ, gS, Tryz.f6, hs, ho, hf, hf2, hv, hw, e1, e2, emptyH]
    repeat' (first | ((first | refine wpc_split _ ?_ ?_ | refine ww_split _ ?_ ?_) <;> intro hc <;> try simp at hc) | (refine wp_drawT _ (by kernel_rfl) ?_) | refine wk_yldW _ ?_ | refine layOwe _ (by kernel_rfl) ?_ | refine owe ?_ (fun ho => ?_) | (simp (config := { maxSteps := 2000000 }) (disch := first | assumption | omega | (simp; done) | (simp; omega)) [hs, ho, hf, hf2, hv, hw, e1, e2, emptyH, xwa hs ho hl hv hw, xna hs ho hl hv hw, xta hs ho hl hv hw, xsa hs ho hl hv hw, -getElem?_pos, gZ, gS]))
    all_goals try omega
  ·have e1 : (v.cells == 0) = false := by simpa using hc
   have e2 : (o.cells == 0) = false := by simpa using hc2
   have hco : v.cells = 0 ↔ o.cells = 0 := by simp [hc, hc2]
   by_cases h5 : 500 < v.speed
   ·skip
    refine outS_of_wp cfg (fn := Tryz.f6) Tryz.func6 rfl (by simp [Tryz.f6]) ?_
    simp (config := { maxSteps := 2000000 }) (disch := first | assumption | omega | (simp; done) | (simp; omega)) [-getElem?_pos, gZ, gS, Tryz.f6, hs, ho, hf, hf2, hv, hw, e1, e2, h5, emptyH]
    repeat' (first | ((first | refine wpc_split _ ?_ ?_ | refine ww_split _ ?_ ?_) <;> intro hc <;> try simp at hc) | (refine wp_drawT _ (by kernel_rfl) ?_) | refine wk_yldW _ ?_ | refine layOwe _ (by kernel_rfl) ?_ | refine owe ?_ (fun ho => ?_) | (simp (config := { maxSteps := 2000000 }) (disch := first | assumption | omega | (simp; done) | (simp; omega)) [hs, ho, hf, hf2, hv, hw, e1, e2, h5, emptyH, xwb hs ho hl hv hw hco, xnb hs ho hl hv hw hco, xtb hs ho hl hv hw hco, -getElem?_pos, gZ, gS]))
   ·have h6 : v.speed ≤ 500 := by omega
    refine outS_of_wp cfg (fn := Tryz.f6) Tryz.func6 rfl (by simp [Tryz.f6]) ?_
    simp (config := { maxSteps := 2000000 }) (disch := first | assumption | omega | (simp; done) | (simp; omega)) [-getElem?_pos, gZ, gS, Tryz.f6, hs, ho, hf, hf2, hv, hw, e1, e2, emptyH]
    repeat' (first | ((first | refine wpc_split _ ?_ ?_ | refine ww_split _ ?_ ?_) <;> intro hc <;> try simp at hc) | (refine wp_drawT _ (by kernel_rfl) ?_) | refine wk_yldW _ ?_ | refine layOwe _ (by kernel_rfl) ?_ | refine owe ?_ (fun ho => ?_) | (simp (config := { maxSteps := 2000000 }) (disch := first | assumption | omega | (simp; done) | (simp; omega)) [hs, ho, hf, hf2, hv, hw, e1, e2, emptyH, xwb hs ho hl hv hw hco, xnb hs ho hl hv hw hco, xtb hs ho hl hv hw hco, xsb hs ho hl hv hw hco, -getElem?_pos, gZ, gS]))
    all_goals try omega
@[simp] theorem S6 (v o : VwZ) (s : List UInt8) (hs : smVw v) (ho : smVw o) (hl : s.length < 1099511627776) (q1 q2 q3 q4 q5 q6 q7 q8 : Fl) (hh : Heap) : Ci cfg (.func (.func 6) [] []) [.agg [.int .i64 v.no, .int .i64 v.lang, .int .i64 v.lines, .int .i64 v.room, .int .i64 v.cells, .int .i64 v.speed, .bool v.right, R  q1 eG v.font.gs, .int .i64 v.font.other, R  q2 eK v.font.ks, R  q3 eZ v.signs, .int .i64 v.scr.w, .int .i64 v.scr.h, R  q4 eQ v.scr.bl], .agg [.int .i64 o.no, .int .i64 o.lang, .int .i64 o.lines, .int .i64 o.room, .int .i64 o.cells, .int .i64 o.speed, .bool o.right, R  q5 eG o.font.gs, .int .i64 o.font.other, R  q6 eK o.font.ks, R  q7 eZ o.signs, .int .i64 o.scr.w, .int .i64 o.scr.h, R  q8 eQ o.scr.bl], .str s] hh = some (.ret (.bool true), hh) :=
 Ci_K cfg rfl rfl (by simp) (by simp) (C6 v o s hs ho hl)
end Go.Ab
