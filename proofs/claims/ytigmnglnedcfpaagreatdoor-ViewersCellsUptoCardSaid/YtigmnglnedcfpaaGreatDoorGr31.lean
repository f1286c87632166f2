/- A part of the proof. -/
import Derived.Test.YtigmnglnedcfpaaGreatDoorGr4
import Derived.Test.YtigmnglnedcfpaaGreatDoorV10
import Derived.Test.YtigmnglnedcfpaaGreatDoorGr8
import Derived.Test.YtigmnglnedcfpaaGreatDoorGr25
import Derived.Test.YtigmnglnedcfpaaGreatDoorGr26
import Derived.Test.YtigmnglnedcfpaaGreatDoorGr29
set_option linter.unusedVariables false
set_option linter.unusedSimpArgs false
set_option linter.unusedSectionVars false
set_option linter.deprecated false
namespace Go.Ab
open Go.Proofs
set_option maxRecDepth 100000
set_option maxHeartbeats 4000000
theorem C26 (f : Font) (s : List UInt8) (hs : f.gs.length < 1099511627776 ∧ f.ks.length < 1099511627776 ∧ s.length < 1099511627776) : Kc cfg 26 [.agg [R fl0 eG f.gs, .int .i64 f.other, R fl0 eK f.ks], .str s] (.ret (.bool (decide ((f.gs.length ≤ 30 ∨ 1024 < f.gs.length ∧ f.gs.length ≤ 1100) ∧ (f.ks.length ≤ 30 ∨ 1024 < f.ks.length ∧ f.ks.length ≤ 1100) ∧ s.length ≤ 200)))) := by
 refine outS_of_wp cfg (fn := Tryz.f26) Tryz.func26 rfl (by simp [Tryz.f26]) ?_
 simp (disch := first | assumption | omega | (simp; done) | (simp; omega)) [-getElem?_pos, gZ, gS, Tryz.f26]
 repeat' (first | ((first | refine wpc_split _ ?_ ?_ | refine ww_split _ ?_ ?_) <;> intro hc <;> try simp at hc) | (refine wp_drawF (by kernel_rfl) ?_) | refine wk_yldW _ ?_ | refine layOwe _ (by kernel_rfl) ?_ | refine owe ?_ (fun ho => ?_) | (simp (disch := first | assumption | omega | (simp; done) | (simp; omega)) [-getElem?_pos, gZ, gS]))
 all_goals first | omega | (simp; omega) | grind
@[simp] theorem S26 (f : Font) (s : List UInt8) (hs : f.gs.length < 1099511627776 ∧ f.ks.length < 1099511627776 ∧ s.length < 1099511627776) (q1 q2 : Fl) (hh : Heap) : Ci cfg (.func (.func 26) [] []) [.agg [R  q1 eG f.gs, .int .i64 f.other, R  q2 eK f.ks], .str s] hh = some (.ret (.bool (decide ((f.gs.length ≤ 30 ∨ 1024 < f.gs.length ∧ f.gs.length ≤ 1100) ∧ (f.ks.length ≤ 30 ∨ 1024 < f.ks.length ∧ f.ks.length ≤ 1100) ∧ s.length ≤ 200))), hh) :=
 Ci_K cfg rfl rfl (by simp) (by simp) (C26 f s hs)
end Go.Ab
namespace Go.Ab
open Go.Proofs
set_option maxRecDepth 100000
set_option maxHeartbeats 4000000
def fewF (v : VwZ) (s : List UInt8) : Bool := (decide ((v.font.gs.length ≤ 30 ∨ 1024 < v.font.gs.length ∧ v.font.gs.length ≤ 1100) ∧ (v.font.ks.length ≤ 30 ∨ 1024 < v.font.ks.length ∧ v.font.ks.length ≤ 1100) ∧ s.length ≤ 200))
def fewW (v : VwZ) (s : List UInt8) : Bool := fewF v s && fewZ v.signs s && decide (s.length ≤ 40) && decide (v.scr.bl.length ≤ 60)
theorem fewW_iff {v : VwZ} {s : List UInt8} : fewW v s = true ↔ fewF v s = true ∧ fewZ v.signs s = true ∧ (s.length : Int) ≤ 40 ∧ (v.scr.bl.length : Int) ≤ 60 := by
 have h1 : ((s.length : Int) ≤ 40) ↔ s.length ≤ 40 := by omega
 have h2 : ((v.scr.bl.length : Int) ≤ 60) ↔ v.scr.bl.length ≤ 60 := by omega
 rw [h1, h2]
 simp only [fewW, Bool.and_eq_true, decide_eq_true_eq, and_assoc]
theorem C9 (v : VwZ) (s : List UInt8) (hs : smVw v) (hl : s.length < 1099511627776) : Kc cfg 9 [.agg [.int .i64 v.no, .int .i64 v.lang, .int .i64 v.lines, .int .i64 v.room, .int .i64 v.cells, .int .i64 v.speed, .bool v.right, R fl0 eG v.font.gs, .int .i64 v.font.other, R fl0 eK v.font.ks, R fl0 eZ v.signs, .int .i64 v.scr.w, .int .i64 v.scr.h, R fl0 eQ v.scr.bl], .str s] (.ret (.bool (fewW v s))) := by
 have hsf : v.font.gs.length < 1099511627776 ∧ v.font.ks.length < 1099511627776 ∧ s.length < 1099511627776 := ⟨hs.1.1, hs.1.2, hl⟩
 have hs2 := hs.2.1
 have kf := fewW_iff (v := v) (s := s)
 have kd : (decide ((v.font.gs.length ≤ 30 ∨ 1024 < v.font.gs.length ∧ v.font.gs.length ≤ 1100) ∧ (v.font.ks.length ≤ 30 ∨ 1024 < v.font.ks.length ∧ v.font.ks.length ≤ 1100) ∧ s.length ≤ 200)) = fewF v s := rfl
 generalize fewF v s = B at *
 generalize fewW v s = F at *
 cases hz : fewZ v.signs s with
 | true =>
  rw [hz] at kf
  refine outS_of_wp cfg (fn := Tryz.f9) Tryz.func9 rfl (by simp [Tryz.f9]) ?_
  simp (disch := first | assumption | omega | (simp; done) | (simp; omega)) [-getElem?_pos, gZ, gS, Tryz.f9, kd, hz]
  repeat' (first | ((first | refine wpc_split _ ?_ ?_ | refine ww_split _ ?_ ?_) <;> intro hc <;> try simp at hc) | (refine wp_drawF (by kernel_rfl) ?_) | refine wk_yldW _ ?_ | refine layOwe _ (by kernel_rfl) ?_ | refine owe ?_ (fun ho => ?_) | (simp (disch := first | assumption | omega | (simp; done) | (simp; omega)) [kd, hz, -getElem?_pos, gZ, gS]))
  all_goals (clear hs hs2 hsf kd; cases F <;> cases B <;> grind)
 | false =>
  rw [hz] at kf
  refine outS_of_wp cfg (fn := Tryz.f9) Tryz.func9 rfl (by simp [Tryz.f9]) ?_
  simp (disch := first | assumption | omega | (simp; done) | (simp; omega)) [-getElem?_pos, gZ, gS, Tryz.f9, kd, hz]
  repeat' (first | ((first | refine wpc_split _ ?_ ?_ | refine ww_split _ ?_ ?_) <;> intro hc <;> try simp at hc) | (refine wp_drawF (by kernel_rfl) ?_) | refine wk_yldW _ ?_ | refine layOwe _ (by kernel_rfl) ?_ | refine owe ?_ (fun ho => ?_) | (simp (disch := first | assumption | omega | (simp; done) | (simp; omega)) [kd, hz, -getElem?_pos, gZ, gS]))
  all_goals (clear hs hs2 hsf kd; cases F <;> cases B <;> grind)
@[simp] theorem S9 (v : VwZ) (s : List UInt8) (hs : smVw v) (hl : s.length < 1099511627776) (q1 q2 q3 q4 : Fl) (hh : Heap) : Ci cfg (.func (.func 9) [] []) [.agg [.int .i64 v.no, .int .i64 v.lang, .int .i64 v.lines, .int .i64 v.room, .int .i64 v.cells, .int .i64 v.speed, .bool v.right, R  q1 eG v.font.gs, .int .i64 v.font.other, R  q2 eK v.font.ks, R  q3 eZ v.signs, .int .i64 v.scr.w, .int .i64 v.scr.h, R  q4 eQ v.scr.bl], .str s] hh = some (.ret (.bool (fewW v s)), hh) :=
 Ci_K cfg rfl rfl (by simp) (by simp) (C9 v s hs hl)
end Go.Ab
namespace Go.Ab
open Go.Proofs
set_option maxRecDepth 100000
set_option maxHeartbeats 4000000
instance (x : Sgn) : Decidable (smZ x) := by unfold smZ; infer_instance
theorem exS_sm : smVw exS := ⟨⟨by decide, by decide⟩, ⟨by decide, fun x hx => by cases hx⟩, by decide⟩
theorem exC_sm : smVw exC := ⟨⟨by decide, by decide⟩, ⟨by decide, fun x hx => by (revert x; decide)⟩, by decide⟩
theorem zw1 (s : List UInt8) (hs : s = [97, 98, 32, 99]) (q1 q2 q3 q4 : Fl) (hh : Heap) : Ci cfg (.func (.func 12) [] []) [.agg [.int .i64 exS.no, .int .i64 exS.lang, .int .i64 exS.lines, .int .i64 exS.room, .int .i64 exS.cells, .int .i64 exS.speed, .bool exS.right, R q1 eG exS.font.gs, .int .i64 exS.font.other, R q2 eK exS.font.ks, R q3 eZ exS.signs, .int .i64 exS.scr.w, .int .i64 exS.scr.h, R q4 eQ exS.scr.bl], .str s] hh = some (.ret (.tuple [.int .i64 33, .int .i64 0]), hh) := by
 subst hs
 have := S12 exS [97, 98, 32, 99] exS_sm (by decide) q1 q2 q3 q4 hh
 rw [exS_w] at this; exact this
theorem zn1 (s : List UInt8) (hs : s = [97, 98, 32, 99]) (q1 q2 q3 q4 : Fl) (hh : Heap) : Ci cfg (.func (.func 14) [] []) [.agg [.int .i64 exS.no, .int .i64 exS.lang, .int .i64 exS.lines, .int .i64 exS.room, .int .i64 exS.cells, .int .i64 exS.speed, .bool exS.right, R q1 eG exS.font.gs, .int .i64 exS.font.other, R q2 eK exS.font.ks, R q3 eZ exS.signs, .int .i64 exS.scr.w, .int .i64 exS.scr.h, R q4 eQ exS.scr.bl], .str s] hh = some (.ret (.tuple [.int .i64 240, .int .i64 0]), hh) := by
 subst hs
 have := S14 exS [97, 98, 32, 99] exS_sm (by decide) q1 q2 q3 q4 hh
 rw [exS_n] at this; exact this
theorem zs1 (s : List UInt8) (hs : s = [97, 98, 32, 215, 144, 215, 145]) (q1 q2 q3 q4 : Fl) (hh : Heap) : Ci cfg (.func (.func 16) [] []) [.agg [.int .i64 exS.no, .int .i64 exS.lang, .int .i64 exS.lines, .int .i64 exS.room, .int .i64 exS.cells, .int .i64 exS.speed, .bool exS.right, R q1 eG exS.font.gs, .int .i64 exS.font.other, R q2 eK exS.font.ks, R q3 eZ exS.signs, .int .i64 exS.scr.w, .int .i64 exS.scr.h, R q4 eQ exS.scr.bl], .str s] hh = some (.ret (.tuple [.str [97, 98, 32, 215, 145, 215, 144], .int .i64 0]), hh) := by
 subst hs
 have := S16 exS [97, 98, 32, 215, 144, 215, 145] exS_sm (by decide) q1 q2 q3 q4 hh
 rw [exS_s] at this; exact this
theorem zw2 (s : List UInt8) (hs : s = [97, 97, 98]) (q1 q2 q3 q4 : Fl) (hh : Heap) : Ci cfg (.func (.func 12) [] []) [.agg [.int .i64 exC.no, .int .i64 exC.lang, .int .i64 exC.lines, .int .i64 exC.room, .int .i64 exC.cells, .int .i64 exC.speed, .bool exC.right, R q1 eG exC.font.gs, .int .i64 exC.font.other, R q2 eK exC.font.ks, R q3 eZ exC.signs, .int .i64 exC.scr.w, .int .i64 exC.scr.h, R q4 eQ exC.scr.bl], .str s] hh = some (.ret (.tuple [.int .i64 2, .int .i64 0]), hh) := by
 subst hs
 have := S12 exC [97, 97, 98] exC_sm (by decide) q1 q2 q3 q4 hh
 rw [exC_w] at this; exact this
theorem zn2 (s : List UInt8) (hs : s = [97, 97, 98]) (q1 q2 q3 q4 : Fl) (hh : Heap) : Ci cfg (.func (.func 14) [] []) [.agg [.int .i64 exC.no, .int .i64 exC.lang, .int .i64 exC.lines, .int .i64 exC.room, .int .i64 exC.cells, .int .i64 exC.speed, .bool exC.right, R q1 eG exC.font.gs, .int .i64 exC.font.other, R q2 eK exC.font.ks, R q3 eZ exC.signs, .int .i64 exC.scr.w, .int .i64 exC.scr.h, R q4 eQ exC.scr.bl], .str s] hh = some (.ret (.tuple [.int .i64 300, .int .i64 0]), hh) := by
 subst hs
 have := S14 exC [97, 97, 98] exC_sm (by decide) q1 q2 q3 q4 hh
 rw [exC_n] at this; exact this
theorem zs2 (s : List UInt8) (hs : s = [97, 98, 32, 215, 144, 215, 145]) (q1 q2 q3 q4 : Fl) (hh : Heap) : Ci cfg (.func (.func 16) [] []) [.agg [.int .i64 exC.no, .int .i64 exC.lang, .int .i64 exC.lines, .int .i64 exC.room, .int .i64 exC.cells, .int .i64 exC.speed, .bool exC.right, R q1 eG exC.font.gs, .int .i64 exC.font.other, R q2 eK exC.font.ks, R q3 eZ exC.signs, .int .i64 exC.scr.w, .int .i64 exC.scr.h, R q4 eQ exC.scr.bl], .str s] hh = some (.ret (.tuple [.str [97, 98, 32, 215, 144, 215, 145], .int .i64 0]), hh) := by
 subst hs
 have := S16 exC [97, 98, 32, 215, 144, 215, 145] exC_sm (by decide) q1 q2 q3 q4 hh
 rw [exC_s] at this; exact this
theorem zw3 (s : List UInt8) (hs : s = [120]) (q1 q2 q3 q4 : Fl) (hh : Heap) : Ci cfg (.func (.func 12) [] []) [.agg [.int .i64 exC.no, .int .i64 exC.lang, .int .i64 exC.lines, .int .i64 exC.room, .int .i64 exC.cells, .int .i64 exC.speed, .bool exC.right, R q1 eG exC.font.gs, .int .i64 exC.font.other, R q2 eK exC.font.ks, R q3 eZ exC.signs, .int .i64 exC.scr.w, .int .i64 exC.scr.h, R q4 eQ exC.scr.bl], .str s] hh = some (.ret (.tuple [.int .i64 0, .int .i64 450]), hh) := by
 subst hs
 have := S12 exC [120] exC_sm (by decide) q1 q2 q3 q4 hh
 rw [exC_x] at this; exact this
theorem zn3 (s : List UInt8) (hs : s = [255]) (q1 q2 q3 q4 : Fl) (hh : Heap) : Ci cfg (.func (.func 14) [] []) [.agg [.int .i64 exS.no, .int .i64 exS.lang, .int .i64 exS.lines, .int .i64 exS.room, .int .i64 exS.cells, .int .i64 exS.speed, .bool exS.right, R q1 eG exS.font.gs, .int .i64 exS.font.other, R q2 eK exS.font.ks, R q3 eZ exS.signs, .int .i64 exS.scr.w, .int .i64 exS.scr.h, R q4 eQ exS.scr.bl], .str s] hh = some (.ret (.tuple [.int .i64 0, .int .i64 90]), hh) := by
 subst hs
 have := S14 exS [255] exS_sm (by decide) q1 q2 q3 q4 hh
 rw [exS_f] at this; exact this
theorem zw4 (s : List UInt8) (hs : s = []) (q1 q2 q3 q4 : Fl) (hh : Heap) : Ci cfg (.func (.func 12) [] []) [.agg [.int .i64 exS.no, .int .i64 exS.lang, .int .i64 exS.lines, .int .i64 exS.room, .int .i64 exS.cells, .int .i64 exS.speed, .bool exS.right, R q1 eG exS.font.gs, .int .i64 exS.font.other, R q2 eK exS.font.ks, R q3 eZ exS.signs, .int .i64 exS.scr.w, .int .i64 exS.scr.h, R q4 eQ exS.scr.bl], .str s] hh = some (.ret (.tuple [.int .i64 0, .int .i64 0]), hh) := by
 subst hs
 have := S12 exS [] exS_sm (by decide) q1 q2 q3 q4 hh
 rw [exS_0] at this; exact this
theorem zw5 (s : List UInt8) (hs : s = []) (q1 q2 q3 q4 : Fl) (hh : Heap) : Ci cfg (.func (.func 12) [] []) [.agg [.int .i64 exC.no, .int .i64 exC.lang, .int .i64 exC.lines, .int .i64 exC.room, .int .i64 exC.cells, .int .i64 exC.speed, .bool exC.right, R q1 eG exC.font.gs, .int .i64 exC.font.other, R q2 eK exC.font.ks, R q3 eZ exC.signs, .int .i64 exC.scr.w, .int .i64 exC.scr.h, R q4 eQ exC.scr.bl], .str s] hh = some (.ret (.tuple [.int .i64 0, .int .i64 0]), hh) := by
 subst hs
 have := S12 exC [] exC_sm (by decide) q1 q2 q3 q4 hh
 rw [exC_0] at this; exact this
theorem zk2 (q1 q2 q3 q4 : Fl) (hh : Heap) : Ci cfg (.func (.func 10) [] []) [.agg [.int .i64 exS.no, .int .i64 exS.lang, .int .i64 exS.lines, .int .i64 exS.room, .int .i64 exS.cells, .int .i64 exS.speed, .bool exS.right, R q1 eG exS.font.gs, .int .i64 exS.font.other, R q2 eK exS.font.ks, R q3 eZ exC.signs, .int .i64 exS.scr.w, .int .i64 exS.scr.h, R q4 eQ exS.scr.bl]] hh = some (.ret (.int .i64 450), hh) := by
 have := S10 { exS with signs := exC.signs } ⟨exS_sm.1, exC_sm.2.1, exS_sm.2.2⟩ q1 q2 q3 q4 hh
 rw [ex_2] at this; exact this
theorem zk3 (q1 q2 q3 q4 : Fl) (hh : Heap) : Ci cfg (.func (.func 10) [] []) [.agg [.int .i64 exC.no, .int .i64 exC.lang, .int .i64 exC.lines, .int .i64 1, .int .i64 exC.cells, .int .i64 exC.speed, .bool exC.right, R q1 eG exC.font.gs, .int .i64 exC.font.other, R q2 eK exC.font.ks, R q3 eZ exC.signs, .int .i64 exC.scr.w, .int .i64 exC.scr.h, R q4 eQ exC.scr.bl]] hh = some (.ret (.int .i64 450), hh) := by
 have := S10 { exC with room := 1 } exC_sm q1 q2 q3 q4 hh
 rw [ex_3] at this; exact this
theorem zk4 (q1 q2 q3 q4 : Fl) (hh : Heap) : Ci cfg (.func (.func 10) [] []) [.agg [.int .i64 exS.no, .int .i64 exS.lang, .int .i64 9, .int .i64 exS.room, .int .i64 exS.cells, .int .i64 exS.speed, .bool exS.right, R q1 eG exS.font.gs, .int .i64 exS.font.other, R q2 eK exS.font.ks, R q3 eZ exS.signs, .int .i64 exS.scr.w, .int .i64 exS.scr.h, R q4 eQ exS.scr.bl]] hh = some (.ret (.int .i64 450), hh) := by
 have := S10 { exS with lines := 9 } exS_sm q1 q2 q3 q4 hh
 rw [ex_4] at this; exact this
theorem zk5 (q1 q2 q3 q4 : Fl) (hh : Heap) : Ci cfg (.func (.func 10) [] []) [.agg [.int .i64 exS.no, .int .i64 exS.lang, .int .i64 exS.lines, .int .i64 exS.room, .int .i64 exS.cells, .int .i64 exS.speed, .bool exS.right, R q1 eG exS.font.gs, .int .i64 exS.font.other, R q2 eK exS.font.ks, R q3 eZ exS.signs, .int .i64 exS.scr.w, .int .i64 exS.scr.h, R q4 eQ exS.scr.bl]] hh = some (.ret (.int .i64 0), hh) := by
 have := S10 exS exS_sm q1 q2 q3 q4 hh
 rw [ex_5] at this; exact this
theorem zk6 (q1 q2 q3 q4 : Fl) (hh : Heap) : Ci cfg (.func (.func 10) [] []) [.agg [.int .i64 exC.no, .int .i64 exC.lang, .int .i64 exC.lines, .int .i64 exC.room, .int .i64 exC.cells, .int .i64 exC.speed, .bool exC.right, R q1 eG exC.font.gs, .int .i64 exC.font.other, R q2 eK exC.font.ks, R q3 eZ exC.signs, .int .i64 exC.scr.w, .int .i64 exC.scr.h, R q4 eQ exC.scr.bl]] hh = some (.ret (.int .i64 0), hh) := by
 have := S10 exC exC_sm q1 q2 q3 q4 hh
 rw [ex_6] at this; exact this
theorem zk1 (a1 a2 a3 a4 b1 b2 b3 b4 : Bool) (c1 c2 c3 c4 : Option Nat) (hh : Heap) : Ci cfg (.func (.func 10) [] []) [.agg [.int .i64 0, .int .i64 0, .int .i64 0, .int .i64 0, .int .i64 0, .int .i64 0, .bool false, .row a1 b1 [] 0 c1, .int .i64 0, .row a2 b2 [] 0 c2, .row a3 b3 [] 0 c3, .int .i64 0, .int .i64 0, .row a4 b4 [] 0 c4]] hh = some (.ret (.int .i64 450), hh) := by
 have := S10 ⟨0, 0, 0, 0, 0, 0, false, ⟨[], 0, []⟩, [], ⟨0, 0, []⟩⟩ ⟨⟨by decide, by decide⟩, ⟨by decide, fun x hx => by cases hx⟩, by decide⟩ (a1, b1, c1) (a2, b2, c2) (a3, b3, c3) (a4, b4, c4) hh
 rw [ex_1] at this; exact this
theorem C8  : Kc cfg 8 [] (.ret (.bool true)) := by
 refine outS_of_wp cfg (fn := Tryz.f8) Tryz.func8 rfl (by simp [Tryz.f8]) ?_
 simp (disch := first | assumption | omega | (simp; done) | (simp; omega)) [-getElem?_pos, gZ, gS, Tryz.f8, emptyH, cellsV]
 repeat' (first | ((first | refine wpc_split _ ?_ ?_ | refine ww_split _ ?_ ?_) <;> intro hc <;> try simp at hc) | (refine wp_drawF (by kernel_rfl) ?_) | refine wk_yldW _ ?_ | refine layOwe _ (by kernel_rfl) ?_ | refine owe ?_ (fun ho => ?_) | (simp (config := { maxSteps := 2000000 }) (disch := first | assumption | omega | (simp; done) | (simp; omega)) [emptyH, cellsV, zw1, zn1, zs1, zw2, zn2, zs2, zw3, zn3, zw4, zw5, zk1, zk2, zk3, zk4, zk5, zk6, -getElem?_pos, gZ, gS]))
 repeat' (first | (refine wp_unroll rfl ?_) | ((first | refine wpc_split _ ?_ ?_ | refine ww_split _ ?_ ?_) <;> intro hc <;> try simp at hc) | (refine wp_drawF (by kernel_rfl) ?_) | refine wk_yldW _ ?_ | refine layOwe _ (by kernel_rfl) ?_ | refine owe ?_ (fun ho => ?_) | (simp (disch := first | assumption | omega | (simp; done) | (simp; omega)) [emptyH, cellsV, zw1, zn1, zs1, zw2, zn2, zs2, zw3, zn3, zw4, zw5, zk1, zk2, zk3, zk4, zk5, zk6, -getElem?_pos, gZ, gS]))
@[simp] theorem S8  (hh : Heap) : Ci cfg (.func (.func 8) [] []) [] hh = some (.ret (.bool true), hh) :=
 Ci_K cfg rfl rfl (by simp) (by simp) (C8 )
end Go.Ab
