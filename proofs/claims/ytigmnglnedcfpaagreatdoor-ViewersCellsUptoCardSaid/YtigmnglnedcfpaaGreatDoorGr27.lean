/- A part of the proof. -/
import Derived.Test.YtigmnglnedcfpaaGreatDoorGr19
import Derived.Test.YtigmnglnedcfpaaGreatDoorGr8
import Derived.Test.YtigmnglnedcfpaaGreatDoorGr10
import Derived.Test.YtigmnglnedcfpaaGreatDoorJ2
set_option linter.unusedVariables false
set_option linter.unusedSimpArgs false
set_option linter.unusedSectionVars false
set_option linter.deprecated false
namespace Go.Ab
open Go.Proofs
set_option maxRecDepth 100000
set_option maxHeartbeats 4000000
theorem C36 (s : ScrZ) (hs : s.bl.length < 1099511627776) : Kc cfg 36 [.agg [.int .i64 s.w, .int .i64 s.h, R fl0 eQ s.bl]] (.ret (.int .i64 (scrE s))) := by
 have hmany := scrE_many (s := s)
 have hsize := scrE_size (s := s)
 have hbad := fun h i => scrE_bad (s := s) h (i := i)
 have hok := scrE_ok (s := s)
 generalize hF : scrE s = F at *
 by_cases h32 : 32 < s.bl.length
 ·rw [hmany h32]
  refine outS_of_wp cfg (fn := Tryz.f36) Tryz.func36 rfl (by simp [Tryz.f36]) ?_
  simp (disch := first | assumption | omega | (simp; done) | (simp; omega)) [-getElem?_pos, gZ, gS, Tryz.f36, h32]
  repeat' (first | ((first | refine wpc_split _ ?_ ?_ | refine ww_split _ ?_ ?_) <;> intro hc <;> try simp at hc) | (refine wp_drawF (by kernel_rfl) ?_) | refine wk_yldW _ ?_ | refine layOwe _ (by kernel_rfl) ?_ | refine owe ?_ (fun ho => ?_) | (simp (disch := first | assumption | omega | (simp; done) | (simp; omega)) [h32, -getElem?_pos, gZ, gS]))
  all_goals try (exfalso; omega)
 by_cases hp : pixB s.w = true ∧ pixB s.h = true
 ·obtain ⟨p1, p2⟩ := hp
  have p3 := p1
  have p4 := p2
  rw [pixB_t] at p3 p4
  refine outS_of_wp cfg (fn := Tryz.f36) Tryz.func36 rfl (by simp [Tryz.f36]) ?_
  simp (disch := first | assumption | omega | (simp; done) | (simp; omega)) [-getElem?_pos, gZ, gS, Tryz.f36, p1, p2]
  repeat' (first | ((first | refine wpc_split _ ?_ ?_ | refine ww_split _ ?_ ?_) <;> intro hc <;> try simp at hc) | (refine wp_drawF (by kernel_rfl) ?_) | refine wk_yldW _ ?_ | refine layOwe _ (by kernel_rfl) ?_ | refine owe ?_ (fun ho => ?_) | (simp (disch := first | assumption | omega | (simp; done) | (simp; omega)) [p1, p2, -getElem?_pos, gZ, gS]))
  all_goals try (exfalso; omega)
  refine wp_loopE cfg rfl (fun f0 h0 m fr h => ∃ i : Nat, fr 1 = f0 1 ∧ fr 3 = .int .i64 i ∧ h.bs = h0.bs ∧ (i + m = s.bl.length) ∧ (∀ j, j < i → liesB s.w s.h (nth s.bl j) = true)) (s.bl.length) _ _ ⟨0, rfl, by first | rfl | (simp; done) | (simp [R]; done) | simp [R], rfl, by first | rfl | (simp; done) | omega, fun j hj => by omega⟩ ?_
  rintro Am Af Ah ⟨i, A1, A3, Abs, hm, ht⟩ Aih
  try simp at A1 Abs
  by_cases hi : i < s.bl.length
  ·cases hl : liesB s.w s.h (nth s.bl i) with
   | false =>
    have h2 := hbad h32 i hi hl
    repeat' (first | ((first | refine wpc_split _ ?_ ?_ | refine ww_split _ ?_ ?_) <;> intro hc <;> try simp at hc) | (refine wp_drawF (by kernel_rfl) ?_) | refine wk_yldW _ ?_ | refine layOwe _ (by kernel_rfl) ?_ | refine owe ?_ (fun ho => ?_) | (simp (disch := first | assumption | omega | (simp; done) | (simp; omega)) [A1, A3, Abs, eQ, hl, p3, p4, -getElem?_pos, gZ, gS]))
    all_goals first | exact h2.symm | (exfalso; omega) | rw [h2]
   | true =>
    repeat' (first | ((first | refine wpc_split _ ?_ ?_ | refine ww_split _ ?_ ?_) <;> intro hc <;> try simp at hc) | (refine wp_drawF (by kernel_rfl) ?_) | refine wk_yldW _ ?_ | refine layOwe _ (by kernel_rfl) ?_ | refine owe ?_ (fun ho => ?_) | (simp (disch := first | assumption | omega | (simp; done) | (simp; omega)) [A1, A3, Abs, eQ, hl, p3, p4, -getElem?_pos, gZ, gS]))
    all_goals try (exfalso; omega)
    exact Aih (Am - 1) _ _ (by omega) ⟨i + 1, by simp [A1, A3, Abs], by simp [A1, A3, Abs], by simp [A1, A3, Abs], by omega, fun j hj => by (by_cases e : j = i; (subst e; exact hl); exact ht j (by omega))⟩
  ·obtain rfl : i = s.bl.length := by omega
   have h2 := hok h32 p1 p2 ht
   repeat' (first | ((first | refine wpc_split _ ?_ ?_ | refine ww_split _ ?_ ?_) <;> intro hc <;> try simp at hc) | (refine wp_drawF (by kernel_rfl) ?_) | refine wk_yldW _ ?_ | refine layOwe _ (by kernel_rfl) ?_ | refine owe ?_ (fun ho => ?_) | (simp (disch := first | assumption | omega | (simp; done) | (simp; omega)) [A1, A3, Abs, -getElem?_pos, gZ, gS]))
   all_goals first | exact h2.symm | (exfalso; omega) | rw [h2]
 ·have h2 := hsize h32 hp
  rw [h2]
  cases p1 : pixB s.w with
  | false =>
   refine outS_of_wp cfg (fn := Tryz.f36) Tryz.func36 rfl (by simp [Tryz.f36]) ?_
   simp (disch := first | assumption | omega | (simp; done) | (simp; omega)) [-getElem?_pos, gZ, gS, Tryz.f36, p1]
   repeat' (first | ((first | refine wpc_split _ ?_ ?_ | refine ww_split _ ?_ ?_) <;> intro hc <;> try simp at hc) | (refine wp_drawF (by kernel_rfl) ?_) | refine wk_yldW _ ?_ | refine layOwe _ (by kernel_rfl) ?_ | refine owe ?_ (fun ho => ?_) | (simp (disch := first | assumption | omega | (simp; done) | (simp; omega)) [p1, -getElem?_pos, gZ, gS]))
   all_goals try (exfalso; omega)
  | true =>
   have p2 : pixB s.h = false := by
    cases q : pixB s.h with
    | false => rfl
    | true => exact absurd ⟨p1, q⟩ hp
   refine outS_of_wp cfg (fn := Tryz.f36) Tryz.func36 rfl (by simp [Tryz.f36]) ?_
   simp (disch := first | assumption | omega | (simp; done) | (simp; omega)) [-getElem?_pos, gZ, gS, Tryz.f36, p1, p2]
   repeat' (first | ((first | refine wpc_split _ ?_ ?_ | refine ww_split _ ?_ ?_) <;> intro hc <;> try simp at hc) | (refine wp_drawF (by kernel_rfl) ?_) | refine wk_yldW _ ?_ | refine layOwe _ (by kernel_rfl) ?_ | refine owe ?_ (fun ho => ?_) | (simp (disch := first | assumption | omega | (simp; done) | (simp; omega)) [p1, p2, -getElem?_pos, gZ, gS]))
   all_goals try (exfalso; omega)
@[simp] theorem S36 (s : ScrZ) (hs : s.bl.length < 1099511627776) (q1 : Fl) (hh : Heap) : Ci cfg (.func (.func 36) [] []) [.agg [.int .i64 s.w, .int .i64 s.h, R  q1 eQ s.bl]] hh = some (.ret (.int .i64 (scrE s)), hh) :=
 Ci_K cfg rfl rfl (by simp) (by simp) (C36 s hs)
end Go.Ab
namespace Go.Ab
open Go.Proofs
set_option maxRecDepth 100000
set_option maxHeartbeats 4000000
theorem C35 (n lo hi : Int) : Kc cfg 35 [.int .i64 n, .int .i64 lo, .int .i64 hi] (.ret (.bool (inB n lo hi))) := by
 refine outS_of_wp cfg (fn := Tryz.f35) Tryz.func35 rfl (by simp [Tryz.f35]) ?_
 simp (disch := first | assumption | omega | (simp; done) | (simp; omega)) [-getElem?_pos, gZ, gS, Tryz.f35]
 repeat' (first | ((first | refine wpc_split _ ?_ ?_ | refine ww_split _ ?_ ?_) <;> intro hc <;> try simp at hc) | (refine wp_drawF (by kernel_rfl) ?_) | refine wk_yldW _ ?_ | refine layOwe _ (by kernel_rfl) ?_ | refine owe ?_ (fun ho => ?_) | (simp (disch := first | assumption | omega | (simp; done) | (simp; omega)) [-getElem?_pos, gZ, gS]))
 all_goals grind [inB]
@[simp] theorem S35 (n lo hi : Int) (hh : Heap) : Ci cfg (.func (.func 35) [] []) [.int .i64 n, .int .i64 lo, .int .i64 hi] hh = some (.ret (.bool (inB n lo hi)), hh) :=
 Ci_K cfg rfl rfl (by simp) (by simp) (C35 n lo hi)
theorem C18 (v : VwZ) (hs : smVw v) : Kc cfg 18 [.agg [.int .i64 v.no, .int .i64 v.lang, .int .i64 v.lines, .int .i64 v.room, .int .i64 v.cells, .int .i64 v.speed, .bool v.right, R fl0 eG v.font.gs, .int .i64 v.font.other, R fl0 eK v.font.ks, R fl0 eZ v.signs, .int .i64 v.scr.w, .int .i64 v.scr.h, R fl0 eQ v.scr.bl]] (.ret (.bool (vwR v))) := by
 obtain ⟨hs1, hs2, hs3⟩ := hs
 have kbase := baseB_t (v := v)
 have kno := vwR_base (v := v)
 by_cases hc0 : v.cells = 0
 ·have kright := vwR_s hc0
  generalize hF : vwR v = F at *
  generalize hB : baseB v = B at *
  clear hF hB
  refine outS_of_wp cfg (fn := Tryz.f18) Tryz.func18 rfl (by simp [Tryz.f18]) ?_
  simp (disch := first | assumption | omega | (simp; done) | (simp; omega)) [-getElem?_pos, gZ, gS, Tryz.f18, emptyH, hc0]
  repeat' (first | ((first | refine wpc_split _ ?_ ?_ | refine ww_split _ ?_ ?_) <;> intro hc <;> try simp at hc) | (refine wp_drawF (by kernel_rfl) ?_) | refine wk_yldW _ ?_ | refine layOwe _ (by kernel_rfl) ?_ | refine owe ?_ (fun ho => ?_) | (simp (disch := first | assumption | omega | (simp; done) | (simp; omega)) [emptyH, hc0, -getElem?_pos, gZ, gS]))
  all_goals (clear hs1 hs2 hs3; grind)
 ·have kright := vwR_c hc0
  generalize hF : vwR v = F at *
  generalize hB : baseB v = B at *
  clear hF hB
  refine outS_of_wp cfg (fn := Tryz.f18) Tryz.func18 rfl (by simp [Tryz.f18]) ?_
  simp (disch := first | assumption | omega | (simp; done) | (simp; omega)) [-getElem?_pos, gZ, gS, Tryz.f18, emptyH, hc0]
  repeat' (first | ((first | refine wpc_split _ ?_ ?_ | refine ww_split _ ?_ ?_) <;> intro hc <;> try simp at hc) | (refine wp_drawF (by kernel_rfl) ?_) | refine wk_yldW _ ?_ | refine layOwe _ (by kernel_rfl) ?_ | refine owe ?_ (fun ho => ?_) | (simp (disch := first | assumption | omega | (simp; done) | (simp; omega)) [emptyH, hc0, -getElem?_pos, gZ, gS]))
  all_goals (clear hs1 hs2 hs3; grind)
@[simp] theorem S18 (v : VwZ) (hs : smVw v) (q1 q2 q3 q4 : Fl) (hh : Heap) : Ci cfg (.func (.func 18) [] []) [.agg [.int .i64 v.no, .int .i64 v.lang, .int .i64 v.lines, .int .i64 v.room, .int .i64 v.cells, .int .i64 v.speed, .bool v.right, R  q1 eG v.font.gs, .int .i64 v.font.other, R  q2 eK v.font.ks, R  q3 eZ v.signs, .int .i64 v.scr.w, .int .i64 v.scr.h, R  q4 eQ v.scr.bl]] hh = some (.ret (.bool (vwR v)), hh) :=
 Ci_K cfg rfl rfl (by simp) (by simp) (C18 v hs)
theorem C11 (v : VwZ) (hs : smVw v) : Kc cfg 11 [.agg [.int .i64 v.no, .int .i64 v.lang, .int .i64 v.lines, .int .i64 v.room, .int .i64 v.cells, .int .i64 v.speed, .bool v.right, R fl0 eG v.font.gs, .int .i64 v.font.other, R fl0 eK v.font.ks, R fl0 eZ v.signs, .int .i64 v.scr.w, .int .i64 v.scr.h, R fl0 eQ v.scr.bl]] (.ret (.int .i64 (vwE v))) := by
 have kf : vwE v = if vwR v = true then 0 else 450 := rfl
 refine outS_of_wp cfg (fn := Tryz.f11) Tryz.func11 rfl (by simp [Tryz.f11]) ?_
 simp (disch := first | assumption | omega | (simp; done) | (simp; omega)) [-getElem?_pos, gZ, gS, Tryz.f11]
 repeat' (first | ((first | refine wpc_split _ ?_ ?_ | refine ww_split _ ?_ ?_) <;> intro hc <;> try simp at hc) | (refine wp_drawF (by kernel_rfl) ?_) | refine wk_yldW _ ?_ | refine layOwe _ (by kernel_rfl) ?_ | refine owe ?_ (fun ho => ?_) | (simp (disch := first | assumption | omega | (simp; done) | (simp; omega)) [-getElem?_pos, gZ, gS]))
 all_goals simp_all
@[simp] theorem S11 (v : VwZ) (hs : smVw v) (q1 q2 q3 q4 : Fl) (hh : Heap) : Ci cfg (.func (.func 11) [] []) [.agg [.int .i64 v.no, .int .i64 v.lang, .int .i64 v.lines, .int .i64 v.room, .int .i64 v.cells, .int .i64 v.speed, .bool v.right, R  q1 eG v.font.gs, .int .i64 v.font.other, R  q2 eK v.font.ks, R  q3 eZ v.signs, .int .i64 v.scr.w, .int .i64 v.scr.h, R  q4 eQ v.scr.bl]] hh = some (.ret (.int .i64 (vwE v)), hh) :=
 Ci_K cfg rfl rfl (by simp) (by simp) (C11 v hs)
end Go.Ab
