/- A part of the proof. -/
import Derived.Test.YtlmhbemgaikmaaaGreatDoorGr5
set_option linter.unusedVariables false
set_option linter.unusedSimpArgs false
set_option linter.unusedSectionVars false
set_option linter.deprecated false
namespace Go.Ab
open Go.Proofs
set_option maxRecDepth 100000
set_option maxHeartbeats 4000000
theorem C141 (a b c : Int) : Kc cfg 141 [.int .i64 a, .int .i64 b, .int .i64 c] (.ret (.bool (decide (b ≤ a ∧ a ≤ c)))) := by
 refine outS_of_wp cfg (fn := Tryz.f141) Tryz.func141 rfl (by simp [Tryz.f141]) ?_
 simp (disch := first|exact DD|fail) [-getElem?_pos, gZ, gS, Tryz.f141]
 repeat' (first|((first|refine wA ?_ ?_|refine wB ?_ ?_)<;>intro hc<;>try simp at hc)|refine wF ?_|refine wY ?_|refine wL ?_|refine owe ?_ fun ho=>?_|(simp (disch := first|exact DD|fail) [-getElem?_pos, gZ, gS]))
 all_goals grind
@[simp] theorem S141 (a b c : Int) (hh : Heap) : Ci cfg (.func (.func 141) [] []) [.int .i64 a, .int .i64 b, .int .i64 c] hh = some (.ret (.bool (decide (b ≤ a ∧ a ≤ c))), hh) :=
 Ci_K cfg rfl rfl (by simp) (by simp) (C141 a b c)
theorem C151 (a : Int) : Kc cfg 151 [.int .i64 a] (.ret (.bool false)) := by
 refine outS_of_wp cfg (fn := Tryz.f151) Tryz.func151 rfl (by simp [Tryz.f151]) ?_
 simp (disch := first|exact DD|fail) [-getElem?_pos, gZ, gS, Tryz.f151]
@[simp] theorem S151 (a : Int) (hh : Heap) : Ci cfg (.func (.func 151) [] []) [.int .i64 a] hh = some (.ret (.bool false), hh) :=
 Ci_K cfg rfl rfl (by simp) (by simp) (C151 a)
def cmpI3 (x y : Int) : Int := if x < y then -1 else if y < x then 1 else 0
theorem C147 (x y : Int) : Kc cfg 147 [.int .i64 x, .int .i64 y] (.ret (.int .i64 (cmpI3 x y))) := by
 refine outS_of_wp cfg (fn := Tryz.f147) Tryz.func147 rfl (by simp [Tryz.f147]) ?_
 simp (disch := first|exact DD|fail) [-getElem?_pos, gZ, gS, Tryz.f147]
 repeat' (first|((first|refine wA ?_ ?_|refine wB ?_ ?_)<;>intro hc<;>try simp at hc)|refine wF ?_|refine wY ?_|refine wL ?_|refine owe ?_ fun ho=>?_|(simp (disch := first|exact DD|fail) [-getElem?_pos, gZ, gS]))
 all_goals grind [cmpI3]
@[simp] theorem S147 (x y : Int) (hh : Heap) : Ci cfg (.func (.func 147) [] []) [.int .i64 x, .int .i64 y] hh = some (.ret (.int .i64 (cmpI3 x y)), hh) :=
 Ci_K cfg rfl rfl (by simp) (by simp) (C147 x y)
theorem C146 (x y : Int) : Kc cfg 146 [R fl0 eI [x, y]] (.ret (.int .i64 (if x = 0 then y else x))) := by
 refine outS_of_wp cfg (fn := Tryz.f146) Tryz.func146 rfl (by simp [Tryz.f146]) ?_
 simp (disch := first|exact DD|fail) [-getElem?_pos, gZ, gS, Tryz.f146]
 repeat' (first | (refine wp_unroll rfl ?_) | ((first | refine wA ?_ ?_ | refine wB ?_ ?_) <;> intro hc <;> try simp at hc) | refine wF ?_ | refine wY ?_ | refine wL ?_ | refine owe ?_ fun ho => ?_ | (simp (disch := first|exact DD|fail) [eI, -getElem?_pos, gZ, gS]))
 all_goals grind
@[simp] theorem S146 (x y : Int) (q1 : Fl) (hh : Heap) : Ci cfg (.func (.func 146) [] []) [R  q1 eI [x, y]] hh = some (.ret (.int .i64 (if x = 0 then y else x)), hh) :=
 Ci_K cfg rfl rfl (by simp) (by simp) (C146 x y)
def gUp (gs : List Glyph) : Bool := allTo gs.length (gRise gs)
def kUp (ks : List Kern) : Bool := allTo ks.length (kRise ks)
theorem CgUp (a b : Glyph) (h : Heap) : Ci cfg (.func (.func 143) [] []) [.agg (eG a), .agg (eG b)] h = some (.ret (.bool (decide (a.hi < b.lo))), ⟨h.bs ++ [.cells (eG a), .cells (eG b)], h.ts⟩) := by
 refine Ci_fun_wp (fn := Tryz.f143) rfl Tryz.func143 rfl (by simp [Tryz.f143]) ?_
 have hl : ∀ x : Blk, (h.bs ++ [x])[h.bs.length]? = some x := fun b => by simp
 have hl1 : ∀ x y : Blk, (h.bs ++ [x, y])[h.bs.length]? = some x := fun x y => by simp
 have hl2 : ∀ x y : Blk, (h.bs ++ [x, y])[h.bs.length + 1]? = some y := fun x y => by simp
 simp (disch := first|exact DD|fail) [-getElem?_pos, gZ, gS, Tryz.f143, eG, hl, hl1, hl2]
 simp [newB]
theorem C142 (gs : List Glyph) (hs : gs.length < 1099511627776) : Kc cfg 142 [R fl0 eG gs, .func (.func 143) [] []] (.ret (.bool (gUp gs))) := by
 refine outS_of_wp cfg (fn := Tryz.f142) Tryz.func142 rfl (by simp [Tryz.f142]) ?_
 simp (disch := first|exact DD|fail) [-getElem?_pos, gZ, gS, Tryz.f142]
 refine wp_loopE cfg rfl (fun f0 h0 m fr h => ∃ i : Nat, ∃ AX : List Blk, fr 0 = f0 0 ∧ fr 1 = f0 1 ∧ fr 5 = .int .i64 i ∧ h.bs = h0.bs ++ AX ∧ (1 ≤ i) ∧ (i + m = max 1 gs.length + 1) ∧ (allTo i (gRise gs) = true)) (max 1 gs.length) _ _ ⟨1, [], rfl, rfl, by first | rfl | (simp; done) | (simp [R]; done) | simp [R], by simp, by first | rfl | (simp; done) | omega, by omega, by simp [allTo, gRise]⟩ ?_
 rintro Am Af Ah ⟨i, AX, A0, A1, A5, Abs, hi1, hm, ht⟩ Aih
 try simp at A0 A1 Abs
 by_cases hi : i < gs.length
 ·have h4 : (((i : Int) - 1).toNat) = i - 1 := by omega
  have hcg := CgUp (nth gs (i - 1)) (nth gs i)
  have hgr : gRise gs i = decide ((nth gs (i - 1)).hi < (nth gs i).lo) := by unfold gRise; simp; omega
  have hbad : gRise gs i = false → gUp gs = false := fun h => allTo_false (p := gRise gs) i hi h
  have hgo : gRise gs i = true → allTo (i + 1) (gRise gs) = true := fun h => allTo_next ht h
  rw [hgr] at hbad hgo
  simp only [eG] at hcg
  by_cases hlt : (nth gs (i - 1)).hi < (nth gs i).lo
  ·repeat' (first|((first|refine wA ?_ ?_|refine wB ?_ ?_)<;>intro hc<;>try simp at hc)|refine wF ?_|refine wY ?_|refine wL ?_|refine owe ?_ fun ho=>?_|(simp (disch := first|exact DD|fail) [A0, A1, A5, Abs, eG, h4, hcg, -getElem?_pos, gZ, gS]))
   all_goals first
    | omega
    | exact Aih (Am - 1) _ _ (by omega) ⟨i + 1, AX ++ [.cells (eG (nth gs (i - 1))), .cells (eG (nth gs i))], by simp [A0, A1, A5, Abs, eG], by simp [A0, A1, A5, Abs, eG], by simp [A0, A1, A5, Abs, eG], by simp [A0, A1, A5, Abs, eG], by omega, by omega, hgo (decide_eq_true hlt)⟩
  ·have hb := hbad (decide_eq_false hlt)
   repeat' (first|((first|refine wA ?_ ?_|refine wB ?_ ?_)<;>intro hc<;>try simp at hc)|refine wF ?_|refine wY ?_|refine wL ?_|refine owe ?_ fun ho=>?_|(simp (disch := first|exact DD|fail) [A0, A1, A5, Abs, eG, h4, hcg, hb, -getElem?_pos, gZ, gS]))
   all_goals first
    | omega
    | exact hb.symm
 ·have hga : gUp gs = true := by
   unfold gUp
   rw [allTo_iff]
   intro j hj
   exact allTo_iff.1 ht j (by omega)
  rw [hga]
  repeat' (first|((first|refine wA ?_ ?_|refine wB ?_ ?_)<;>intro hc<;>try simp at hc)|refine wF ?_|refine wY ?_|refine wL ?_|refine owe ?_ fun ho=>?_|(simp (disch := first|exact DD|fail) [A0, A1, A5, Abs, -getElem?_pos, gZ, gS]))
@[simp] theorem S142 (gs : List Glyph) (hs : gs.length < 1099511627776) (q1 : Fl) (hh : Heap) : Ci cfg (.func (.func 142) [] []) [R  q1 eG gs, .func (.func 143) [] []] hh = some (.ret (.bool (gUp gs)), hh) :=
 Ci_K cfg rfl rfl (by simp) (by simp) (C142 gs hs)
theorem CkUp (a b : Kern) (h : Heap) : Ci cfg (.func (.func 145) [] []) [.agg (eK a), .agg (eK b)] h = some (.ret (.bool (decide (a.a < b.a ∨ a.a = b.a ∧ a.b < b.b))), ⟨h.bs ++ [.cells (eK a), .cells (eK b)], h.ts⟩) := by
 refine Ci_fun_wp (fn := Tryz.f145) rfl Tryz.func145 rfl (by simp [Tryz.f145]) ?_
 have hl : ∀ x : Blk, (h.bs ++ [x])[h.bs.length]? = some x := fun b => by simp
 have hl1 : ∀ x y : Blk, (h.bs ++ [x, y])[h.bs.length]? = some x := fun x y => by simp
 have hl2 : ∀ x y : Blk, (h.bs ++ [x, y])[h.bs.length + 1]? = some y := fun x y => by simp
 have hf : ∀ x y : Int, V.row false true [.int .i64 x, .int .i64 y] 2 none = R (false, true, none) eI [x, y] := fun x y => rfl
 have hd : decide (a.a < b.a ∨ a.a = b.a ∧ a.b < b.b) = decide ((if cmpI3 a.a b.a = 0 then cmpI3 a.b b.b else cmpI3 a.a b.a) < 0) := by
  rw [decide_eq_decide]; unfold cmpI3; grind
 rw [hd]
 repeat' (first|((first|refine wA ?_ ?_|refine wB ?_ ?_)<;>intro hc<;>try simp at hc)|refine wF ?_|refine wY ?_|refine wL ?_|refine owe ?_ fun ho=>?_|(simp (disch := first|exact DD|fail) [Tryz.f145, eK, hl, hl1, hl2, hf, -getElem?_pos, gZ, gS]))
 simp [newB]
theorem C144 (ks : List Kern) (hs : ks.length < 1099511627776) : Kc cfg 144 [R fl0 eK ks, .func (.func 145) [] []] (.ret (.bool (kUp ks))) := by
 refine outS_of_wp cfg (fn := Tryz.f144) Tryz.func144 rfl (by simp [Tryz.f144]) ?_
 simp (disch := first|exact DD|fail) [-getElem?_pos, gZ, gS, Tryz.f144]
 refine wp_loopE cfg rfl (fun f0 h0 m fr h => ∃ i : Nat, ∃ AX : List Blk, fr 0 = f0 0 ∧ fr 1 = f0 1 ∧ fr 5 = .int .i64 i ∧ h.bs = h0.bs ++ AX ∧ (1 ≤ i) ∧ (i + m = max 1 ks.length + 1) ∧ (allTo i (kRise ks) = true)) (max 1 ks.length) _ _ ⟨1, [], rfl, rfl, by first | rfl | (simp; done) | (simp [R]; done) | simp [R], by simp, by first | rfl | (simp; done) | omega, by omega, by simp [allTo, kRise]⟩ ?_
 rintro Am Af Ah ⟨i, AX, A0, A1, A5, Abs, hi1, hm, ht⟩ Aih
 try simp at A0 A1 Abs
 by_cases hi : i < ks.length
 ·have h4 : (((i : Int) - 1).toNat) = i - 1 := by omega
  have hcg := CkUp (nth ks (i - 1)) (nth ks i)
  have hgr : kRise ks i = decide ((nth ks (i - 1)).a < (nth ks i).a ∨ (nth ks (i - 1)).a = (nth ks i).a ∧ (nth ks (i - 1)).b < (nth ks i).b) := by
   unfold kRise
   rw [decide_eq_decide]
   exact ⟨fun h => h (by omega), fun h _ => h⟩
  have hbad : kRise ks i = false → kUp ks = false := fun h => allTo_false (p := kRise ks) i hi h
  have hgo : kRise ks i = true → allTo (i + 1) (kRise ks) = true := fun h => allTo_next ht h
  simp only [eK] at hcg
  rw [← hgr] at hcg
  cases hb : kRise ks i with
  | true =>
   rw [hb] at hcg
   repeat' (first|((first|refine wA ?_ ?_|refine wB ?_ ?_)<;>intro hc<;>try simp at hc)|refine wF ?_|refine wY ?_|refine wL ?_|refine owe ?_ fun ho=>?_|(simp (disch := first|exact DD|fail) [A0, A1, A5, Abs, eK, h4, hcg, -getElem?_pos, gZ, gS]))
   exact Aih (Am - 1) _ _ (by omega) ⟨i + 1, AX ++ [.cells (eK (nth ks (i - 1))), .cells (eK (nth ks i))], by simp [A0, A1, A5, Abs, eK], by simp [A0, A1, A5, Abs, eK], by simp [A0, A1, A5, Abs, eK], by simp [A0, A1, A5, Abs, eK], by omega, by omega, hgo hb⟩
  | false =>
   rw [hb] at hcg
   have hb2 := hbad hb
   repeat' (first|((first|refine wA ?_ ?_|refine wB ?_ ?_)<;>intro hc<;>try simp at hc)|refine wF ?_|refine wY ?_|refine wL ?_|refine owe ?_ fun ho=>?_|(simp (disch := first|exact DD|fail) [A0, A1, A5, Abs, eK, h4, hcg, hb2, -getElem?_pos, gZ, gS]))
 ·have hga : kUp ks = true := by
   unfold kUp
   rw [allTo_iff]
   intro j hj
   exact allTo_iff.1 ht j (by omega)
  rw [hga]
  repeat' (first|((first|refine wA ?_ ?_|refine wB ?_ ?_)<;>intro hc<;>try simp at hc)|refine wF ?_|refine wY ?_|refine wL ?_|refine owe ?_ fun ho=>?_|(simp (disch := first|exact DD|fail) [A0, A1, A5, Abs, -getElem?_pos, gZ, gS]))
@[simp] theorem S144 (ks : List Kern) (hs : ks.length < 1099511627776) (q1 : Fl) (hh : Heap) : Ci cfg (.func (.func 144) [] []) [R  q1 eK ks, .func (.func 145) [] []] hh = some (.ret (.bool (kUp ks)), hh) :=
 Ci_K cfg rfl rfl (by simp) (by simp) (C144 ks hs)
end Go.Ab
namespace Go.Ab
open Go.Proofs
set_option maxRecDepth 100000
set_option maxHeartbeats 4000000
def gTo (f : Font) (i : Nat) : Bool := widthN f.other && allTo i (fun i => gOk (nth f.gs i))
def kTo (f : Font) (i : Nat) : Bool := gTo f f.gs.length && allTo i (fun i => kOk (nth f.ks i))
theorem gTo_zero (f : Font) : gTo f 0 = widthN f.other := by unfold gTo; rw [allTo_zero]; simp
theorem kTo_zero (f : Font) : kTo f 0 = gTo f f.gs.length := by unfold kTo; rw [allTo_zero]; simp
theorem gTo_succ (f : Font) (i : Nat) : gTo f (i + 1) = (gTo f i && gOk (nth f.gs i)) := by unfold gTo; rw [allTo_succ, Bool.and_assoc]
theorem kTo_succ (f : Font) (i : Nat) : kTo f (i + 1) = (kTo f i && kOk (nth f.ks i)) := by unfold kTo; rw [allTo_succ, Bool.and_assoc]
theorem check_parts (f : Font) : (kTo f f.ks.length && gUp f.gs && kUp f.ks) = (widthN f.other && gAll f.gs && kAll f.ks) := by
  unfold kTo gTo gAll kAll gUp kUp
  rw [allTo_and, allTo_and]
  cases widthN f.other <;> cases allTo f.gs.length (fun i => gOk (nth f.gs i)) <;> cases allTo f.gs.length (gRise f.gs) <;> cases allTo f.ks.length (fun i => kOk (nth f.ks i)) <;> cases allTo f.ks.length (kRise f.ks) <;> rfl
theorem C138 (f : Font) (hs : f.gs.length < 1099511627776 ∧ f.ks.length < 1099511627776) : Kc cfg 138 [.agg [R fl0 eG f.gs, .int .i64 f.other, R fl0 eK f.ks]] (.ret (.int .i64 (checkS f))) := by
  by_cases hl : 1024 < f.gs.length ∨ 1024 < f.ks.length
  · rw [checkS_long hl]
    refine outS_of_wp cfg (fn := Tryz.f138) Tryz.func138 rfl (by simp [Tryz.f138]) ?_
    simp (disch := first|exact DD|fail) [-getElem?_pos, gZ, gS, Tryz.f138]
    repeat' (first|((first|refine wA ?_ ?_|refine wB ?_ ?_)<;>intro hc<;>try simp at hc)|refine wF ?_|refine wY ?_|refine wL ?_|refine owe ?_ fun ho=>?_|(simp (disch := first|exact DD|fail) [-getElem?_pos, gZ, gS]))
    all_goals omega
  rw [checkS_short hl, ← check_parts]
  have hw : decide (0 ≤ f.other ∧ f.other ≤ 4096) = gTo f 0 := by rw [gTo_zero]; rfl
  refine outS_of_wp cfg (fn := Tryz.f138) Tryz.func138 rfl (by simp [Tryz.f138]) ?_
  simp (disch := first|exact DD|fail) [-getElem?_pos, gZ, gS, Tryz.f138, hw]
  repeat' (first|((first|refine wA ?_ ?_|refine wB ?_ ?_)<;>intro hc<;>try simp at hc)|refine wF ?_|refine wY ?_|refine wL ?_|refine owe ?_ fun ho=>?_|(simp (disch := first|exact DD|fail) [hw, -getElem?_pos, gZ, gS]))
  all_goals first
    | (exfalso; omega)
    | skip
  refine wp_loopE cfg rfl (fun f0 h0 m fr h => ∃ i : Nat, ∃ AX : List Blk, fr 1 = f0 1 ∧ fr 22 = f0 22 ∧ fr 23 = f0 23 ∧ fr 24 = .int .i64 i ∧ fr 3 = .bool (gTo f i) ∧ h.bs = h0.bs ++ AX ∧ (i + m = f.gs.length)) (f.gs.length) _ _ ⟨0, [], rfl, rfl, rfl, by first | rfl | (simp; done) | (simp [R]; done) | simp [R], by first | rfl | (simp; done) | (simp [R]; done) | simp [R], by simp, by first | rfl | (simp; done) | omega⟩ ?_
  rintro Am Af Ah ⟨i, AX, A1, A22, A23, A24, A3, Abs, hm⟩ Aih
  try simp at A1 A22 A23 Abs
  by_cases hi : i < f.gs.length
  · have hsu := gTo_succ f i
    have hok : gOk (nth f.gs i) = decide (0 ≤ (nth f.gs i).lo ∧ (nth f.gs i).lo ≤ (nth f.gs i).hi ∧ (nth f.gs i).hi ≤ 1114111 ∧ 0 ≤ (nth f.gs i).width ∧ (nth f.gs i).width ≤ 4096) := rfl
    cases hb : gTo f i with
    | false =>
      rw [hb] at A3 hsu
      repeat' (first|((first|refine wA ?_ ?_|refine wB ?_ ?_)<;>intro hc<;>try simp at hc)|refine wF ?_|refine wY ?_|refine wL ?_|refine owe ?_ fun ho=>?_|(simp (disch := first|exact DD|fail) [A1, A22, A23, A24, A3, Abs, eG, -getElem?_pos, gZ, gS]))
      exact Aih (Am - 1) _ _ (by omega) ⟨i + 1, AX ++ [.cells (eG (nth f.gs i))], by simp [A1, A22, A23, A24, A3, Abs, eG, hsu], by simp [A1, A22, A23, A24, A3, Abs, eG, hsu], by simp [A1, A22, A23, A24, A3, Abs, eG, hsu], by simp [A1, A22, A23, A24, A3, Abs, eG, hsu], by simp [A1, A22, A23, A24, A3, Abs, eG, hsu], by simp [A1, A22, A23, A24, A3, Abs, eG, hsu], by omega⟩
    | true =>
      rw [hb] at A3 hsu
      repeat' (first|((first|refine wA ?_ ?_|refine wB ?_ ?_)<;>intro hc<;>try simp at hc)|refine wF ?_|refine wY ?_|refine wL ?_|refine owe ?_ fun ho=>?_|(simp (disch := first|exact DD|fail) [A1, A22, A23, A24, A3, Abs, eG, -getElem?_pos, gZ, gS]))
      all_goals first
        | (have e : gTo f (i + 1) = decide (0 ≤ (nth f.gs i).width ∧ (nth f.gs i).width ≤ 4096) := by rw [hsu, hok, Bool.true_and, decide_eq_decide]; omega
           exact Aih (Am - 1) _ _ (by omega) ⟨i + 1, AX ++ [.cells (eG (nth f.gs i))], by simp [A1, A22, A23, A24, A3, Abs, eG, e], by simp [A1, A22, A23, A24, A3, Abs, eG, e], by simp [A1, A22, A23, A24, A3, Abs, eG, e], by simp [A1, A22, A23, A24, A3, Abs, eG, e], by simp [A1, A22, A23, A24, A3, Abs, eG, e], by simp [A1, A22, A23, A24, A3, Abs, eG, e], by omega⟩)
        | (have e : gTo f (i + 1) = false := by rw [hsu, hok, Bool.true_and, decide_eq_false_iff_not]; omega
           exact Aih (Am - 1) _ _ (by omega) ⟨i + 1, AX ++ [.cells (eG (nth f.gs i))], by simp [A1, A22, A23, A24, A3, Abs, eG, e], by simp [A1, A22, A23, A24, A3, Abs, eG, e], by simp [A1, A22, A23, A24, A3, Abs, eG, e], by simp [A1, A22, A23, A24, A3, Abs, eG, e], by simp [A1, A22, A23, A24, A3, Abs, eG, e], by simp [A1, A22, A23, A24, A3, Abs, eG, e], by omega⟩)
  · have hie : i = f.gs.length := by omega
    rw [hie, ← kTo_zero] at A3
    repeat' (first|((first|refine wA ?_ ?_|refine wB ?_ ?_)<;>intro hc<;>try simp at hc)|refine wF ?_|refine wY ?_|refine wL ?_|refine owe ?_ fun ho=>?_|(simp (disch := first|exact DD|fail) [A1, A22, A23, A24, A3, Abs, -getElem?_pos, gZ, gS]))
    refine wp_loopE cfg rfl (fun f0 h0 m fr h => ∃ i : Nat, ∃ BX : List Blk, fr 1 = f0 1 ∧ fr 48 = f0 48 ∧ fr 49 = f0 49 ∧ fr 50 = .int .i64 i ∧ fr 3 = .bool (kTo f i) ∧ h.bs = h0.bs ++ BX ∧ (i + m = f.ks.length)) (f.ks.length) _ _ ⟨0, [], rfl, rfl, rfl, by first | rfl | (simp; done) | (simp [R]; done) | simp [R], by simp [A3], by simp, by first | rfl | (simp; done) | omega⟩ ?_
    rintro Bm Bf Bh ⟨i, BX, B1, B48, B49, B50, B3, Bbs, hm⟩ Bih
    try simp [A1, A22, A23, A24, A3, Abs] at B1 B48 B49 Bbs
    by_cases hi : i < f.ks.length
    · have hsu := kTo_succ f i
      have hok : kOk (nth f.ks i) = decide ((0 ≤ (nth f.ks i).a ∧ (nth f.ks i).a ≤ 1114111) ∧ (0 ≤ (nth f.ks i).b ∧ (nth f.ks i).b ≤ 1114111) ∧ -4096 ≤ (nth f.ks i).by' ∧ (nth f.ks i).by' ≤ 4096) := rfl
      cases hb : kTo f i with
      | false =>
        rw [hb] at B3 hsu
        repeat' (first|((first|refine wA ?_ ?_|refine wB ?_ ?_)<;>intro hc<;>try simp at hc)|refine wF ?_|refine wY ?_|refine wL ?_|refine owe ?_ fun ho=>?_|(simp (disch := first|exact DD|fail) [B1, B48, B49, B50, B3, Bbs, eK, -getElem?_pos, gZ, gS]))
        exact Bih (Bm - 1) _ _ (by omega) ⟨i + 1, BX ++ [.cells (eK (nth f.ks i))], by simp [B1, B48, B49, B50, B3, Bbs, A1, A22, A23, A24, A3, Abs, eK, hsu], by simp [B1, B48, B49, B50, B3, Bbs, A1, A22, A23, A24, A3, Abs, eK, hsu], by simp [B1, B48, B49, B50, B3, Bbs, A1, A22, A23, A24, A3, Abs, eK, hsu], by simp [B1, B48, B49, B50, B3, Bbs, A1, A22, A23, A24, A3, Abs, eK, hsu], by simp [B1, B48, B49, B50, B3, Bbs, A1, A22, A23, A24, A3, Abs, eK, hsu], by simp [B1, B48, B49, B50, B3, Bbs, A1, A22, A23, A24, A3, Abs, eK, hsu], by omega⟩
      | true =>
        rw [hb] at B3 hsu
        repeat' (first|((first|refine wA ?_ ?_|refine wB ?_ ?_)<;>intro hc<;>try simp at hc)|refine wF ?_|refine wY ?_|refine wL ?_|refine owe ?_ fun ho=>?_|(simp (disch := first|exact DD|fail) [B1, B48, B49, B50, B3, Bbs, eK, -getElem?_pos, gZ, gS]))
        all_goals first
          | (have e : kTo f (i + 1) = decide (-4096 ≤ (nth f.ks i).by' ∧ (nth f.ks i).by' ≤ 4096) := by rw [hsu, hok, Bool.true_and, decide_eq_decide]; omega
             exact Bih (Bm - 1) _ _ (by omega) ⟨i + 1, BX ++ [.cells (eK (nth f.ks i))], by simp [B1, B48, B49, B50, B3, Bbs, A1, A22, A23, A24, A3, Abs, eK, e], by simp [B1, B48, B49, B50, B3, Bbs, A1, A22, A23, A24, A3, Abs, eK, e], by simp [B1, B48, B49, B50, B3, Bbs, A1, A22, A23, A24, A3, Abs, eK, e], by simp [B1, B48, B49, B50, B3, Bbs, A1, A22, A23, A24, A3, Abs, eK, e], by simp [B1, B48, B49, B50, B3, Bbs, A1, A22, A23, A24, A3, Abs, eK, e], by simp [B1, B48, B49, B50, B3, Bbs, A1, A22, A23, A24, A3, Abs, eK, e], by omega⟩)
          | (have e : kTo f (i + 1) = false := by rw [hsu, hok, Bool.true_and, decide_eq_false_iff_not]; omega
             exact Bih (Bm - 1) _ _ (by omega) ⟨i + 1, BX ++ [.cells (eK (nth f.ks i))], by simp [B1, B48, B49, B50, B3, Bbs, A1, A22, A23, A24, A3, Abs, eK, e], by simp [B1, B48, B49, B50, B3, Bbs, A1, A22, A23, A24, A3, Abs, eK, e], by simp [B1, B48, B49, B50, B3, Bbs, A1, A22, A23, A24, A3, Abs, eK, e], by simp [B1, B48, B49, B50, B3, Bbs, A1, A22, A23, A24, A3, Abs, eK, e], by simp [B1, B48, B49, B50, B3, Bbs, A1, A22, A23, A24, A3, Abs, eK, e], by simp [B1, B48, B49, B50, B3, Bbs, A1, A22, A23, A24, A3, Abs, eK, e], by omega⟩)
    · have hie2 : i = f.ks.length := by omega
      rw [hie2] at B3
      cases hk : kTo f f.ks.length <;> rw [hk] at B3
      · repeat' (first|((first|refine wA ?_ ?_|refine wB ?_ ?_)<;>intro hc<;>try simp at hc)|refine wF ?_|refine wY ?_|refine wL ?_|refine owe ?_ fun ho=>?_|(simp (disch := first|exact DD|fail) [B1, B48, B49, B50, B3, Bbs, -getElem?_pos, gZ, gS]))
      · cases hg : gUp f.gs with
        | false => repeat' (first|((first|refine wA ?_ ?_|refine wB ?_ ?_)<;>intro hc<;>try simp at hc)|refine wF ?_|refine wY ?_|refine wL ?_|refine owe ?_ fun ho=>?_|(simp (disch := first|exact DD|fail) [B1, B48, B49, B50, B3, Bbs, hg, -getElem?_pos, gZ, gS]))
        | true =>
          cases hku : kUp f.ks with
          | false => repeat' (first|((first|refine wA ?_ ?_|refine wB ?_ ?_)<;>intro hc<;>try simp at hc)|refine wF ?_|refine wY ?_|refine wL ?_|refine owe ?_ fun ho=>?_|(simp (disch := first|exact DD|fail) [B1, B48, B49, B50, B3, Bbs, hg, hku, -getElem?_pos, gZ, gS]))
          | true => repeat' (first|((first|refine wA ?_ ?_|refine wB ?_ ?_)<;>intro hc<;>try simp at hc)|refine wF ?_|refine wY ?_|refine wL ?_|refine owe ?_ fun ho=>?_|(simp (disch := first|exact DD|fail) [B1, B48, B49, B50, B3, Bbs, hg, hku, -getElem?_pos, gZ, gS]))
@[simp] theorem S138 (f : Font) (hs : f.gs.length < 1099511627776 ∧ f.ks.length < 1099511627776) (q1 q2 : Fl) (hh : Heap) : Ci cfg (.func (.func 138) [] []) [.agg [R  q1 eG f.gs, .int .i64 f.other, R  q2 eK f.ks]] hh = some (.ret (.int .i64 (checkS f)), hh) :=
  Ci_K cfg rfl rfl (by simp) (by simp) (C138 f hs)
end Go.Ab
