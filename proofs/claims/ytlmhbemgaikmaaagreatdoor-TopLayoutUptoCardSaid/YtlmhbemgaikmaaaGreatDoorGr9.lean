/- A part of the proof. -/
import Derived.Test.YtlmhbemgaikmaaaGreatDoorGr5
import Derived.Test.YtlmhbemgaikmaaaGreatDoorP46
import Derived.Test.YtlmhbemgaikmaaaGreatDoorGr6
set_option linter.unusedVariables false
set_option linter.unusedSimpArgs false
set_option linter.unusedSectionVars false
set_option linter.deprecated false
namespace Go.Ab
open Go.Proofs
set_option maxRecDepth 100000
set_option maxHeartbeats 4000000
theorem LcheckG (f : Font) (hs : f.gs.length < 1099511627776 ∧ f.ks.length < 1099511627776) (b : Code) (hb : b = loopAt Tryz.f55 0) (fr : Nat → V) (h : Heap) (K : List Fr) (Q : Ax → St → Prop)
  (h1 : fr 1 = .ptr 0 0) (h5 : fr 3 = .int .i64 0) (hb0 : h.bs[0]? = some (.cells [R fl0 eG f.gs, .int .i64 f.other, R fl0 eK f.ks]))
  (hin : gAll f.gs = true → ∀ fr' h', fr' 1 = .ptr 0 0 → h'.bs[0]? = some (.cells [R fl0 eG f.gs, .int .i64 f.other, R fl0 eK f.ks]) → dn cfg (.exit 0) ⟨tab 142 fr', h', [], .no, none⟩ K Q)
  (hout : gAll f.gs = false → ∀ fr' h', fr' 2 = .int .i64 110 → dn cfg .ret ⟨tab 142 fr', h', [], .no, none⟩ K Q) :
  wp cfg (.loop b) ⟨tab 142 fr, h, [], .no, none⟩ K Q := by
 subst hb
 simp only [loopAt, codeOf, Tryz.f55, Option.getD_some, loopsOf, List.nil_append, List.append_nil, List.cons_append, List.getD_cons_succ, List.getD_cons_zero]
 refine wp_loopE cfg rfl (fun f0 h0 m fr h => ∃ i : Nat, fr 1 = .ptr 0 0 ∧ fr 3 = .int .i64 i ∧ (h.bs[0]? = some (.cells [R fl0 eG f.gs, .int .i64 f.other, R fl0 eK f.ks])) ∧ (0 < h.bs.length) ∧ (i + m = f.gs.length) ∧ (allTo i (fun i => gOk (nth f.gs i) && gRise f.gs i) = true)) (f.gs.length) _ _ ⟨0, h1, by simpa using h5, hb0, (List.getElem?_eq_some_iff.1 hb0).1, by first | rfl | (simp; done) | omega, by first | rfl | (simp; done) | omega⟩ ?_
 rintro Bm Bf Bh ⟨i, B1, B3, h0, hpos, hm, ht⟩ Bih
 by_cases hi : i < f.gs.length
 ·have hbad : (gOk (nth f.gs i) && gRise f.gs i) = false → gAll f.gs = false := fun h => allTo_false (p := fun i => gOk (nth f.gs i) && gRise f.gs i) i hi h
  have hgo : (gOk (nth f.gs i) && gRise f.gs i) = true → allTo (i + 1) (fun i => gOk (nth f.gs i) && gRise f.gs i) = true := fun h => allTo_next ht h
  have hiff : (gOk (nth f.gs i) && gRise f.gs i) = decide ((0 ≤ (nth f.gs i).lo ∧ (nth f.gs i).lo ≤ (nth f.gs i).hi ∧ (nth f.gs i).hi ≤ 1114111 ∧ 0 ≤ (nth f.gs i).width ∧ (nth f.gs i).width ≤ 4096) ∧ (0 < i → (nth f.gs (i - 1)).hi < (nth f.gs i).lo)) := by
   unfold gOk gRise; simp
  rw [hiff] at hbad hgo
  simp only [decide_eq_false_iff_not, decide_eq_true_eq] at hbad hgo
  have hl1 : Bh.bs.length ≠ 0 := by omega
  have hx : ∀ b : Blk, (Bh.bs ++ [b])[0]? = some (.cells [R fl0 eG f.gs, .int .i64 f.other, R fl0 eK f.ks]) := fun b => by rw [bs_left hpos, h0]
  have hlst : ∀ b : Blk, (Bh.bs ++ [b])[Bh.bs.length]? = some b := fun b => by simp
  have h4 : 0 < i → (((i : Int) - 1).toNat) = i - 1 := by omega
  repeat' (first|((first|refine wA ?_ ?_|refine wB ?_ ?_)<;>intro hc<;>try simp at hc)|refine wF ?_|refine wY ?_|refine wL ?_|refine owe ?_ fun ho=>?_|(simp (disch := first|exact DD|fail) [B1, B3, h0, hx, hlst, eG, h4, -getElem?_pos, gZ, gS]))
  all_goals first
   | exact hout (hbad (by omega)) _ _ (by simp)
   | exact Bih (Bm - 1) _ _ (by omega) ⟨i + 1, by simp [B1, B3, eG], by simp [B1, B3, eG], hx _, by simp, by omega, hgo (by omega)⟩
 ·have hka : gAll f.gs = true := by
   have : i = f.gs.length := by omega
   rw [this] at ht; exact ht
  repeat' (first|((first|refine wA ?_ ?_|refine wB ?_ ?_)<;>intro hc<;>try simp at hc)|refine wF ?_|refine wY ?_|refine wL ?_|refine owe ?_ fun ho=>?_|(simp (disch := first|exact DD|fail) [B1, B3, h0, -getElem?_pos, gZ, gS]))
  exact hin hka _ _ B1 h0
end Go.Ab
namespace Go.Ab
open Go.Proofs
set_option maxRecDepth 100000
structure VwZ where
 no : Int
 lang : Int
 lines : Int
 room : Int
 cells : Int
 speed : Int
 right : Bool
 font : Font
 signs : List Sgn
 scr : ScrZ
 deriving Inhabited
def smVw (v : VwZ) : Prop := (v.font.gs.length < 1099511627776 ∧ v.font.ks.length < 1099511627776) ∧ smZs v.signs ∧ v.scr.bl.length < 1099511627776
def inB (n lo hi : Int) : Bool := decide (lo ≤ n ∧ n ≤ hi)
theorem inB_t {n lo hi : Int} : inB n lo hi = true ↔ lo ≤ n ∧ n ≤ hi := by simp [inB]
def baseB (v : VwZ) : Bool := inB v.no 0 99999 && inB v.lang 0 31 && inB v.lines 1 8 && inB v.speed 0 1000 && decide (scrE v.scr = 0)
def screenB (v : VwZ) : Bool := inB v.room 1 1099511627776 && decide (checkS v.font = 0) && decide (v.signs.length = 0)
def cellsB (v : VwZ) : Bool := inB v.cells 1 80 && decide (v.room = 0) && decide (checkZ v.signs = 0) && decide (v.font.gs.length = 0) && decide (v.font.ks.length = 0) && decide (v.font.other = 0)
def readB (v : VwZ) : Bool := if v.cells = 0 then screenB v else cellsB v
def vwR (v : VwZ) : Bool := baseB v && readB v
def vwE (v : VwZ) : Int := if vwR v then 0 else 450
theorem baseB_t {v : VwZ} : baseB v = true ↔ inB v.no 0 99999 = true ∧ inB v.lang 0 31 = true ∧ inB v.lines 1 8 = true ∧ inB v.speed 0 1000 = true ∧ scrE v.scr = 0 := by
 simp [baseB, and_assoc]
theorem vwR_s {v : VwZ} (h : v.cells = 0) : vwR v = true ↔ baseB v = true ∧ inB v.room 1 1099511627776 = true ∧ checkS v.font = 0 ∧ v.signs.length = 0 := by
 simp [vwR, readB, screenB, h, and_assoc]
theorem vwR_c {v : VwZ} (h : ¬ v.cells = 0) : vwR v = true ↔ baseB v = true ∧ inB v.cells 1 80 = true ∧ v.room = 0 ∧ checkZ v.signs = 0 ∧ v.font.gs.length = 0 ∧ v.font.ks.length = 0 ∧ v.font.other = 0 := by
 simp [vwR, readB, cellsB, h, and_assoc]
theorem vwR_base {v : VwZ} (h : baseB v = false) : vwR v = false := by simp [vwR, h]
end Go.Ab
