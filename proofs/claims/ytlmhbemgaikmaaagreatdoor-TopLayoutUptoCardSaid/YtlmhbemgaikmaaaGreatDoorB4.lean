
import Derived.Test.YtlmhbemgaikmaaaGreatDoorB3
set_option linter.unusedVariables false
set_option linter.unusedSimpArgs false
set_option linter.unusedSectionVars false
set_option linter.deprecated false
namespace Go.Ab
open Go.Proofs
set_option maxRecDepth 100000
set_option maxHeartbeats 4000000
def revT (a m : Nat) (g : Nat → Int) (i : Nat) : Nat → Int := fun j => if a ≤ j ∧ j < a + m ∧ (j < a + i ∨ a + m ≤ j + i) then g (a + a + m - 1 - j) else g j
def fullR (a b : Nat) (g : Nat → Int) : Nat → Int := fun j => if a ≤ j ∧ j < b then g (a + b - 1 - j) else g j
theorem revT_zero (a m : Nat) (g : Nat → Int) : revT a m g 0 = g := by
 funext j; unfold revT; rw [if_neg (by omega)]
theorem revT_step {a m i : Nat} {g : Nat → Int} (h : i + 1 < m - i) : updI (updI (revT a m g i) (a + i) (g (a + (m - 1 - i)))) (a + (m - 1 - i)) (g (a + i)) = revT a m g (i + 1) := by
 funext j
 show (if j = a + (m - 1 - i) then g (a + i) else if j = a + i then g (a + (m - 1 - i)) else revT a m g i j) = revT a m g (i + 1) j
 unfold revT
 by_cases h1 : j = a + (m - 1 - i)
 ·rw [if_pos h1, if_pos (by omega)]; congr 1; omega
 ·rw [if_neg h1]
  by_cases h2 : j = a + i
  ·rw [if_pos h2, if_pos (by omega)]; congr 1; omega
  ·rw [if_neg h2]
   by_cases h3 : a ≤ j ∧ j < a + m ∧ (j < a + i ∨ a + m ≤ j + i)
   ·rw [if_pos h3, if_pos (by omega)]
   ·rw [if_neg h3, if_neg (by omega)]
theorem revT_end {a m i : Nat} {g : Nat → Int} (h : ¬ i + 1 < m - i) : revT a m g i = fullR a (a + m) g := by
 funext j
 unfold revT fullR
 by_cases h1 : a ≤ j ∧ j < a + m
 ·rw [if_pos h1]
  by_cases h2 : j < a + i ∨ a + m ≤ j + i
  ·rw [if_pos ⟨h1.1, h1.2, h2⟩]; congr 1; omega
  ·rw [if_neg (fun x => h2 x.2.2)]; congr 1; omega
 ·rw [if_neg h1, if_neg (fun x => h1 ⟨x.1, x.2.1⟩)]
theorem revT_lo {a m i : Nat} {g : Nat → Int} (h : i + 1 < m - i) : revT a m g i (a + i) = g (a + i) ∧ revT a m g i (a + (m - 1 - i)) = g (a + (m - 1 - i)) := by
 unfold revT
 exact ⟨if_neg (by omega), if_neg (by omega)⟩
theorem set_self {l : List Blk} {b : Nat} {x : Blk} (h : l[b]? = some x) : l.set b x = l := by
 apply List.ext_getElem?
 intro j
 rw [List.getElem?_set]
 by_cases e : b = j
 ·subst e
  have := (List.getElem?_eq_some_iff.1 h).1
  rw [if_pos rfl, if_pos this, h]
 ·rw [if_neg e]
theorem Wrev {k : CC} {K : List Fr} {Q : Ax → St → Prop} (hh : Heap) (b a mm N : Nat) (g : Nat → Int) (hb : hh.bs[b]? = some (.cells (tab N (cI g)))) (hN : a + mm ≤ N) (hN2 : N < 1099511627776)
  (H : wk cfg k K Q (some (.ret (.tuple []), ⟨hh.bs.set b (.cells (tab N (cI (fullR a (a + mm) g)))), hh.ts⟩))) :
  wk cfg k K Q (Ci cfg (.func (.func 77) [] []) [.slice b a mm 1] hh) := by
 have hbl := (List.getElem?_eq_some_iff.1 hb).1
 have hset : ∀ x : Blk, (hh.bs.set b x)[b]? = some x := fun x => List.getElem?_set_self hbl
 repeat' (first|((first|refine wA ?_ ?_|refine wB ?_ ?_)<;>intro hc<;>try simp at hc)|refine wF ?_|refine wY ?_|refine wL ?_|refine owe ?_ fun ho=>?_|(simp (disch := first|exact DD|fail) [Tryz.f77, -getElem?_pos, gZ, gS]))
 refine wp_loopE cfg rfl (fun f0 h0 m fr h => ∃ i : Nat, fr 0 = f0 0 ∧ fr 2 = .int .i64 i ∧ fr 3 = .int .i64 ((mm : Int) - 1 - i) ∧ (h.bs = hh.bs.set b (.cells (tab N (cI (revT a mm g i))))) ∧ (h.ts = hh.ts) ∧ (i + m = mm) ∧ (i + i ≤ mm + 1)) (mm) _ _ ⟨0, rfl, by first | rfl | (simp; done) | (simp [R]; done) | simp [R], by first | (simp; done) | (simp; omega), by rw [revT_zero]; exact (set_self hb).symm, by first | rfl | (simp; done) | omega, by first | rfl | (simp; done) | omega, by first | rfl | (simp; done) | omega⟩ ?_
 rintro Am Af Ah ⟨i, A0, A2, A3, hb2, hts, hm9, hii⟩ Aih
 try simp at A0
 by_cases hgo : i + 1 < mm - i
 ·obtain ⟨q, hq⟩ : ∃ q, q = mm - 1 - i := ⟨_, rfl⟩
  have hqi : (mm : Int) - 1 - i = q := by omega
  have hst := revT_step (a := a) (g := g) hgo
  obtain ⟨l1, l2⟩ := revT_lo (a := a) (g := g) hgo
  rw [← hq] at hst l2
  rw [hqi] at A3
  have g1 : a + i < N := by omega
  have g2 : a + q < N := by omega
  have hq2 : (q : Int) - 1 = (mm : Int) - 1 - (i + 1) := by omega
  have hii2 : i < mm := by omega
  have hqq : q < mm := by omega
  have hne : ¬ a + q = a + i := by omega
  repeat' (first|((first|refine wA ?_ ?_|refine wB ?_ ?_)<;>intro hc<;>try simp at hc)|refine wF ?_|refine wY ?_|refine wL ?_|refine owe ?_ fun ho=>?_|(simp (disch := first|exact DD|fail) [A0, A2, A3, hb2, hset, tab_get1, tab_set, l1, l2, List.set_set, -getElem?_pos, gZ, gS]))
  exact Aih (Am - 1) _ _ (by omega) ⟨i + 1, by simp [A0, A2, A3, hb2, hst, hq2, hts], by simp [A0, A2, A3, hb2, hst, hq2, hts], by simp [A0, A2, A3, hb2, hst, hq2, hts], (by simp [hb2, hst]), by simp [hts], by omega, by omega⟩
 ·have hend := revT_end (a := a) (g := g) hgo
  rw [hend] at hb2
  repeat' (first|((first|refine wA ?_ ?_|refine wB ?_ ?_)<;>intro hc<;>try simp at hc)|refine wF ?_|refine wY ?_|refine wL ?_|refine owe ?_ fun ho=>?_|(simp (disch := first|exact DD|fail) [A0, A2, A3, -getElem?_pos, gZ, gS]))
  have e : Ah = ⟨hh.bs.set b (.cells (tab N (cI (fullR a (a + mm) g)))), hh.ts⟩ := by rw [← hb2, ← hts]
  rw [e]; exact H
end Go.Ab
