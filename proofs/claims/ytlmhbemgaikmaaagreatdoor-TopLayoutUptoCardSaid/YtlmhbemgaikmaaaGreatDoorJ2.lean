
import Derived.Test.YtlmhbemgaikmaaaGreatDoorGr10
set_option linter.unusedVariables false
set_option linter.unusedSimpArgs false
set_option linter.unusedSectionVars false
set_option linter.deprecated false
namespace Go.Ab
open Go.Proofs
set_option maxRecDepth 100000
set_option maxHeartbeats 4000000
theorem C125 (t : List Sgn) (hs : smZs t) : Kc cfg 125 [R fl0 eZ t] (.ret (.int .i64 (checkZ t))) := by
 have hs1 := hs.1
 have hmany := checkZ_many (t := t)
 have hbad := fun h i => checkZ_bad (t := t) h (i := i)
 have hemp := checkZ_empty (t := t)
 have hok := checkZ_ok (t := t)
 generalize hF : checkZ t = F at *
 by_cases h64 : 64 < t.length
 ·rw [hmany h64]
  refine outS_of_wp cfg (fn := Tryz.f125) Tryz.func125 rfl (by simp [Tryz.f125]) ?_
  simp (disch := first|exact DD|fail) [-getElem?_pos, gZ, gS, Tryz.f125, emptyH, h64]
  repeat' (first|((first|refine wA ?_ ?_|refine wB ?_ ?_)<;>intro hc<;>try simp at hc)|refine wF ?_|refine wY ?_|refine wL ?_|refine owe ?_ fun ho=>?_|(simp (disch := first|exact DD|fail) [emptyH, h64, -getElem?_pos, gZ, gS]))
  all_goals try (exfalso; omega)
 refine outS_of_wp cfg (fn := Tryz.f125) Tryz.func125 rfl (by simp [Tryz.f125]) ?_
 simp (disch := first|exact DD|fail) [-getElem?_pos, gZ, gS, Tryz.f125, emptyH]
 repeat' (first|((first|refine wA ?_ ?_|refine wB ?_ ?_)<;>intro hc<;>try simp at hc)|refine wF ?_|refine wY ?_|refine wL ?_|refine owe ?_ fun ho=>?_|(simp (disch := first|exact DD|fail) [emptyH, -getElem?_pos, gZ, gS]))
 all_goals try (exfalso; omega)
 refine wp_loopE cfg rfl (fun f0 h0 m fr h => ∃ i : Nat, ∃ X : List Blk, fr 0 = f0 0 ∧ fr 3 = f0 3 ∧ fr 12 = f0 12 ∧ fr 13 = f0 13 ∧ fr 14 = .int .i64 i ∧ (h.bs = .map (mSn 0 (textsZ (t.take i))) (textsZ (t.take i)).length :: X) ∧ (i + m = t.length) ∧ (∀ j, j < i → sgnAt t j = true)) (t.length) _ _ ⟨0, [], rfl, rfl, rfl, rfl, by first | rfl | (simp; done) | (simp [R]; done) | simp [R], by simp [textsZ, mSn], by first | rfl | (simp; done) | omega, fun j hj => by omega⟩ ?_
 rintro Am Af Ah ⟨i, X, A0, A3, A12, A13, A14, hb, hm, hx⟩ Aih
 try simp at A0 A3 A12 A13
 by_cases hi : i < t.length
 ·obtain ⟨k1, k2⟩ := smZs_nth hs hi
  have hfr := fresh_iff (t := t) (i := i) (by omega)
  have hat : sgnAt t i = (sgnH (nth t i) && dotsL (nth t i).cells && freshZ t i) := rfl
  have lk := lookup_Sn (P := Tryz.prog) (h := Ah) (a := 0) (t := 199) (kt := 9) (et := 4) (l := textsZ (t.take i)) (nth t i).text (by simp) (by simp) (by simp) (by rw [hb]; rfl)
  have hlk : ∀ (Y : List Blk) ts, lookupV Tryz.prog ⟨.map (mSn 0 (textsZ (t.take i))) (textsZ (t.take i)).length :: Y, ts⟩ 199 (.map 0) (.str (nth t i).text) false = some (.bool (decide ((nth t i).text ∈ textsZ (t.take i)))) := fun Y ts => lookup_Sn (kt := 9) (et := 4) _ (by simp) (by simp) (by simp) rfl
  clear lk
  have htk : textsZ (t.take i) ++ [(nth t i).text] = textsZ (t.take (i + 1)) := by rw [nth_take hi]; simp [textsZ]
  by_cases hg : sgnH (nth t i) = true
  ·have hg0 := hg
   unfold sgnH at hg
   rw [decide_eq_true_eq] at hg
   obtain ⟨g1, g2, g3, g4, g5⟩ := hg
   cases hd : dotsL (nth t i).cells with
   | false =>
    have h2 := hbad h64 i hi (by rw [hat, hd, hg0]; rfl)
    repeat' (first|((first|refine wA ?_ ?_|refine wB ?_ ?_)<;>intro hc<;>try simp at hc)|refine wF ?_|refine wY ?_|refine wL ?_|refine owe ?_ fun ho=>?_|(simp (disch := first|exact DD|fail) [A0, A3, A12, A13, A14, hb, hi, k1, k2, g1, g2, g3, g4, g5, hd, hlk, -getElem?_pos, gZ, gS]))
    all_goals try (exfalso; omega)
    all_goals first | exact h2.symm | (exfalso; omega)
   | true =>
    by_cases hf : (nth t i).text ∈ textsZ (t.take i)
    ·have h2 := hbad h64 i hi (by rw [hat, hd, hg0, hfr, decide_eq_true hf]; rfl)
     repeat' (first|((first|refine wA ?_ ?_|refine wB ?_ ?_)<;>intro hc<;>try simp at hc)|refine wF ?_|refine wY ?_|refine wL ?_|refine owe ?_ fun ho=>?_|(simp (disch := first|exact DD|fail) [A0, A3, A12, A13, A14, hb, hi, k1, k2, g1, g2, g3, g4, g5, hd, hlk, hf, -getElem?_pos, gZ, gS]))
     all_goals try (exfalso; omega)
     all_goals first | exact h2.symm | (exfalso; omega)
    ·have h2 : sgnAt t i = true := by rw [hat, hd, hg0, hfr, decide_eq_false hf]; rfl
     have hup : ∀ (Y : List Blk) ts, mapUpdV Tryz.prog ⟨.map (mSn 0 (textsZ (t.take i))) (textsZ (t.take i)).length :: Y, ts⟩ 199 (.map 0) (.str (nth t i).text) (.bool true) = some ⟨.map (mSn 0 (textsZ (t.take (i + 1)))) (textsZ (t.take (i + 1))).length :: Y, ts⟩ := fun Y ts => by
      rw [← htk]
      exact upd_Sn (kt := 9) (et := 4) _ hf (by simp) (by simp) rfl
     repeat' (first|((first|refine wA ?_ ?_|refine wB ?_ ?_)<;>intro hc<;>try simp at hc)|refine wF ?_|refine wY ?_|refine wL ?_|refine owe ?_ fun ho=>?_|(simp (disch := first|exact DD|fail) [A0, A3, A12, A13, A14, hb, hi, k1, k2, g1, g2, g3, g4, g5, hd, hlk, hf, hup, -getElem?_pos, gZ, gS]))
     all_goals try (exfalso; omega)
     exact Aih (Am - 1) _ _ (by omega) ⟨i + 1, X ++ [.cells [.str (nth t i).text, R fl0 eI (nth t i).cells]], by simp [A0, A3, A12, A13, A14], by simp [A0, A3, A12, A13, A14], by simp [A0, A3, A12, A13, A14], by simp [A0, A3, A12, A13, A14], by simp [A0, A3, A12, A13, A14], rfl, by omega, fun j hj => by (by_cases e : j = i; (subst e; exact h2); exact hx j (by omega))⟩
  ·have h2 := hbad h64 i hi (by rw [hat]; simp [hg])
   unfold sgnH at hg
   rw [decide_eq_true_eq] at hg
   repeat' (first|((first|refine wA ?_ ?_|refine wB ?_ ?_)<;>intro hc<;>try simp at hc)|refine wF ?_|refine wY ?_|refine wL ?_|refine owe ?_ fun ho=>?_|(simp (disch := first|exact DD|fail) [A0, A3, A12, A13, A14, hb, hi, k1, k2, hlk, -getElem?_pos, gZ, gS]))
   all_goals try (exfalso; omega)
   all_goals first | exact h2.symm | (exfalso; omega)
 ·obtain rfl : i = t.length := by omega
  by_cases h0 : t.length = 0
  ·have h2 := hemp h0
   repeat' (first|((first|refine wA ?_ ?_|refine wB ?_ ?_)<;>intro hc<;>try simp at hc)|refine wF ?_|refine wY ?_|refine wL ?_|refine owe ?_ fun ho=>?_|(simp (disch := first|exact DD|fail) [A0, A3, A12, A13, A14, h0, -getElem?_pos, gZ, gS]))
   all_goals first | exact h2.symm | (exfalso; omega)
  ·have h2 := hok h64 h0 hx
   have h3 : ¬ t = [] := fun e => h0 (by rw [e]; rfl)
   repeat' (first|((first|refine wA ?_ ?_|refine wB ?_ ?_)<;>intro hc<;>try simp at hc)|refine wF ?_|refine wY ?_|refine wL ?_|refine owe ?_ fun ho=>?_|(simp (disch := first|exact DD|fail) [A0, A3, A12, A13, A14, h0, h3, -getElem?_pos, gZ, gS]))
   all_goals first | exact h2.symm | (exfalso; omega)
@[simp] theorem S125 (t : List Sgn) (hs : smZs t) (q1 : Fl) (hh : Heap) : Ci cfg (.func (.func 125) [] []) [R  q1 eZ t] hh = some (.ret (.int .i64 (checkZ t)), hh) :=
 Ci_K cfg rfl rfl (by simp) (by simp) (C125 t hs)
theorem C83 (t : List Sgn) (hs : smZs t) : Kc cfg 83 [R fl0 eZ t] (.ret (.bool (decide (checkZ t = 0)))) := by
 have hs1 := hs.1
 have hmany := checkZ_many (t := t)
 have hbad := fun h i => checkZ_bad (t := t) h (i := i)
 have hemp := checkZ_empty (t := t)
 have hok := checkZ_ok (t := t)
 generalize hF : checkZ t = F at *
 by_cases h64 : 64 < t.length
 ·rw [hmany h64]
  refine outS_of_wp cfg (fn := Tryz.f83) Tryz.func83 rfl (by simp [Tryz.f83]) ?_
  simp (disch := first|exact DD|fail) [-getElem?_pos, gZ, gS, Tryz.f83, emptyH, h64]
  repeat' (first|((first|refine wA ?_ ?_|refine wB ?_ ?_)<;>intro hc<;>try simp at hc)|refine wF ?_|refine wY ?_|refine wL ?_|refine owe ?_ fun ho=>?_|(simp (disch := first|exact DD|fail) [emptyH, h64, -getElem?_pos, gZ, gS]))
  all_goals try (exfalso; omega)
 by_cases h0 : t.length = 0
 ·rw [hemp h0]
  refine outS_of_wp cfg (fn := Tryz.f83) Tryz.func83 rfl (by simp [Tryz.f83]) ?_
  simp (disch := first|exact DD|fail) [-getElem?_pos, gZ, gS, Tryz.f83, emptyH, h0]
  repeat' (first|((first|refine wA ?_ ?_|refine wB ?_ ?_)<;>intro hc<;>try simp at hc)|refine wF ?_|refine wY ?_|refine wL ?_|refine owe ?_ fun ho=>?_|(simp (disch := first|exact DD|fail) [emptyH, h0, -getElem?_pos, gZ, gS]))
  all_goals try (exfalso; omega)
 refine outS_of_wp cfg (fn := Tryz.f83) Tryz.func83 rfl (by simp [Tryz.f83]) ?_
 simp (disch := first|exact DD|fail) [-getElem?_pos, gZ, gS, Tryz.f83, emptyH]
 repeat' (first|((first|refine wA ?_ ?_|refine wB ?_ ?_)<;>intro hc<;>try simp at hc)|refine wF ?_|refine wY ?_|refine wL ?_|refine owe ?_ fun ho=>?_|(simp (disch := first|exact DD|fail) [emptyH, -getElem?_pos, gZ, gS]))
 all_goals try (exfalso; omega)
 refine wp_loopE cfg rfl (fun f0 h0 m fr h => ∃ i : Nat, fr 0 = f0 0 ∧ fr 3 = .int .i64 i ∧ h.bs = h0.bs ∧ (i + m = t.length) ∧ (∀ j, j < i → sgnAt t j = true)) (t.length) _ _ ⟨0, rfl, by first | rfl | (simp; done) | (simp [R]; done) | simp [R], rfl, by first | rfl | (simp; done) | omega, fun j hj => by omega⟩ ?_
 rintro Am Af Ah ⟨i, A0, A3, Abs, hm, hx⟩ Aih
 try simp at A0 Abs
 by_cases hi : i < t.length
 ·obtain ⟨k1, k2⟩ := smZs_nth hs hi
  have hat : sgnAt t i = (sgnH (nth t i) && dotsL (nth t i).cells && freshZ t i) := rfl
  by_cases hg : sgnH (nth t i) = true
  ·have hg0 := hg
   unfold sgnH at hg
   rw [decide_eq_true_eq] at hg
   obtain ⟨g1, g2, g3, g4, g5⟩ := hg
   cases hd : dotsL (nth t i).cells with
   | false =>
    have h2 := hbad h64 i hi (by rw [hat, hd, hg0]; rfl)
    rw [h2]
    repeat' (first|((first|refine wA ?_ ?_|refine wB ?_ ?_)<;>intro hc<;>try simp at hc)|refine wF ?_|refine wY ?_|refine wL ?_|refine owe ?_ fun ho=>?_|(simp (disch := first|exact DD|fail) [A0, A3, Abs, hi, k1, k2, g1, g2, g3, g4, g5, hd, -getElem?_pos, gZ, gS]))
    all_goals try (exfalso; omega)
   | true =>
    repeat' (first|((first|refine wA ?_ ?_|refine wB ?_ ?_)<;>intro hc<;>try simp at hc)|refine wF ?_|refine wY ?_|refine wL ?_|refine owe ?_ fun ho=>?_|(simp (disch := first|exact DD|fail) [A0, A3, Abs, hi, k1, k2, g1, g2, g3, g4, g5, hd, -getElem?_pos, gZ, gS]))
    all_goals try (exfalso; omega)
    refine wp_loopE cfg rfl (fun f0 h0 m fr h => ∃ k : Nat, fr 0 = f0 0 ∧ fr 3 = f0 3 ∧ fr 6 = .int .i64 k ∧ h.bs = h0.bs ∧ (k + m = i) ∧ (∀ j, j < k → ¬ (nth t j).text = (nth t i).text)) (i) _ _ ⟨0, rfl, rfl, by first | rfl | (simp; done) | (simp [R]; done) | simp [R], rfl, by first | rfl | (simp; done) | omega, fun j hj => by omega⟩ ?_
    rintro Bm Bf Bh ⟨k, B0, B3, B6, Bbs, hm2, hy⟩ Bih
    try simp [A0, A3, Abs] at B0 B3 Bbs
    by_cases hk : k < i
    ·have hkl : k < t.length := by omega
     obtain ⟨k3, k4⟩ := smZs_nth hs hkl
     by_cases he : (nth t k).text = (nth t i).text
     ·have hf : freshZ t i = false := decide_eq_false (fun h => h k hk he)
      have h2 := hbad h64 i hi (by rw [hat, hf]; simp)
      rw [h2]
      repeat' (first|((first|refine wA ?_ ?_|refine wB ?_ ?_)<;>intro hc<;>try simp at hc)|refine wF ?_|refine wY ?_|refine wL ?_|refine owe ?_ fun ho=>?_|(simp (disch := first|exact DD|fail) [B0, B3, B6, Bbs, A0, A3, Abs, hi, hkl, hk, he, -getElem?_pos, gZ, gS]))
      all_goals try (exfalso; omega)
     ·repeat' (first|((first|refine wA ?_ ?_|refine wB ?_ ?_)<;>intro hc<;>try simp at hc)|refine wF ?_|refine wY ?_|refine wL ?_|refine owe ?_ fun ho=>?_|(simp (disch := first|exact DD|fail) [B0, B3, B6, Bbs, A0, A3, Abs, hi, hkl, hk, he, -getElem?_pos, gZ, gS]))
      all_goals try (exfalso; omega)
      exact Bih (Bm - 1) _ _ (by omega) ⟨k + 1, by simp [B0, B3, B6, Bbs, A0, A3, Abs], by simp [B0, B3, B6, Bbs, A0, A3, Abs], by simp [B0, B3, B6, Bbs, A0, A3, Abs], by simp [B0, B3, B6, Bbs, A0, A3, Abs], by omega, fun j hj => by (by_cases e : j = k; (subst e; exact he); exact hy j (by omega))⟩
    ·have hki : k = i := by omega
     subst hki
     have hf : freshZ t k = true := decide_eq_true hy
     have h2 : sgnAt t k = true := by rw [hat, hd, hg0, hf]; rfl
     repeat' (first|((first|refine wA ?_ ?_|refine wB ?_ ?_)<;>intro hc<;>try simp at hc)|refine wF ?_|refine wY ?_|refine wL ?_|refine owe ?_ fun ho=>?_|(simp (disch := first|exact DD|fail) [B0, B3, B6, Bbs, A0, A3, Abs, -getElem?_pos, gZ, gS]))
     all_goals try (exfalso; omega)
     exact Aih (Am - 1) _ _ (by omega) ⟨k + 1, by simp [B0, B3, B6, Bbs, A0, A3, Abs], by simp [B0, B3, B6, Bbs, A0, A3, Abs], by simp [B0, B3, B6, Bbs, A0, A3, Abs], by omega, fun j hj => by (by_cases e : j = k; (subst e; exact h2); exact hx j (by omega))⟩
  ·have h2 := hbad h64 i hi (by rw [hat]; simp [hg])
   rw [h2]
   unfold sgnH at hg
   rw [decide_eq_true_eq] at hg
   repeat' (first|((first|refine wA ?_ ?_|refine wB ?_ ?_)<;>intro hc<;>try simp at hc)|refine wF ?_|refine wY ?_|refine wL ?_|refine owe ?_ fun ho=>?_|(simp (disch := first|exact DD|fail) [A0, A3, Abs, hi, k1, k2, -getElem?_pos, gZ, gS]))
   all_goals try (exfalso; omega)
 ·obtain rfl : i = t.length := by omega
  have h2 := hok h64 h0 hx
  rw [h2]
  repeat' (first|((first|refine wA ?_ ?_|refine wB ?_ ?_)<;>intro hc<;>try simp at hc)|refine wF ?_|refine wY ?_|refine wL ?_|refine owe ?_ fun ho=>?_|(simp (disch := first|exact DD|fail) [A0, A3, Abs, -getElem?_pos, gZ, gS]))
  all_goals try (exfalso; omega)
@[simp] theorem S83 (t : List Sgn) (hs : smZs t) (q1 : Fl) (hh : Heap) : Ci cfg (.func (.func 83) [] []) [R  q1 eZ t] hh = some (.ret (.bool (decide (checkZ t = 0))), hh) :=
 Ci_K cfg rfl rfl (by simp) (by simp) (C83 t hs)
theorem C56 (t : List Sgn) (hs : smZs t) : Kc cfg 56 [R fl0 eZ t] (.ret (.int .i64 (checkZ t))) := by
 have hs1 := hs.1
 by_cases h64 : 64 < t.length
 ·rw [checkZ_many h64]
  refine outS_of_wp cfg (fn := Tryz.f56) Tryz.func56 rfl (by simp [Tryz.f56]) ?_
  simp (disch := first|exact DD|fail) [-getElem?_pos, gZ, gS, Tryz.f56, h64]
  repeat' (first|((first|refine wA ?_ ?_|refine wB ?_ ?_)<;>intro hc<;>try simp at hc)|refine wF ?_|refine wY ?_|refine wL ?_|refine owe ?_ fun ho=>?_|(simp (disch := first|exact DD|fail) [h64, -getElem?_pos, gZ, gS]))
  all_goals try (exfalso; omega)
 ·by_cases h : checkZ t = 0
  ·skip
   refine outS_of_wp cfg (fn := Tryz.f56) Tryz.func56 rfl (by simp [Tryz.f56]) ?_
   simp (disch := first|exact DD|fail) [-getElem?_pos, gZ, gS, Tryz.f56, h64, h]
   repeat' (first|((first|refine wA ?_ ?_|refine wB ?_ ?_)<;>intro hc<;>try simp at hc)|refine wF ?_|refine wY ?_|refine wL ?_|refine owe ?_ fun ho=>?_|(simp (disch := first|exact DD|fail) [h64, h, -getElem?_pos, gZ, gS]))
   all_goals try (exfalso; omega)
  ·have h2 : checkZ t = 120 := by
    unfold checkZ at h ⊢
    rw [if_neg h64] at h ⊢
    split
    ·rfl
    ·rename_i h0
     rw [if_neg h0] at h
     split
     ·rename_i h1; rw [if_pos h1] at h; exact absurd rfl h
     ·rfl
   refine outS_of_wp cfg (fn := Tryz.f56) Tryz.func56 rfl (by simp [Tryz.f56]) ?_
   simp (disch := first|exact DD|fail) [-getElem?_pos, gZ, gS, Tryz.f56, h64, h2]
   repeat' (first|((first|refine wA ?_ ?_|refine wB ?_ ?_)<;>intro hc<;>try simp at hc)|refine wF ?_|refine wY ?_|refine wL ?_|refine owe ?_ fun ho=>?_|(simp (disch := first|exact DD|fail) [h64, h2, -getElem?_pos, gZ, gS]))
   all_goals try (exfalso; omega)
@[simp] theorem S56 (t : List Sgn) (hs : smZs t) (q1 : Fl) (hh : Heap) : Ci cfg (.func (.func 56) [] []) [R  q1 eZ t] hh = some (.ret (.int .i64 (checkZ t)), hh) :=
 Ci_K cfg rfl rfl (by simp) (by simp) (C56 t hs)
end Go.Ab
