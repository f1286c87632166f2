
import Derived.Test.YtlmhbemgaikmaaaGreatDoorGr30
set_option linter.unusedVariables false
set_option linter.unusedSimpArgs false
set_option linter.unusedSectionVars false
set_option linter.deprecated false
namespace Go.Ab
open Go.Proofs
set_option maxRecDepth 100000
set_option maxHeartbeats 4000000
theorem C52 (q : QnZ) (hq : qOk q) (i j : Nat) (hij : i < j) (hj : j ≤ q.ready.length) (a : Int) (ha : 0 ≤ a ∧ a ≤ tmS i) : Kc cfg 52 [R fl0 eI q.ready, R fl0 eI q.need, .int .i64 q.flip, .int .i64 i, .int .i64 j, .int .i64 a] (.ret (.int .i64 (enS q i j a))) := by
 have q1 := hq.1
 have q2 := hq.2.1
 have h2 := hq.2.2.2.2.1
 have h3 := hq.2.2.2.2.2.1
 obtain ⟨r1, r2, _, _⟩ := hq.2.2.2.2.2.2.1 (j - 1) (by omega)
 have hrl : q.ready.length < 1099511627776 := by omega
 have hnl : q.need.length < 1099511627776 := by omega
 have hx : ((j : Int) - 1).toNat = j - 1 := by omega
 have hj1 : j - 1 < q.ready.length := by omega
 unfold tmS at ha
 obtain ⟨t0, ht0⟩ : ∃ t0, t0 = if 0 < i then max (nth q.ready (j - 1)) (a + q.flip) else nth q.ready (j - 1) := ⟨_, rfl⟩
 have hE : enS q i j a = t0 + smS q j - smS q i := by unfold enS; rw [← ht0]
 have htb : 0 ≤ t0 ∧ t0 ≤ 1000000000000000 := by rw [ht0]; split <;> omega
 have hcut : ∀ t1, t1 = t0 → t1 = t0 := fun _ h => h
 generalize hEE : enS q i j a = EE at *
 by_cases h0 : 0 < i
 ·rw [if_pos h0] at ht0
  have h0' : (0 < (i : Int)) = True := eq_true (by omega)
  refine outS_of_wp cfg (fn := Tryz.f52) Tryz.func52 rfl (by simp [Tryz.f52]) ?_
  simp (disch := first|exact DD|fail) [-getElem?_pos, gZ, gS, Tryz.f52, emptyH]
  repeat' (first|((first|refine wA ?_ ?_|refine wB ?_ ?_)<;>intro hc<;>try simp at hc)|refine wF ?_|refine wY ?_|refine wL ?_|refine owe ?_ fun ho=>?_|(simp (disch := first|exact DD|fail) [emptyH, eI, hx, hj1, h0', -getElem?_pos, gZ, gS]))
  all_goals try (exfalso; omega)
  refine wp_loopE cfg rfl (fun f0 h0 m fr h => ∃ k : Nat, fr 1 = f0 1 ∧ fr 4 = f0 4 ∧ fr 14 = .int .i64 k ∧ fr 13 = .int .i64 (t0 + smS q k - smS q i) ∧ (i ≤ k ∧ k ≤ j) ∧ (k + m = j)) (j - i) _ _ ⟨i, rfl, rfl, by first | rfl | (simp; done) | (simp [R]; done) | simp [R], by rw [ht0]; simp <;> omega, by omega, by first | rfl | (simp; done) | omega⟩ ?_
  rintro Am Af Ah ⟨k, A1, A4, A14, A13, hk, hm⟩ Aih
  try simp at A1 A4
  have s1 := smS_in hq (i := i) (by omega)
  have s2 := smS_in hq (i := k) (by omega)
  have s3 := smS_le hq hk.1 (show k ≤ q.ready.length by omega)
  by_cases hkj : k < j
  ·obtain ⟨_, _, n1, n2⟩ := hq.2.2.2.2.2.2.1 k (by omega)
   have hkn : k < q.need.length := by omega
   have hs := smS_succ q k
   have hsum : t0 + smS q k - smS q i + nth q.need k = t0 + smS q (k + 1) - smS q i := by omega
   repeat' (first|((first|refine wA ?_ ?_|refine wB ?_ ?_)<;>intro hc<;>try simp at hc)|refine wF ?_|refine wY ?_|refine wL ?_|refine owe ?_ fun ho=>?_|(simp (disch := first|exact DD|fail) [A1, A4, A14, A13, eI, hkn, hsum, -getElem?_pos, gZ, gS]))
   all_goals try (exfalso; omega)
   exact Aih (Am - 1) _ _ (by omega) ⟨k + 1, by simp [A1, A4, A14, A13], by simp [A1, A4, A14, A13], by simp [A1, A4, A14, A13], by simp [A1, A4, A14, A13], by omega, by omega⟩
  ·obtain rfl : k = j := by omega
   repeat' (first|((first|refine wA ?_ ?_|refine wB ?_ ?_)<;>intro hc<;>try simp at hc)|refine wF ?_|refine wY ?_|refine wL ?_|refine owe ?_ fun ho=>?_|(simp (disch := first|exact DD|fail) [A1, A4, A14, A13, hE, -getElem?_pos, gZ, gS]))
 ·rw [if_neg h0] at ht0
  have h0' : (0 < (i : Int)) = False := eq_false (by omega)
  refine outS_of_wp cfg (fn := Tryz.f52) Tryz.func52 rfl (by simp [Tryz.f52]) ?_
  simp (disch := first|exact DD|fail) [-getElem?_pos, gZ, gS, Tryz.f52, emptyH]
  repeat' (first|((first|refine wA ?_ ?_|refine wB ?_ ?_)<;>intro hc<;>try simp at hc)|refine wF ?_|refine wY ?_|refine wL ?_|refine owe ?_ fun ho=>?_|(simp (disch := first|exact DD|fail) [emptyH, eI, hx, hj1, h0', -getElem?_pos, gZ, gS]))
  all_goals try (exfalso; omega)
  refine wp_loopE cfg rfl (fun f0 h0 m fr h => ∃ k : Nat, fr 1 = f0 1 ∧ fr 4 = f0 4 ∧ fr 14 = .int .i64 k ∧ fr 13 = .int .i64 (t0 + smS q k - smS q i) ∧ (i ≤ k ∧ k ≤ j) ∧ (k + m = j)) (j - i) _ _ ⟨i, rfl, rfl, by first | rfl | (simp; done) | (simp [R]; done) | simp [R], by rw [ht0]; simp <;> omega, by omega, by first | rfl | (simp; done) | omega⟩ ?_
  rintro Am Af Ah ⟨k, A1, A4, A14, A13, hk, hm⟩ Aih
  try simp at A1 A4
  have s1 := smS_in hq (i := i) (by omega)
  have s2 := smS_in hq (i := k) (by omega)
  have s3 := smS_le hq hk.1 (show k ≤ q.ready.length by omega)
  by_cases hkj : k < j
  ·obtain ⟨_, _, n1, n2⟩ := hq.2.2.2.2.2.2.1 k (by omega)
   have hkn : k < q.need.length := by omega
   have hs := smS_succ q k
   have hsum : t0 + smS q k - smS q i + nth q.need k = t0 + smS q (k + 1) - smS q i := by omega
   repeat' (first|((first|refine wA ?_ ?_|refine wB ?_ ?_)<;>intro hc<;>try simp at hc)|refine wF ?_|refine wY ?_|refine wL ?_|refine owe ?_ fun ho=>?_|(simp (disch := first|exact DD|fail) [A1, A4, A14, A13, eI, hkn, hsum, -getElem?_pos, gZ, gS]))
   all_goals try (exfalso; omega)
   exact Aih (Am - 1) _ _ (by omega) ⟨k + 1, by simp [A1, A4, A14, A13], by simp [A1, A4, A14, A13], by simp [A1, A4, A14, A13], by simp [A1, A4, A14, A13], by omega, by omega⟩
  ·obtain rfl : k = j := by omega
   repeat' (first|((first|refine wA ?_ ?_|refine wB ?_ ?_)<;>intro hc<;>try simp at hc)|refine wF ?_|refine wY ?_|refine wL ?_|refine owe ?_ fun ho=>?_|(simp (disch := first|exact DD|fail) [A1, A4, A14, A13, hE, -getElem?_pos, gZ, gS]))
@[simp] theorem S52 (q : QnZ) (hq : qOk q) (i j : Nat) (hij : i < j) (hj : j ≤ q.ready.length) (a : Int) (ha : 0 ≤ a ∧ a ≤ tmS i) (q1 q2 : Fl) (hh : Heap) : Ci cfg (.func (.func 52) [] []) [R  q1 eI q.ready, R  q2 eI q.need, .int .i64 q.flip, .int .i64 i, .int .i64 j, .int .i64 a] hh = some (.ret (.int .i64 (enS q i j a)), hh) :=
 Ci_K cfg rfl rfl (by simp) (by simp) (C52 q hq i j hij hj a ha)
theorem C19 (q : QnZ) (hq : qOk q) (G0 : List Nat) (hG : okG q 0 G0) : Kc cfg 19 [R fl0 eI q.ready, R fl0 eI q.need, .int .i64 q.flip, R fl0 eI (intsN G0)] (.ret (.int .i64 (dnG q 0 0 G0))) := by
 have hgl := okG_len hG
 have q1 := hq.1
 have hL0 : (intsN G0).drop 0 = intsN G0 := rfl
 have hLl : (intsN G0).length = G0.length := intsN_len _
 generalize hDD : dnG q 0 0 G0 = DN
 generalize hLe : intsN G0 = L at *
 have hLs : L.length < 1099511627776 := by omega
 refine outS_of_wp cfg (fn := Tryz.f19) Tryz.func19 rfl (by simp [Tryz.f19]) ?_
 simp (disch := first|exact DD|fail) [-getElem?_pos, gZ, gS, Tryz.f19, emptyH]
 repeat' (first|((first|refine wA ?_ ?_|refine wB ?_ ?_)<;>intro hc<;>try simp at hc)|refine wF ?_|refine wY ?_|refine wL ?_|refine owe ?_ fun ho=>?_|(simp (disch := first|exact DD|fail) [emptyH, -getElem?_pos, gZ, gS]))
 refine wp_loopE cfg rfl (fun f0 h0 m fr h => ∃ jj : Nat, ∃ l : Nat, ∃ a : Int, ∃ G : List Nat, fr 0 = f0 0 ∧ fr 1 = f0 1 ∧ fr 2 = f0 2 ∧ fr 3 = f0 3 ∧ fr 9 = .int .i64 a ∧ fr 10 = .int .i64 l ∧ fr 11 = .int .i64 jj ∧ (L.drop jj = intsN G) ∧ (okG q l G) ∧ (dnG q l a G = DN) ∧ (0 ≤ a ∧ a ≤ tmS l) ∧ (jj + m = L.length)) (L.length) _ _ ⟨0, 0, 0, G0, rfl, rfl, rfl, rfl, by first | rfl | (simp; done) | (simp [R]; done) | simp [R], by first | rfl | (simp; done) | (simp [R]; done) | simp [R], by first | rfl | (simp; done) | (simp [R]; done) | simp [R], hLe.symm, hG, hDD, ⟨Int.le_refl _, by unfold tmS; omega⟩, by first | rfl | (simp; done) | omega⟩ ?_
 rintro Am Af Ah ⟨jj, l, a, G, A0, A1, A2, A3, A9, A10, A11, hdr, hok, hdn, hat, hm⟩ Aih
 try simp at A0 A1 A2 A3
 by_cases hj : jj < L.length
 ·cases G with
  | nil => have := congrArg List.length hdr; simp [intsN] at this; omega
  | cons e G =>
   obtain ⟨o1, o2, o3, o4⟩ := hok
   rw [nth_drop hj] at hdr
   have hdr' : nth L jj :: L.drop (jj + 1) = (e : Int) :: intsN G := hdr
   rw [List.cons.injEq] at hdr'
   obtain ⟨hnl, hdr2⟩ := hdr'
   have hen := enS_in hq o1 o2 hat.1
   repeat' (first|((first|refine wA ?_ ?_|refine wB ?_ ?_)<;>intro hc<;>try simp at hc)|refine wF ?_|refine wY ?_|refine wL ?_|refine owe ?_ fun ho=>?_|(simp (disch := first|exact DD|fail) [A0, A1, A2, A3, A9, A10, A11, eI, hnl, hq, o1, o2, hat, -getElem?_pos, gZ, gS]))
   all_goals try (exfalso; omega)
   exact Aih (Am - 1) _ _ (by omega) ⟨jj + 1, e, enS q l e a, G, by simp [A0, A1, A2, A3, A9, A10, A11], by simp [A0, A1, A2, A3, A9, A10, A11], by simp [A0, A1, A2, A3, A9, A10, A11], by simp [A0, A1, A2, A3, A9, A10, A11], by simp [A0, A1, A2, A3, A9, A10, A11], by simp [A0, A1, A2, A3, A9, A10, A11], by simp [A0, A1, A2, A3, A9, A10, A11], hdr2, o4, hdn, ⟨hen.1, by (unfold tmS at hat ⊢; exact hen.2 hat.2)⟩, by omega⟩
 ·have hG0 : G = [] := by
   rw [List.drop_eq_nil_of_le (by omega)] at hdr
   cases G with
   | nil => rfl
   | cons e G => cases hdr
  subst hG0
  have hdn : a = DN := hdn
  subst hdn
  repeat' (first|((first|refine wA ?_ ?_|refine wB ?_ ?_)<;>intro hc<;>try simp at hc)|refine wF ?_|refine wY ?_|refine wL ?_|refine owe ?_ fun ho=>?_|(simp (disch := first|exact DD|fail) [A0, A1, A2, A3, A9, A10, A11, -getElem?_pos, gZ, gS]))
@[simp] theorem S19 (q : QnZ) (hq : qOk q) (G0 : List Nat) (hG : okG q 0 G0) (q1 q2 q3 : Fl) (hh : Heap) : Ci cfg (.func (.func 19) [] []) [R  q1 eI q.ready, R  q2 eI q.need, .int .i64 q.flip, R  q3 eI (intsN G0)] hh = some (.ret (.int .i64 (dnG q 0 0 G0)), hh) :=
 Ci_K cfg rfl rfl (by simp) (by simp) (C19 q hq G0 hG)
theorem C17 (q : QnZ) (hq : qOk q) (G0 : List Nat) (hG : okG q 0 G0) : Kc cfg 17 [.int .i64 q.ready.length, .int .i64 q.most, R fl0 eI (intsN G0)] (.ret (.bool true)) := by
 have hgl := okG_len hG
 have q1 := hq.1
 have hmo := hq.2.2.1
 have hmo2 := hq.2.2.2.1
 have hLl : (intsN G0).length = G0.length := intsN_len _
 generalize hLe : intsN G0 = L at *
 have hLs : L.length < 1099511627776 := by omega
 refine outS_of_wp cfg (fn := Tryz.f17) Tryz.func17 rfl (by simp [Tryz.f17]) ?_
 simp (disch := first|exact DD|fail) [-getElem?_pos, gZ, gS, Tryz.f17, emptyH]
 repeat' (first|((first|refine wA ?_ ?_|refine wB ?_ ?_)<;>intro hc<;>try simp at hc)|refine wF ?_|refine wY ?_|refine wL ?_|refine owe ?_ fun ho=>?_|(simp (disch := first|exact DD|fail) [emptyH, -getElem?_pos, gZ, gS]))
 refine wp_loopE cfg rfl (fun f0 h0 m fr h => ∃ jj : Nat, ∃ l : Nat, ∃ G : List Nat, fr 0 = f0 0 ∧ fr 1 = f0 1 ∧ fr 2 = f0 2 ∧ fr 7 = .int .i64 l ∧ fr 8 = .int .i64 jj ∧ (L.drop jj = intsN G) ∧ (okG q l G) ∧ (l ≤ 64) ∧ (jj + m = L.length)) (L.length) _ _ ⟨0, 0, G0, rfl, rfl, rfl, by first | rfl | (simp; done) | (simp [R]; done) | simp [R], by first | rfl | (simp; done) | (simp [R]; done) | simp [R], hLe.symm, hG, Nat.zero_le _, by first | rfl | (simp; done) | omega⟩ ?_
 rintro Am Af Ah ⟨jj, l, G, A0, A1, A2, A7, A8, hdr, hok, hl, hm⟩ Aih
 try simp at A0 A1 A2
 by_cases hj : jj < L.length
 ·cases G with
  | nil => have := congrArg List.length hdr; simp [intsN] at this; omega
  | cons e G =>
   obtain ⟨o1, o2, o3, o4⟩ := hok
   rw [nth_drop hj] at hdr
   have hdr' : nth L jj :: L.drop (jj + 1) = (e : Int) :: intsN G := hdr
   rw [List.cons.injEq] at hdr'
   obtain ⟨hnl, hdr2⟩ := hdr'
   unfold loS at o3
   have c1 : ((e : Int) ≤ l) = False := eq_false (by omega)
   have c2 : ((q.ready.length : Int) < e) = False := eq_false (by omega)
   have c3 : (q.most < (e : Int) - l) = False := eq_false (by omega)
   repeat' (first|((first|refine wA ?_ ?_|refine wB ?_ ?_)<;>intro hc<;>try simp at hc)|refine wF ?_|refine wY ?_|refine wL ?_|refine owe ?_ fun ho=>?_|(simp (disch := first|exact DD|fail) [A0, A1, A2, A7, A8, eI, hnl, c1, c2, c3, -getElem?_pos, gZ, gS]))
   all_goals try (exfalso; omega)
   exact Aih (Am - 1) _ _ (by omega) ⟨jj + 1, e, G, by simp [A0, A1, A2, A7, A8], by simp [A0, A1, A2, A7, A8], by simp [A0, A1, A2, A7, A8], by simp [A0, A1, A2, A7, A8], by simp [A0, A1, A2, A7, A8], hdr2, o4, by omega, by omega⟩
 ·have hG0 : G = [] := by
   rw [List.drop_eq_nil_of_le (by omega)] at hdr
   cases G with
   | nil => rfl
   | cons e G => cases hdr
  subst hG0
  obtain rfl : l = q.ready.length := hok
  repeat' (first|((first|refine wA ?_ ?_|refine wB ?_ ?_)<;>intro hc<;>try simp at hc)|refine wF ?_|refine wY ?_|refine wL ?_|refine owe ?_ fun ho=>?_|(simp (disch := first|exact DD|fail) [A0, A1, A2, A7, A8, -getElem?_pos, gZ, gS]))
@[simp] theorem S17 (q : QnZ) (hq : qOk q) (G0 : List Nat) (hG : okG q 0 G0) (q1 : Fl) (hh : Heap) : Ci cfg (.func (.func 17) [] []) [.int .i64 q.ready.length, .int .i64 q.most, R  q1 eI (intsN G0)] hh = some (.ret (.bool true), hh) :=
 Ci_K cfg rfl rfl (by simp) (by simp) (C17 q hq G0 hG)
end Go.Ab
