
import Derived.Test.YtlmhbemgaikmaaaGreatDoorGr14
set_option linter.unusedVariables false
set_option linter.unusedSimpArgs false
set_option linter.unusedSectionVars false
set_option linter.deprecated false
namespace Go.Ab
open Go.Proofs
set_option maxRecDepth 100000
set_option maxHeartbeats 8000000
theorem Lev_true (l : List Int) (hs : l.length < 1099511627776) : Kc cfg 47 [R fl0 eI l, .bool true] (.ret (.tuple [R fl0 eI (levS l true).1, .int .i64 (levS l true).2])) := by
 by_cases hlong : 4096 < l.length
 ·have hL : levS l true = ([], 2) := by unfold levS; rw [if_pos hlong]
  rw [hL]
  refine outS_of_wp cfg (fn := Tryz.f47) Tryz.func47 rfl (by simp [Tryz.f47]) ?_
  simp (disch := first | assumption | omega | (simp; done) | (simp; omega)) [-getElem?_pos, gZ, gS, Tryz.f47, emptyH]
  repeat' (first|((first|refine wA ?_ ?_|refine wB ?_ ?_)<;>intro hc<;>try simp at hc)|refine wF ?_|refine wY ?_|refine wL ?_|refine owe ?_ fun ho=>?_|(simp (disch := first | assumption | omega | (simp; done) | (simp; omega)) [emptyH, -getElem?_pos, gZ, gS]))
  all_goals first | rfl | (exfalso; omega)
 by_cases hl0 : l = []
 ·subst hl0
  have hL : levS [] true = ([], 0) := by unfold levS; rfl
  rw [hL]
  refine outS_of_wp cfg (fn := Tryz.f47) Tryz.func47 rfl (by simp [Tryz.f47]) ?_
  simp (disch := first | assumption | omega | (simp; done) | (simp; omega)) [-getElem?_pos, gZ, gS, Tryz.f47, emptyH]
  repeat' (first | (refine wp_unroll rfl ?_) | ((first | refine wA ?_ ?_ | refine wB ?_ ?_) <;> intro hc <;> try simp at hc) | refine wF ?_ | refine wY ?_ | refine wL ?_ | refine owe ?_ fun ho => ?_ | (simp (disch := first | assumption | omega | (simp; done) | (simp; omega)) [emptyH, eqV_nn, Tryz.f49, Tryz.f74, Tryz.f96, -getElem?_pos, gZ, gS]))
  all_goals rfl
 have hn0 : 0 < l.length := List.length_pos_iff.2 hl0
 have hL : levS l true = if okK l = true then (lvL (baseF true) (rawL true l), 0) else ([], 90) := by unfold levS; rw [if_neg hlong]
 generalize hLS : levS l true = LS at *
 refine outS_of_wp cfg (fn := Tryz.f47) Tryz.func47 rfl (by simp [Tryz.f47]) ?_
 simp (disch := first | assumption | omega | (simp; done) | (simp; omega)) [-getElem?_pos, gZ, gS, Tryz.f47, emptyH]
 repeat' (first|((first|refine wA ?_ ?_|refine wB ?_ ?_)<;>intro hc<;>try simp at hc)|refine wF ?_|refine wY ?_|refine wL ?_|refine owe ?_ fun ho=>?_|(simp (disch := first | assumption | omega | (simp; done) | (simp; omega)) [emptyH, -getElem?_pos, gZ, gS]))
 refine wp_loopE cfg rfl (fun f0 h0 m fr h => ∃ i : Nat, ∃ fl : Fl, fr 0 = f0 0 ∧ fr 1 = f0 1 ∧ fr 4 = f0 4 ∧ fr 5 = f0 5 ∧ fr 6 = f0 6 ∧ fr 7 = f0 7 ∧ fr 8 = f0 8 ∧ fr 22 = f0 22 ∧ fr 23 = f0 23 ∧ fr 24 = .int .i64 i ∧ (h.bs = h0.bs.set 3 (.cells [R fl eI (rawL true (l.take i))])) ∧ (App h.ts 1 fl) ∧ (i + m = l.length) ∧ (∀ j, j < i → (kindG (nth l j)).2 = 0) ∧ (0 < i → ∃ k, fl = (false, false, some k))) (l.length) _ _ ⟨0, (true, true, none), rfl, rfl, rfl, rfl, rfl, rfl, rfl, rfl, rfl, by first | rfl | (simp; done) | (simp [R]; done) | simp [R], by simp [rawL]; rfl, App.nil _ _ _, by first | rfl | (simp; done) | omega, fun j hj => by omega, fun h => by omega⟩ ?_
 rintro Am Af Ah ⟨i, fl, A0, A1, A4, A5, A6, A7, A8, A22, A23, A24, hb, hap, hm, hok, hfl⟩ Aih
 try simp at A0 A1 A4 A5 A6 A7 A8 A22 A23
 simp at hb
 by_cases hi : i < l.length
 ·by_cases hk : (kindG (nth l i)).2 = 0
  ·have hlen : (rawL true (l.take i)).length ≤ i := by rw [rawL_len]; simp; omega
   have htk := rawL_take (right := true) hi
   rcases kind_range hk with hkk | hkk | hkk | hkk | hkk
   all_goals
    rw [hkk] at htk
    first
     | rw [strong_0] at htk
     | rw [strong_1] at htk
     | rw [strong_2] at htk
     | rw [strong_3] at htk
     | rw [strong_4] at htk
    repeat' (first|((first|refine wA ?_ ?_|refine wB ?_ ?_)<;>intro hc<;>try simp at hc)|refine wF ?_|refine wY ?_|refine wL ?_|refine owe ?_ fun ho=>?_|(simp (disch := first | assumption | omega | (simp; done) | (simp; omega)) [A0, A1, A4, A5, A6, A7, A8, A22, A23, A24, hb, eI, hk, hkk, fold_I1, -getElem?_pos, gZ, gS]))
    exact Aih (Am - 1) _ _ (by omega) ⟨i + 1, _, by simp [A0, A1, A4, A5, A6, A7, A8, A22, A23, A24, hb, htk], by simp [A0, A1, A4, A5, A6, A7, A8, A22, A23, A24, hb, htk], by simp [A0, A1, A4, A5, A6, A7, A8, A22, A23, A24, hb, htk], by simp [A0, A1, A4, A5, A6, A7, A8, A22, A23, A24, hb, htk], by simp [A0, A1, A4, A5, A6, A7, A8, A22, A23, A24, hb, htk], by simp [A0, A1, A4, A5, A6, A7, A8, A22, A23, A24, hb, htk], by simp [A0, A1, A4, A5, A6, A7, A8, A22, A23, A24, hb, htk], by simp [A0, A1, A4, A5, A6, A7, A8, A22, A23, A24, hb, htk], by simp [A0, A1, A4, A5, A6, A7, A8, A22, A23, A24, hb, htk], by simp [A0, A1, A4, A5, A6, A7, A8, A22, A23, A24, hb, htk], (by simp [hb, htk]), App.new _ _ _, by omega, (fun j hj => by (by_cases e : j = i; (subst e; exact hk); exact hok j (by omega))), fun _ => ⟨_, rfl⟩⟩
  ·rw [okK_false hi hk] at hL
   simp at hL
   have hke := kind_err hk
   repeat' (first|((first|refine wA ?_ ?_|refine wB ?_ ?_)<;>intro hc<;>try simp at hc)|refine wF ?_|refine wY ?_|refine wL ?_|refine owe ?_ fun ho=>?_|(simp (disch := first | assumption | omega | (simp; done) | (simp; omega)) [A0, A1, A4, A5, A6, A7, A8, A22, A23, A24, hb, eI, hk, hke, -getElem?_pos, gZ, gS]))
   rw [hL]; exact ⟨rfl, rfl⟩
 rw [okK_true (fun j hj => hok j (by omega)), if_pos rfl] at hL
 have h1 : l.take i = l := List.take_of_length_le (by omega)
 rw [h1] at hb
 obtain ⟨tk, rfl⟩ := hfl (by omega)
 have hrl := rawL_len true l
 have hg := fun j (hj : j < l.length) => raw_neg (right := true) hj
 rw [← hrl] at hg
 generalize hraw : rawL true l = raw at *
 have hrne : ¬ raw = [] := fun e => by rw [e] at hrl; simp at hrl; omega
 have hapB : ∀ h fl2, appendV Tryz.prog h true #[36, 36] (R (false, true, none) eI []) (R fl2 eI raw) = some (.slice h.bs.length 0 raw.length 1, newB h (.cells (tab raw.length (cI (nth raw))))) := fun h fl2 => by
  have := append_Bn (P := Tryz.prog) (E := eI) (h := h) (fl := (false, true, none)) (l := ([] : List Int)) (m := raw) (ts := #[36, 36]) (fl2 := fl2) (by kernel_rfl) hrne rfl (by simp; omega)
  simpa [rows_nth'] using this
 have hnl : V.row false true [] 0 none = R (false, true, none) eI [] := rfl
 clear Aih hok hap hfl
 repeat' (first|((first|refine wA ?_ ?_|refine wB ?_ ?_)<;>intro hc<;>try simp at hc)|refine wF ?_|refine wY ?_|refine wL ?_|refine owe ?_ fun ho=>?_|(simp (disch := first | assumption | omega | (simp; done) | (simp; omega)) [A0, A1, A4, A5, A6, A7, A8, A22, A23, A24, hb, eqV_tk, hnl, hapB, Tryz.f49, Tryz.f74, Tryz.f96, -getElem?_pos, gZ, gS]))
 refine wp_loopE cfg rfl (fun f0 h0 m fr h => ∃ i : Nat, ∃ Y : List Blk, fr 0 = f0 0 ∧ fr 1 = f0 1 ∧ fr 2 = f0 2 ∧ fr 4 = .int .i64 i ∧ (h.bs = (h0.bs.set 4 (.cells (tab raw.length (cI (lvT 1 raw i))))) ++ Y) ∧ (i + m = raw.length + 1) ∧ (i = 0 ∨ raw.length < i ∨ gpL raw (i - 1) = false)) (raw.length + 1) _ _ ⟨0, [], rfl, rfl, rfl, by first | rfl | (simp; done) | (simp [R]; done) | simp [R], by simp [lvT_zero], by first | rfl | (simp; done) | omega, by first | rfl | (simp; done) | omega⟩ ?_
 rintro Dm Df Dh ⟨i, Y, D0, D1, D2, D4, hb2, hm2, hst⟩ Dih
 try simp [A0, A1, A4, A5, A6, A7, A8, A22, A23, A24] at D0 D1 D2
 simp at hb2
 by_cases hi2 : i < raw.length
 ·repeat' (first|((first|refine wA ?_ ?_|refine wB ?_ ?_)<;>intro hc<;>try simp at hc)|refine wF ?_|refine wY ?_|refine wL ?_|refine owe ?_ fun ho=>?_|(simp (disch := first | assumption | omega | (simp; done) | (simp; omega)) [D0, D1, D2, D4, hb2, eI, -getElem?_pos, gZ, gS]))
  refine wp_loopE cfg rfl (fun f0 h0 m fr h => ∃ q : Nat, fr 0 = f0 0 ∧ fr 1 = f0 1 ∧ fr 2 = f0 2 ∧ fr 5 = f0 5 ∧ fr 4 = .int .i64 q ∧ h.bs = h0.bs ∧ (i ≤ q ∧ q ≤ raw.length) ∧ (q + m = raw.length) ∧ (∀ j, i ≤ j → j < q → gpL raw j = true)) (raw.length - i) _ _ ⟨i, rfl, rfl, rfl, rfl, by simp [D4], rfl, by first | rfl | (simp; done) | omega, by first | rfl | (simp; done) | omega, fun j h1 h2 => by omega⟩ ?_
  rintro Em Ef Eh ⟨q, E0, E1, E2, E5, E4, Ebs, hq, hm3, hall⟩ Eih
  try simp [D0, D1, D2, D4, A0, A1, A4, A5, A6, A7, A8, A22, A23, A24] at E0 E1 E2 E5 Ebs
  simp [hb2] at Ebs
  by_cases hgo : q < raw.length ∧ gpL raw q = true
  ·have hgq := hg q hgo.1
   rw [hgo.2] at hgq
   have hq1 := hgo.1
   repeat' (first|((first|refine wA ?_ ?_|refine wB ?_ ?_)<;>intro hc<;>try simp at hc)|refine wF ?_|refine wY ?_|refine wL ?_|refine owe ?_ fun ho=>?_|(simp (config := { maxSteps := 2000000 }) (disch := first | assumption | omega | (simp; done) | (simp; omega)) [E0, E1, E2, E5, E4, Ebs, D0, D1, D2, D4, A0, A1, A4, A5, A6, A7, A8, A22, A23, A24, eI, Cgap, hgq, -getElem?_pos, gZ, gS]))
   exact Eih (Em - 1) _ _ (by omega) ⟨q + 1, by simp [E0, E1, E2, E5, E4, Ebs, D0, D1, D2, D4, A0, A1, A4, A5, A6, A7, A8, A22, A23, A24, hb2], by simp [E0, E1, E2, E5, E4, Ebs, D0, D1, D2, D4, A0, A1, A4, A5, A6, A7, A8, A22, A23, A24, hb2], by simp [E0, E1, E2, E5, E4, Ebs, D0, D1, D2, D4, A0, A1, A4, A5, A6, A7, A8, A22, A23, A24, hb2], by simp [E0, E1, E2, E5, E4, Ebs, D0, D1, D2, D4, A0, A1, A4, A5, A6, A7, A8, A22, A23, A24, hb2], by simp [E0, E1, E2, E5, E4, Ebs, D0, D1, D2, D4, A0, A1, A4, A5, A6, A7, A8, A22, A23, A24, hb2], by simp [E0, E1, E2, E5, E4, Ebs, D0, D1, D2, D4, A0, A1, A4, A5, A6, A7, A8, A22, A23, A24, hb2], by omega, by omega, (fun j h1 h2 => by (by_cases e : j = q; (subst e; exact hgo.2); exact hall j h1 (by omega)))⟩
  have hstop : q < raw.length → gpL raw q = false := fun h => by
   cases h2 : gpL raw q with
   | false => rfl
   | true => exact absurd ⟨h, h2⟩ hgo
  by_cases hiq : i < q
  ·have hst2 : i = 0 ∨ gpL raw (i - 1) = false := by
    rcases hst with h | h | h
    ·exact .inl h
    ·omega
    ·exact .inr h
   have r : Run (gpL raw) raw.length i q := ⟨hiq, hq.2, hall, hst2, by (rcases Nat.lt_or_ge q raw.length with h | h; exact .inr (hstop h); exact .inl (by omega))⟩
   have hlev := fun j h1 h2 => lev_gap (base := 1) r (i := j) h1 h2
   have hi1 : ((i : Int) - 1).toNat = i - 1 := by omega
   have hil : i - 1 < raw.length := by omega
   by_cases c1 : 0 < i
   ·by_cases c2 : q < raw.length
    ·have hgq := hg q c2
     rw [hstop c2] at hgq
     by_cases c3 : nth raw (i - 1) = nth raw q
     ·rw [if_pos ⟨c1, c2, c3⟩] at hlev
      have c4 : (nth raw (i - 1) == nth raw q) = true := by rw [c3]; simp
      repeat' (first|((first|refine wA ?_ ?_|refine wB ?_ ?_)<;>intro hc<;>try simp at hc)|refine wF ?_|refine wY ?_|refine wL ?_|refine owe ?_ fun ho=>?_|(simp (config := { maxSteps := 2000000 }) (disch := first | assumption | omega | (simp; done) | (simp; omega)) [E0, E1, E2, E5, E4, Ebs, D0, D1, D2, D4, A0, A1, A4, A5, A6, A7, A8, A22, A23, A24, eI, Cgap, hgq, hi1, c4, -getElem?_pos, gZ, gS]))
      refine wp_loopE cfg rfl (fun f0 h0 m fr h => ∃ t : Nat, fr 4 = f0 4 ∧ fr 13 = f0 13 ∧ fr 14 = f0 14 ∧ fr 15 = .int .i64 t ∧ (h.bs = h0.bs.set 4 (.cells (tab raw.length (cI (lvT 1 raw t))))) ∧ (t + m = q) ∧ (i ≤ t)) (q - i) _ _ ⟨i, rfl, rfl, rfl, by first | rfl | (simp; done) | (simp [R]; done) | simp [R], by simp, by first | rfl | (simp; done) | omega, by first | rfl | (simp; done) | omega⟩ ?_
      rintro Fm Ff Fh ⟨t, F4, F13, F14, F15, hb4, hm4, ht4⟩ Fih
      try simp [E0, E1, E2, E5, E4, Ebs, D0, D1, D2, D4, A0, A1, A4, A5, A6, A7, A8, A22, A23, A24] at F4 F13 F14
      simp at hb4
      by_cases htq : t < q
      ·have hset := lvT_set (hlev t ht4 htq)
       have htl : t < raw.length := by omega
       repeat' (first|((first|refine wA ?_ ?_|refine wB ?_ ?_)<;>intro hc<;>try simp at hc)|refine wF ?_|refine wY ?_|refine wL ?_|refine owe ?_ fun ho=>?_|(simp (config := { maxSteps := 2000000 }) (disch := first | assumption | omega | (simp; done) | (simp; omega)) [F4, F13, F14, F15, E0, E1, E2, E5, E4, Ebs, D0, D1, D2, D4, A0, A1, A4, A5, A6, A7, A8, A22, A23, A24, hb4, eI, tab_set, tab_get1, -getElem?_pos, gZ, gS]))
       exact Fih (Fm - 1) _ _ (by omega) ⟨t + 1, by simp [F4, F13, F14, F15, E0, E1, E2, E5, E4, Ebs, D0, D1, D2, D4, A0, A1, A4, A5, A6, A7, A8, A22, A23, A24, hset, hb4], by simp [F4, F13, F14, F15, E0, E1, E2, E5, E4, Ebs, D0, D1, D2, D4, A0, A1, A4, A5, A6, A7, A8, A22, A23, A24, hset, hb4], by simp [F4, F13, F14, F15, E0, E1, E2, E5, E4, Ebs, D0, D1, D2, D4, A0, A1, A4, A5, A6, A7, A8, A22, A23, A24, hset, hb4], by simp [F4, F13, F14, F15, E0, E1, E2, E5, E4, Ebs, D0, D1, D2, D4, A0, A1, A4, A5, A6, A7, A8, A22, A23, A24, hset, hb4], (by simp [hset, hb4]), by omega, by omega⟩
      ·obtain rfl : t = q := by omega
       have hown := lvT_own (base := 1) hstop
       repeat' (first|((first|refine wA ?_ ?_|refine wB ?_ ?_)<;>intro hc<;>try simp at hc)|refine wF ?_|refine wY ?_|refine wL ?_|refine owe ?_ fun ho=>?_|(simp (config := { maxSteps := 2000000 }) (disch := first | assumption | omega | (simp; done) | (simp; omega)) [F4, F13, F14, F15, E0, E1, E2, E5, E4, Ebs, D0, D1, D2, D4, A0, A1, A4, A5, A6, A7, A8, A22, A23, A24, hb4, -getElem?_pos, gZ, gS]))
       exact Dih (raw.length - t) _ _ (by omega) ⟨t + 1, Y ++ [.cells [.int .i64 i, .int .i64 t]], by simp [F4, F13, F14, F15, E0, E1, E2, E5, E4, Ebs, D0, D1, D2, D4, A0, A1, A4, A5, A6, A7, A8, A22, A23, A24, hown, hb4], by simp [F4, F13, F14, F15, E0, E1, E2, E5, E4, Ebs, D0, D1, D2, D4, A0, A1, A4, A5, A6, A7, A8, A22, A23, A24, hown, hb4], by simp [F4, F13, F14, F15, E0, E1, E2, E5, E4, Ebs, D0, D1, D2, D4, A0, A1, A4, A5, A6, A7, A8, A22, A23, A24, hown, hb4], by simp [F4, F13, F14, F15, E0, E1, E2, E5, E4, Ebs, D0, D1, D2, D4, A0, A1, A4, A5, A6, A7, A8, A22, A23, A24, hown, hb4], (by simp [hown, hb4]), by omega, (by rcases Nat.lt_or_ge t raw.length with h | h; exact .inr (.inr (by simpa using hstop h)); exact .inr (.inl (by omega)))⟩
     ·rw [if_neg (fun x => c3 x.2.2)] at hlev
      have c4 : (nth raw (i - 1) == nth raw q) = false := by rw [beq_eq_false_iff_ne]; exact c3
      repeat' (first|((first|refine wA ?_ ?_|refine wB ?_ ?_)<;>intro hc<;>try simp at hc)|refine wF ?_|refine wY ?_|refine wL ?_|refine owe ?_ fun ho=>?_|(simp (config := { maxSteps := 2000000 }) (disch := first | assumption | omega | (simp; done) | (simp; omega)) [E0, E1, E2, E5, E4, Ebs, D0, D1, D2, D4, A0, A1, A4, A5, A6, A7, A8, A22, A23, A24, eI, Cgap, hgq, hi1, c4, -getElem?_pos, gZ, gS]))
      refine wp_loopE cfg rfl (fun f0 h0 m fr h => ∃ t : Nat, fr 4 = f0 4 ∧ fr 13 = f0 13 ∧ fr 14 = f0 14 ∧ fr 15 = .int .i64 t ∧ (h.bs = h0.bs.set 4 (.cells (tab raw.length (cI (lvT 1 raw t))))) ∧ (t + m = q) ∧ (i ≤ t)) (q - i) _ _ ⟨i, rfl, rfl, rfl, by first | rfl | (simp; done) | (simp [R]; done) | simp [R], by simp, by first | rfl | (simp; done) | omega, by first | rfl | (simp; done) | omega⟩ ?_
      rintro Fm Ff Fh ⟨t, F4, F13, F14, F15, hb4, hm4, ht4⟩ Fih
      try simp [E0, E1, E2, E5, E4, Ebs, D0, D1, D2, D4, A0, A1, A4, A5, A6, A7, A8, A22, A23, A24] at F4 F13 F14
      simp at hb4
      by_cases htq : t < q
      ·have hset := lvT_set (hlev t ht4 htq)
       have htl : t < raw.length := by omega
       repeat' (first|((first|refine wA ?_ ?_|refine wB ?_ ?_)<;>intro hc<;>try simp at hc)|refine wF ?_|refine wY ?_|refine wL ?_|refine owe ?_ fun ho=>?_|(simp (config := { maxSteps := 2000000 }) (disch := first | assumption | omega | (simp; done) | (simp; omega)) [F4, F13, F14, F15, E0, E1, E2, E5, E4, Ebs, D0, D1, D2, D4, A0, A1, A4, A5, A6, A7, A8, A22, A23, A24, hb4, eI, tab_set, tab_get1, -getElem?_pos, gZ, gS]))
       exact Fih (Fm - 1) _ _ (by omega) ⟨t + 1, by simp [F4, F13, F14, F15, E0, E1, E2, E5, E4, Ebs, D0, D1, D2, D4, A0, A1, A4, A5, A6, A7, A8, A22, A23, A24, hset, hb4], by simp [F4, F13, F14, F15, E0, E1, E2, E5, E4, Ebs, D0, D1, D2, D4, A0, A1, A4, A5, A6, A7, A8, A22, A23, A24, hset, hb4], by simp [F4, F13, F14, F15, E0, E1, E2, E5, E4, Ebs, D0, D1, D2, D4, A0, A1, A4, A5, A6, A7, A8, A22, A23, A24, hset, hb4], by simp [F4, F13, F14, F15, E0, E1, E2, E5, E4, Ebs, D0, D1, D2, D4, A0, A1, A4, A5, A6, A7, A8, A22, A23, A24, hset, hb4], (by simp [hset, hb4]), by omega, by omega⟩
      ·obtain rfl : t = q := by omega
       have hown := lvT_own (base := 1) hstop
       repeat' (first|((first|refine wA ?_ ?_|refine wB ?_ ?_)<;>intro hc<;>try simp at hc)|refine wF ?_|refine wY ?_|refine wL ?_|refine owe ?_ fun ho=>?_|(simp (config := { maxSteps := 2000000 }) (disch := first | assumption | omega | (simp; done) | (simp; omega)) [F4, F13, F14, F15, E0, E1, E2, E5, E4, Ebs, D0, D1, D2, D4, A0, A1, A4, A5, A6, A7, A8, A22, A23, A24, hb4, -getElem?_pos, gZ, gS]))
       exact Dih (raw.length - t) _ _ (by omega) ⟨t + 1, Y ++ [.cells [.int .i64 i, .int .i64 t]], by simp [F4, F13, F14, F15, E0, E1, E2, E5, E4, Ebs, D0, D1, D2, D4, A0, A1, A4, A5, A6, A7, A8, A22, A23, A24, hown, hb4], by simp [F4, F13, F14, F15, E0, E1, E2, E5, E4, Ebs, D0, D1, D2, D4, A0, A1, A4, A5, A6, A7, A8, A22, A23, A24, hown, hb4], by simp [F4, F13, F14, F15, E0, E1, E2, E5, E4, Ebs, D0, D1, D2, D4, A0, A1, A4, A5, A6, A7, A8, A22, A23, A24, hown, hb4], by simp [F4, F13, F14, F15, E0, E1, E2, E5, E4, Ebs, D0, D1, D2, D4, A0, A1, A4, A5, A6, A7, A8, A22, A23, A24, hown, hb4], (by simp [hown, hb4]), by omega, (by rcases Nat.lt_or_ge t raw.length with h | h; exact .inr (.inr (by simpa using hstop h)); exact .inr (.inl (by omega)))⟩
    ·rw [if_neg (fun x => c2 x.2.1)] at hlev
     repeat' (first|((first|refine wA ?_ ?_|refine wB ?_ ?_)<;>intro hc<;>try simp at hc)|refine wF ?_|refine wY ?_|refine wL ?_|refine owe ?_ fun ho=>?_|(simp (config := { maxSteps := 2000000 }) (disch := first | assumption | omega | (simp; done) | (simp; omega)) [E0, E1, E2, E5, E4, Ebs, D0, D1, D2, D4, A0, A1, A4, A5, A6, A7, A8, A22, A23, A24, eI, Cgap, hi1, -getElem?_pos, gZ, gS]))
     refine wp_loopE cfg rfl (fun f0 h0 m fr h => ∃ t : Nat, fr 4 = f0 4 ∧ fr 13 = f0 13 ∧ fr 14 = f0 14 ∧ fr 15 = .int .i64 t ∧ (h.bs = h0.bs.set 4 (.cells (tab raw.length (cI (lvT 1 raw t))))) ∧ (t + m = q) ∧ (i ≤ t)) (q - i) _ _ ⟨i, rfl, rfl, rfl, by first | rfl | (simp; done) | (simp [R]; done) | simp [R], by simp, by first | rfl | (simp; done) | omega, by first | rfl | (simp; done) | omega⟩ ?_
     rintro Fm Ff Fh ⟨t, F4, F13, F14, F15, hb4, hm4, ht4⟩ Fih
     try simp [E0, E1, E2, E5, E4, Ebs, D0, D1, D2, D4, A0, A1, A4, A5, A6, A7, A8, A22, A23, A24] at F4 F13 F14
     simp at hb4
     by_cases htq : t < q
     ·have hset := lvT_set (hlev t ht4 htq)
      have htl : t < raw.length := by omega
      repeat' (first|((first|refine wA ?_ ?_|refine wB ?_ ?_)<;>intro hc<;>try simp at hc)|refine wF ?_|refine wY ?_|refine wL ?_|refine owe ?_ fun ho=>?_|(simp (config := { maxSteps := 2000000 }) (disch := first | assumption | omega | (simp; done) | (simp; omega)) [F4, F13, F14, F15, E0, E1, E2, E5, E4, Ebs, D0, D1, D2, D4, A0, A1, A4, A5, A6, A7, A8, A22, A23, A24, hb4, eI, tab_set, tab_get1, -getElem?_pos, gZ, gS]))
      exact Fih (Fm - 1) _ _ (by omega) ⟨t + 1, by simp [F4, F13, F14, F15, E0, E1, E2, E5, E4, Ebs, D0, D1, D2, D4, A0, A1, A4, A5, A6, A7, A8, A22, A23, A24, hset, hb4], by simp [F4, F13, F14, F15, E0, E1, E2, E5, E4, Ebs, D0, D1, D2, D4, A0, A1, A4, A5, A6, A7, A8, A22, A23, A24, hset, hb4], by simp [F4, F13, F14, F15, E0, E1, E2, E5, E4, Ebs, D0, D1, D2, D4, A0, A1, A4, A5, A6, A7, A8, A22, A23, A24, hset, hb4], by simp [F4, F13, F14, F15, E0, E1, E2, E5, E4, Ebs, D0, D1, D2, D4, A0, A1, A4, A5, A6, A7, A8, A22, A23, A24, hset, hb4], (by simp [hset, hb4]), by omega, by omega⟩
     ·obtain rfl : t = q := by omega
      have hown := lvT_own (base := 1) hstop
      repeat' (first|((first|refine wA ?_ ?_|refine wB ?_ ?_)<;>intro hc<;>try simp at hc)|refine wF ?_|refine wY ?_|refine wL ?_|refine owe ?_ fun ho=>?_|(simp (config := { maxSteps := 2000000 }) (disch := first | assumption | omega | (simp; done) | (simp; omega)) [F4, F13, F14, F15, E0, E1, E2, E5, E4, Ebs, D0, D1, D2, D4, A0, A1, A4, A5, A6, A7, A8, A22, A23, A24, hb4, -getElem?_pos, gZ, gS]))
      exact Dih (raw.length - t) _ _ (by omega) ⟨t + 1, Y ++ [.cells [.int .i64 i, .int .i64 t]], by simp [F4, F13, F14, F15, E0, E1, E2, E5, E4, Ebs, D0, D1, D2, D4, A0, A1, A4, A5, A6, A7, A8, A22, A23, A24, hown, hb4], by simp [F4, F13, F14, F15, E0, E1, E2, E5, E4, Ebs, D0, D1, D2, D4, A0, A1, A4, A5, A6, A7, A8, A22, A23, A24, hown, hb4], by simp [F4, F13, F14, F15, E0, E1, E2, E5, E4, Ebs, D0, D1, D2, D4, A0, A1, A4, A5, A6, A7, A8, A22, A23, A24, hown, hb4], by simp [F4, F13, F14, F15, E0, E1, E2, E5, E4, Ebs, D0, D1, D2, D4, A0, A1, A4, A5, A6, A7, A8, A22, A23, A24, hown, hb4], (by simp [hown, hb4]), by omega, (by rcases Nat.lt_or_ge t raw.length with h | h; exact .inr (.inr (by simpa using hstop h)); exact .inr (.inl (by omega)))⟩
   ·rw [if_neg (fun x => c1 x.1)] at hlev
    by_cases c2 : q < raw.length
    ·have hgq := hg q c2
     rw [hstop c2] at hgq
     repeat' (first|((first|refine wA ?_ ?_|refine wB ?_ ?_)<;>intro hc<;>try simp at hc)|refine wF ?_|refine wY ?_|refine wL ?_|refine owe ?_ fun ho=>?_|(simp (config := { maxSteps := 2000000 }) (disch := first | assumption | omega | (simp; done) | (simp; omega)) [E0, E1, E2, E5, E4, Ebs, D0, D1, D2, D4, A0, A1, A4, A5, A6, A7, A8, A22, A23, A24, eI, Cgap, hgq, -getElem?_pos, gZ, gS]))
     refine wp_loopE cfg rfl (fun f0 h0 m fr h => ∃ t : Nat, fr 4 = f0 4 ∧ fr 13 = f0 13 ∧ fr 14 = f0 14 ∧ fr 15 = .int .i64 t ∧ (h.bs = h0.bs.set 4 (.cells (tab raw.length (cI (lvT 1 raw t))))) ∧ (t + m = q) ∧ (i ≤ t)) (q - i) _ _ ⟨i, rfl, rfl, rfl, by first | rfl | (simp; done) | (simp [R]; done) | simp [R], by simp, by first | rfl | (simp; done) | omega, by first | rfl | (simp; done) | omega⟩ ?_
     rintro Fm Ff Fh ⟨t, F4, F13, F14, F15, hb4, hm4, ht4⟩ Fih
     try simp [E0, E1, E2, E5, E4, Ebs, D0, D1, D2, D4, A0, A1, A4, A5, A6, A7, A8, A22, A23, A24] at F4 F13 F14
     simp at hb4
     by_cases htq : t < q
     ·have hset := lvT_set (hlev t ht4 htq)
      have htl : t < raw.length := by omega
      repeat' (first|((first|refine wA ?_ ?_|refine wB ?_ ?_)<;>intro hc<;>try simp at hc)|refine wF ?_|refine wY ?_|refine wL ?_|refine owe ?_ fun ho=>?_|(simp (config := { maxSteps := 2000000 }) (disch := first | assumption | omega | (simp; done) | (simp; omega)) [F4, F13, F14, F15, E0, E1, E2, E5, E4, Ebs, D0, D1, D2, D4, A0, A1, A4, A5, A6, A7, A8, A22, A23, A24, hb4, eI, tab_set, tab_get1, -getElem?_pos, gZ, gS]))
      exact Fih (Fm - 1) _ _ (by omega) ⟨t + 1, by simp [F4, F13, F14, F15, E0, E1, E2, E5, E4, Ebs, D0, D1, D2, D4, A0, A1, A4, A5, A6, A7, A8, A22, A23, A24, hset, hb4], by simp [F4, F13, F14, F15, E0, E1, E2, E5, E4, Ebs, D0, D1, D2, D4, A0, A1, A4, A5, A6, A7, A8, A22, A23, A24, hset, hb4], by simp [F4, F13, F14, F15, E0, E1, E2, E5, E4, Ebs, D0, D1, D2, D4, A0, A1, A4, A5, A6, A7, A8, A22, A23, A24, hset, hb4], by simp [F4, F13, F14, F15, E0, E1, E2, E5, E4, Ebs, D0, D1, D2, D4, A0, A1, A4, A5, A6, A7, A8, A22, A23, A24, hset, hb4], (by simp [hset, hb4]), by omega, by omega⟩
     ·obtain rfl : t = q := by omega
      have hown := lvT_own (base := 1) hstop
      repeat' (first|((first|refine wA ?_ ?_|refine wB ?_ ?_)<;>intro hc<;>try simp at hc)|refine wF ?_|refine wY ?_|refine wL ?_|refine owe ?_ fun ho=>?_|(simp (config := { maxSteps := 2000000 }) (disch := first | assumption | omega | (simp; done) | (simp; omega)) [F4, F13, F14, F15, E0, E1, E2, E5, E4, Ebs, D0, D1, D2, D4, A0, A1, A4, A5, A6, A7, A8, A22, A23, A24, hb4, -getElem?_pos, gZ, gS]))
      exact Dih (raw.length - t) _ _ (by omega) ⟨t + 1, Y ++ [.cells [.int .i64 i, .int .i64 t]], by simp [F4, F13, F14, F15, E0, E1, E2, E5, E4, Ebs, D0, D1, D2, D4, A0, A1, A4, A5, A6, A7, A8, A22, A23, A24, hown, hb4], by simp [F4, F13, F14, F15, E0, E1, E2, E5, E4, Ebs, D0, D1, D2, D4, A0, A1, A4, A5, A6, A7, A8, A22, A23, A24, hown, hb4], by simp [F4, F13, F14, F15, E0, E1, E2, E5, E4, Ebs, D0, D1, D2, D4, A0, A1, A4, A5, A6, A7, A8, A22, A23, A24, hown, hb4], by simp [F4, F13, F14, F15, E0, E1, E2, E5, E4, Ebs, D0, D1, D2, D4, A0, A1, A4, A5, A6, A7, A8, A22, A23, A24, hown, hb4], (by simp [hown, hb4]), by omega, (by rcases Nat.lt_or_ge t raw.length with h | h; exact .inr (.inr (by simpa using hstop h)); exact .inr (.inl (by omega)))⟩
    ·repeat' (first|((first|refine wA ?_ ?_|refine wB ?_ ?_)<;>intro hc<;>try simp at hc)|refine wF ?_|refine wY ?_|refine wL ?_|refine owe ?_ fun ho=>?_|(simp (config := { maxSteps := 2000000 }) (disch := first | assumption | omega | (simp; done) | (simp; omega)) [E0, E1, E2, E5, E4, Ebs, D0, D1, D2, D4, A0, A1, A4, A5, A6, A7, A8, A22, A23, A24, eI, Cgap, -getElem?_pos, gZ, gS]))
     refine wp_loopE cfg rfl (fun f0 h0 m fr h => ∃ t : Nat, fr 4 = f0 4 ∧ fr 13 = f0 13 ∧ fr 14 = f0 14 ∧ fr 15 = .int .i64 t ∧ (h.bs = h0.bs.set 4 (.cells (tab raw.length (cI (lvT 1 raw t))))) ∧ (t + m = q) ∧ (i ≤ t)) (q - i) _ _ ⟨i, rfl, rfl, rfl, by first | rfl | (simp; done) | (simp [R]; done) | simp [R], by simp, by first | rfl | (simp; done) | omega, by first | rfl | (simp; done) | omega⟩ ?_
     rintro Fm Ff Fh ⟨t, F4, F13, F14, F15, hb4, hm4, ht4⟩ Fih
     try simp [E0, E1, E2, E5, E4, Ebs, D0, D1, D2, D4, A0, A1, A4, A5, A6, A7, A8, A22, A23, A24] at F4 F13 F14
     simp at hb4
     by_cases htq : t < q
     ·have hset := lvT_set (hlev t ht4 htq)
      have htl : t < raw.length := by omega
      repeat' (first|((first|refine wA ?_ ?_|refine wB ?_ ?_)<;>intro hc<;>try simp at hc)|refine wF ?_|refine wY ?_|refine wL ?_|refine owe ?_ fun ho=>?_|(simp (config := { maxSteps := 2000000 }) (disch := first | assumption | omega | (simp; done) | (simp; omega)) [F4, F13, F14, F15, E0, E1, E2, E5, E4, Ebs, D0, D1, D2, D4, A0, A1, A4, A5, A6, A7, A8, A22, A23, A24, hb4, eI, tab_set, tab_get1, -getElem?_pos, gZ, gS]))
      exact Fih (Fm - 1) _ _ (by omega) ⟨t + 1, by simp [F4, F13, F14, F15, E0, E1, E2, E5, E4, Ebs, D0, D1, D2, D4, A0, A1, A4, A5, A6, A7, A8, A22, A23, A24, hset, hb4], by simp [F4, F13, F14, F15, E0, E1, E2, E5, E4, Ebs, D0, D1, D2, D4, A0, A1, A4, A5, A6, A7, A8, A22, A23, A24, hset, hb4], by simp [F4, F13, F14, F15, E0, E1, E2, E5, E4, Ebs, D0, D1, D2, D4, A0, A1, A4, A5, A6, A7, A8, A22, A23, A24, hset, hb4], by simp [F4, F13, F14, F15, E0, E1, E2, E5, E4, Ebs, D0, D1, D2, D4, A0, A1, A4, A5, A6, A7, A8, A22, A23, A24, hset, hb4], (by simp [hset, hb4]), by omega, by omega⟩
     ·obtain rfl : t = q := by omega
      have hown := lvT_own (base := 1) hstop
      repeat' (first|((first|refine wA ?_ ?_|refine wB ?_ ?_)<;>intro hc<;>try simp at hc)|refine wF ?_|refine wY ?_|refine wL ?_|refine owe ?_ fun ho=>?_|(simp (config := { maxSteps := 2000000 }) (disch := first | assumption | omega | (simp; done) | (simp; omega)) [F4, F13, F14, F15, E0, E1, E2, E5, E4, Ebs, D0, D1, D2, D4, A0, A1, A4, A5, A6, A7, A8, A22, A23, A24, hb4, -getElem?_pos, gZ, gS]))
      exact Dih (raw.length - t) _ _ (by omega) ⟨t + 1, Y ++ [.cells [.int .i64 i, .int .i64 t]], by simp [F4, F13, F14, F15, E0, E1, E2, E5, E4, Ebs, D0, D1, D2, D4, A0, A1, A4, A5, A6, A7, A8, A22, A23, A24, hown, hb4], by simp [F4, F13, F14, F15, E0, E1, E2, E5, E4, Ebs, D0, D1, D2, D4, A0, A1, A4, A5, A6, A7, A8, A22, A23, A24, hown, hb4], by simp [F4, F13, F14, F15, E0, E1, E2, E5, E4, Ebs, D0, D1, D2, D4, A0, A1, A4, A5, A6, A7, A8, A22, A23, A24, hown, hb4], by simp [F4, F13, F14, F15, E0, E1, E2, E5, E4, Ebs, D0, D1, D2, D4, A0, A1, A4, A5, A6, A7, A8, A22, A23, A24, hown, hb4], (by simp [hown, hb4]), by omega, (by rcases Nat.lt_or_ge t raw.length with h | h; exact .inr (.inr (by simpa using hstop h)); exact .inr (.inl (by omega)))⟩
  ·obtain rfl : q = i := by omega
   have hgq := hg q hi2
   rw [hstop hi2] at hgq
   have hown := lvT_own (base := 1) (L := raw) (i := q) hstop
   repeat' (first|((first|refine wA ?_ ?_|refine wB ?_ ?_)<;>intro hc<;>try simp at hc)|refine wF ?_|refine wY ?_|refine wL ?_|refine owe ?_ fun ho=>?_|(simp (config := { maxSteps := 2000000 }) (disch := first | assumption | omega | (simp; done) | (simp; omega)) [E0, E1, E2, E5, E4, Ebs, D0, D1, D2, D4, A0, A1, A4, A5, A6, A7, A8, A22, A23, A24, eI, Cgap, hgq, -getElem?_pos, gZ, gS]))
   exact Dih (Dm - 1) _ _ (by omega) ⟨q + 1, Y, by simp [E0, E1, E2, E5, E4, Ebs, D0, D1, D2, D4, A0, A1, A4, A5, A6, A7, A8, A22, A23, A24, hown, Ebs], by simp [E0, E1, E2, E5, E4, Ebs, D0, D1, D2, D4, A0, A1, A4, A5, A6, A7, A8, A22, A23, A24, hown, Ebs], by simp [E0, E1, E2, E5, E4, Ebs, D0, D1, D2, D4, A0, A1, A4, A5, A6, A7, A8, A22, A23, A24, hown, Ebs], by simp [E0, E1, E2, E5, E4, Ebs, D0, D1, D2, D4, A0, A1, A4, A5, A6, A7, A8, A22, A23, A24, hown, Ebs], (by simp [hown, Ebs]), by omega, .inr (.inr (by simpa using hstop hi2))⟩
 ·have hall := lvT_all (base := 1) (L := raw) (i := i) (by omega)
  rw [hall] at hb2
  repeat' (first|((first|refine wA ?_ ?_|refine wB ?_ ?_)<;>intro hc<;>try simp at hc)|refine wF ?_|refine wY ?_|refine wL ?_|refine owe ?_ fun ho=>?_|(simp (config := { maxSteps := 2000000 }) (disch := first | assumption | omega | (simp; done) | (simp; omega)) [D0, D1, D2, D4, A0, A1, A4, A5, A6, A7, A8, A22, A23, A24, hb2, -getElem?_pos, gZ, gS]))
  rw [hL]
  exact outS_slT (E := eI) (L := lvL 1 raw) (by rw [lvL_len]) rfl (fun _ => rfl) (fun _ _ => rfl)
end Go.Ab
