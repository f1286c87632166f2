/- A part of the proof. -/
import Derived.Test.YtlmhbemgaikmaaaGreatDoorGr5
import Derived.Test.YtlmhbemgaikmaaaGreatDoorGr9
set_option linter.unusedVariables false
set_option linter.unusedSimpArgs false
set_option linter.unusedSectionVars false
set_option linter.deprecated false
namespace Go.Ab
open Go.Proofs
set_option maxRecDepth 100000
set_option maxHeartbeats 4000000
theorem LcheckK (f : Font) (hs : f.gs.length < 1099511627776 ∧ f.ks.length < 1099511627776) (b : Code) (hb : b = loopAt Tryz.f55 1) (fr : Nat → V) (h : Heap) (K : List Fr) (Q : Ax → St → Prop)
  (h1 : fr 1 = .ptr 0 0) (h5 : fr 5 = .int .i64 0) (hb0 : h.bs[0]? = some (.cells [R fl0 eG f.gs, .int .i64 f.other, R fl0 eK f.ks]))
  (hin : kAll f.ks = true → ∀ fr' h', fr' 1 = .ptr 0 0 → h'.bs[0]? = some (.cells [R fl0 eG f.gs, .int .i64 f.other, R fl0 eK f.ks]) → dn cfg (.exit 2) ⟨tab 142 fr', h', [], .no, none⟩ K Q)
  (hout : kAll f.ks = false → ∀ fr' h', fr' 2 = .int .i64 110 → dn cfg .ret ⟨tab 142 fr', h', [], .no, none⟩ K Q) :
  wp cfg (.loop b) ⟨tab 142 fr, h, [], .no, none⟩ K Q := by
 subst hb
 simp only [loopAt, codeOf, Tryz.f55, Option.getD_some, loopsOf, List.nil_append, List.append_nil, List.cons_append, List.getD_cons_succ, List.getD_cons_zero]
 refine wp_loopE cfg rfl (fun f0 h0 m fr h => ∃ i : Nat, fr 1 = .ptr 0 0 ∧ fr 5 = .int .i64 i ∧ (h.bs[0]? = some (.cells [R fl0 eG f.gs, .int .i64 f.other, R fl0 eK f.ks])) ∧ (0 < h.bs.length) ∧ (i + m = f.ks.length) ∧ (allTo i (fun i => kOk (nth f.ks i) && kRise f.ks i) = true)) (f.ks.length) _ _ ⟨0, h1, by simpa using h5, hb0, (List.getElem?_eq_some_iff.1 hb0).1, by first | rfl | (simp; done) | omega, by first | rfl | (simp; done) | omega⟩ ?_
 rintro Bm Bf Bh ⟨i, B1, B5, h0, hpos, hm, ht⟩ Bih
 by_cases hi : i < f.ks.length
 ·have hbad : (kOk (nth f.ks i) && kRise f.ks i) = false → kAll f.ks = false := fun h => allTo_false (p := fun i => kOk (nth f.ks i) && kRise f.ks i) i hi h
  have hgo : (kOk (nth f.ks i) && kRise f.ks i) = true → allTo (i + 1) (fun i => kOk (nth f.ks i) && kRise f.ks i) = true := fun h => allTo_next ht h
  have hiff : (kOk (nth f.ks i) && kRise f.ks i) = decide (((0 ≤ (nth f.ks i).a ∧ (nth f.ks i).a ≤ 1114111) ∧ (0 ≤ (nth f.ks i).b ∧ (nth f.ks i).b ≤ 1114111) ∧ -4096 ≤ (nth f.ks i).by' ∧ (nth f.ks i).by' ≤ 4096) ∧ (0 < i → (nth f.ks (i - 1)).a < (nth f.ks i).a ∨ (nth f.ks (i - 1)).a = (nth f.ks i).a ∧ (nth f.ks (i - 1)).b < (nth f.ks i).b)) := by
   unfold kOk kRise; simp
  rw [hiff] at hbad hgo
  simp only [decide_eq_false_iff_not, decide_eq_true_eq] at hbad hgo
  have hl1 : Bh.bs.length ≠ 0 := by omega
  have hx : ∀ b : Blk, (Bh.bs ++ [b])[0]? = some (.cells [R fl0 eG f.gs, .int .i64 f.other, R fl0 eK f.ks]) := fun b => by rw [bs_left hpos, h0]
  have hlst : ∀ b : Blk, (Bh.bs ++ [b])[Bh.bs.length]? = some b := fun b => by simp
  have h4 : 0 < i → (((i : Int) - 1).toNat) = i - 1 := by omega
  repeat' (first|((first|refine wA ?_ ?_|refine wB ?_ ?_)<;>intro hc<;>try simp at hc)|refine wF ?_|refine wY ?_|refine wL ?_|refine owe ?_ fun ho=>?_|(simp (disch := first|exact DD|fail) [B1, B5, h0, hx, hlst, eK, h4, -getElem?_pos, gZ, gS]))
  all_goals first
   | exact hout (hbad (by omega)) _ _ (by simp)
   | exact Bih (Bm - 1) _ _ (by omega) ⟨i + 1, by simp [B1, B5, eK], by simp [B1, B5, eK], hx _, by simp, by omega, hgo (by omega)⟩
 ·have hka : kAll f.ks = true := by
   have : i = f.ks.length := by omega
   rw [this] at ht; exact ht
  repeat' (first|((first|refine wA ?_ ?_|refine wB ?_ ?_)<;>intro hc<;>try simp at hc)|refine wF ?_|refine wY ?_|refine wL ?_|refine owe ?_ fun ho=>?_|(simp (disch := first|exact DD|fail) [B1, B5, h0, -getElem?_pos, gZ, gS]))
  exact hin hka _ _ B1 h0
end Go.Ab
namespace Go.Ab
open Go.Proofs
set_option maxRecDepth 100000
set_option maxHeartbeats 4000000
theorem C55 (f : Font) (hs : f.gs.length < 1099511627776 ∧ f.ks.length < 1099511627776) : Kc cfg 55 [.agg [R fl0 eG f.gs, .int .i64 f.other, R fl0 eK f.ks]] (.ret (.int .i64 (checkS f))) := by
 by_cases hl : 1024 < f.gs.length ∨ 1024 < f.ks.length
 ·rw [checkS_long hl]
  refine outS_of_wp cfg (fn := Tryz.f55) Tryz.func55 rfl (by simp [Tryz.f55]) ?_
  simp (disch := first|exact DD|fail) [-getElem?_pos, gZ, gS, Tryz.f55]
  repeat' (first|((first|refine wA ?_ ?_|refine wB ?_ ?_)<;>intro hc<;>try simp at hc)|refine wF ?_|refine wY ?_|refine wL ?_|refine owe ?_ fun ho=>?_|(simp (disch := first|exact DD|fail) [-getElem?_pos, gZ, gS]))
  all_goals omega
 rw [checkS_short hl]
 by_cases hw : widthN f.other = false
 ·rw [hw]
  refine outS_of_wp cfg (fn := Tryz.f55) Tryz.func55 rfl (by simp [Tryz.f55]) ?_
  simp (disch := first|exact DD|fail) [-getElem?_pos, gZ, gS, Tryz.f55, hw]
  repeat' (first|((first|refine wA ?_ ?_|refine wB ?_ ?_)<;>intro hc<;>try simp at hc)|refine wF ?_|refine wY ?_|refine wL ?_|refine owe ?_ fun ho=>?_|(simp (disch := first|exact DD|fail) [hw, -getElem?_pos, gZ, gS]))
 have hw : widthN f.other = true := by simpa using hw
 rw [hw]
 refine outS_of_wp cfg (fn := Tryz.f55) Tryz.func55 rfl (by simp [Tryz.f55]) ?_
 simp (disch := first|exact DD|fail) [-getElem?_pos, gZ, gS, Tryz.f55, hw]
 repeat' (first|((first|refine wA ?_ ?_|refine wB ?_ ?_)<;>intro hc<;>try simp at hc)|refine wF ?_|refine wY ?_|refine wL ?_|refine owe ?_ fun ho=>?_|(simp (disch := first|exact DD|fail) [hw, -getElem?_pos, gZ, gS]))
 refine LcheckG f hs _ (by kernel_rfl) _ _ _ _ (by simp) (by simp) (by simp) (fun hg fr' h' e1 e0 => ?_) (fun hk fr' h' e2 => ?_)
 ·rw [hg]
  repeat' (first|((first|refine wA ?_ ?_|refine wB ?_ ?_)<;>intro hc<;>try simp at hc)|refine wF ?_|refine wY ?_|refine wL ?_|refine owe ?_ fun ho=>?_|(simp (disch := first|exact DD|fail) [e1, e0, -getElem?_pos, gZ, gS]))
  refine LcheckK f hs _ (by kernel_rfl) _ _ _ _ (by simp [e1]) (by simp) (by simp [e0]) (fun hk fr' h' e1 e0 => ?_) (fun hk fr' h' e2 => ?_)
  ·rw [hk]
   repeat' (first|((first|refine wA ?_ ?_|refine wB ?_ ?_)<;>intro hc<;>try simp at hc)|refine wF ?_|refine wY ?_|refine wL ?_|refine owe ?_ fun ho=>?_|(simp (disch := first|exact DD|fail) [e1, e0, -getElem?_pos, gZ, gS]))
  ·rw [hk]
   repeat' (first|((first|refine wA ?_ ?_|refine wB ?_ ?_)<;>intro hc<;>try simp at hc)|refine wF ?_|refine wY ?_|refine wL ?_|refine owe ?_ fun ho=>?_|(simp (disch := first|exact DD|fail) [e2, -getElem?_pos, gZ, gS]))
 ·rw [hk]
  repeat' (first|((first|refine wA ?_ ?_|refine wB ?_ ?_)<;>intro hc<;>try simp at hc)|refine wF ?_|refine wY ?_|refine wL ?_|refine owe ?_ fun ho=>?_|(simp (disch := first|exact DD|fail) [e2, -getElem?_pos, gZ, gS]))
@[simp] theorem S55 (f : Font) (hs : f.gs.length < 1099511627776 ∧ f.ks.length < 1099511627776) (q1 q2 : Fl) (hh : Heap) : Ci cfg (.func (.func 55) [] []) [.agg [R  q1 eG f.gs, .int .i64 f.other, R  q2 eK f.ks]] hh = some (.ret (.int .i64 (checkS f)), hh) :=
 Ci_K cfg rfl rfl (by simp) (by simp) (C55 f hs)
end Go.Ab
namespace Go.Ab
open Go.Proofs
set_option maxRecDepth 100000
set_option maxHeartbeats 4000000
def gHit (f : Font) (r : Int) (i : Nat) : Bool := decide ((nth f.gs i).lo ≤ r ∧ r ≤ (nth f.gs i).hi)
def kHit (f : Font) (a b : Int) (i : Nat) : Bool := decide ((nth f.ks i).a = a ∧ (nth f.ks i).b = b)
def oneS (f : Font) (r : Int) : Int := match (List.range f.gs.length).find? (gHit f r) with
 | some i => (nth f.gs i).width
 | none => f.other
def nearS (f : Font) (a b : Int) : Int := match (List.range f.ks.length).find? (kHit f a b) with
 | some i => (nth f.ks i).by'
 | none => 0
theorem oneS_at {f : Font} {r : Int} {i : Nat} (hi : i < f.gs.length) (h : gHit f r i = true) (hb : ∀ j, j < i → gHit f r j = false) : oneS f r = (nth f.gs i).width := by
 unfold oneS; rw [findTo_some hi h hb]
theorem oneS_no {f : Font} {r : Int} (h : ∀ i, i < f.gs.length → gHit f r i = false) : oneS f r = f.other := by
 unfold oneS; rw [findTo_none h]
theorem nearS_at {f : Font} {a b : Int} {i : Nat} (hi : i < f.ks.length) (h : kHit f a b i = true) (hb : ∀ j, j < i → kHit f a b j = false) : nearS f a b = (nth f.ks i).by' := by
 unfold nearS; rw [findTo_some hi h hb]
theorem nearS_no {f : Font} {a b : Int} (h : ∀ i, i < f.ks.length → kHit f a b i = false) : nearS f a b = 0 := by
 unfold nearS; rw [findTo_none h]
def addS (f : Font) (l : List Int) (i : Nat) : Int := oneS f (nth l i) - (if 0 < i then nearS f (nth l (i - 1)) (nth l i) else 0)
def wTo (f : Font) (l : List Int) (n : Nat) : Int := sumTo n (addS f l)
theorem wTo_succ (f : Font) (l : List Int) (n : Nat) : wTo f l (n + 1) = wTo f l n + addS f l n := sumTo_succ n _
theorem checkS_ok {f : Font} (h : checkS f = 0) : (f.gs.length ≤ 1024 ∧ f.ks.length ≤ 1024) ∧ (0 ≤ f.other ∧ f.other ≤ 4096) ∧ gAll f.gs = true ∧ kAll f.ks = true := by
 unfold checkS at h
 split at h
 ·cases h
 ·split at h
  ·rename_i h1 h2
   simp only [Bool.and_eq_true, widthN_t] at h2
   exact ⟨by omega, h2.1.1, h2.1.2, h2.2⟩
  ·cases h
theorem oneS_bound {f : Font} (h : checkS f = 0) (r : Int) : 0 ≤ oneS f r ∧ oneS f r ≤ 4096 := by
 obtain ⟨_, h1, h2, _⟩ := checkS_ok h
 unfold oneS
 split
 ·rename_i i hi
  have hil : i < f.gs.length := by simpa using List.mem_of_find?_eq_some hi
  have := allTo_iff.1 h2 i hil
  simp only [Bool.and_eq_true, gOk, decide_eq_true_eq] at this
  omega
 ·exact h1
theorem nearS_bound {f : Font} (h : checkS f = 0) (a b : Int) : -4096 ≤ nearS f a b ∧ nearS f a b ≤ 4096 := by
 obtain ⟨_, _, _, h2⟩ := checkS_ok h
 unfold nearS
 split
 ·rename_i i hi
  have hil : i < f.ks.length := by simpa using List.mem_of_find?_eq_some hi
  have := allTo_iff.1 h2 i hil
  simp only [Bool.and_eq_true, kOk, decide_eq_true_eq] at this
  omega
 ·omega
theorem addS_bound {f : Font} (h : checkS f = 0) (l : List Int) (i : Nat) : -4096 ≤ addS f l i ∧ addS f l i ≤ 8192 := by
 unfold addS
 have h1 := oneS_bound h (nth l i)
 have h2 := nearS_bound h (nth l (i - 1)) (nth l i)
 split <;> omega
theorem wTo_bound {f : Font} (h : checkS f = 0) (l : List Int) (n : Nat) : -4096 * n ≤ wTo f l n ∧ wTo f l n ≤ 8192 * n :=
 sumTo_bound (by omega) (by omega) fun i _ => addS_bound h l i
end Go.Ab
namespace Go.Ab
open Go.Proofs
set_option maxRecDepth 100000
set_option maxHeartbeats 4000000
def widthS (f : Font) (s : List UInt8) : Int × Int := if checkS f ≠ 0 then (0, checkS f) else if (runesG s).2 ≠ 0 then (0, (runesG s).2) else (wTo f (runesG s).1 (runesG s).1.length, 0)
theorem runesG_len' (s : List UInt8) : (runesG s).1.length ≤ 4096 := by
 unfold runesG
 split
 ·simp
 ·cases hr : runes s with
  | none => simp
  | some l => have := runes_len _ _ _ (Nat.le_refl _) hr; simp only; omega
def fitTo (f : Font) (l : List Int) (room : Int) : Nat → Int × Int
 | 0 => (0, 0)
 | n + 1 => if wTo f l (n + 1) ≤ room then (((n + 1 : Nat) : Int), wTo f l (n + 1)) else fitTo f l room n
def fitS (f : Font) (s : List UInt8) (room : Int) : Int × Int × Int := if checkS f ≠ 0 then (0, 0, checkS f) else if (runesG s).2 ≠ 0 then (0, 0, (runesG s).2) else ((fitTo f (runesG s).1 room (runesG s).1.length).1, (fitTo f (runesG s).1 room (runesG s).1.length).2, 0)
end Go.Ab
