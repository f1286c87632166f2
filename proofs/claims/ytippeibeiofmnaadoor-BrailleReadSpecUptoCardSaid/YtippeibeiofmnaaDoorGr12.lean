/- A part of the proof. -/
import Derived.Test.YtippeibeiofmnaaDoorGr9
import Derived.Test.YtippeibeiofmnaaDoorGr10
import Derived.Test.YtippeibeiofmnaaDoorN5
import Derived.Test.YtippeibeiofmnaaDoorAbsD
set_option linter.unusedVariables false
set_option linter.unusedSimpArgs false
set_option linter.unusedSectionVars false
set_option linter.deprecated false
namespace Go.Ab
open Go.Proofs
set_option maxRecDepth 100000
set_option maxHeartbeats 4000000
theorem Bef1 (a b x y : List Int) (hs1 : a.length < 1099511627776) (hs2 : b.length < 1099511627776) (hs3 : x.length < 1099511627776) (hs4 : y.length < 1099511627776) : Kc cfg 64 [.agg [R fl0 eI a, R fl0 eI b], .agg [R fl0 eI x, R fl0 eI y], .func (.func 65) [] [], .func (.func 66) [] []] (.ret (.bool (lessZ (a, b) (x, y)))) := by
 have h1 := cmpL_zero (a := a) (b := x)
 have h2 := cmpL_lt (a := a) (b := x)
 have h3 := cmpL_lt (a := b) (b := y)
 by_cases he : a = x
 ·have hz : cmpL a x = 0 := h1.2 he
  have hE : lessZ (a, b) (x, y) = decide (cmpL b y < 0) := by
   unfold lessZ
   rw [h3, ← h2, hz, he]; simp
  rw [hE]
  refine outS_of_wp cfg (fn := Tryd.f64) Tryd.func64 rfl (by simp [Tryd.f64]) ?_
  simp (disch := first | assumption | omega | (simp; done) | (simp; omega)) [-getElem?_pos, gZ, gS, Tryd.f64, emptyH]
  repeat' (first | ((first | refine wpc_split _ ?_ ?_ | refine ww_split _ ?_ ?_) <;> intro hc <;> try simp at hc) | (refine wp_drawF (by decide +kernel) ?_) | refine wk_yldW _ ?_ | refine layOwe _ (by kernel_rfl) ?_ | refine owe ?_ (fun ho => ?_) | (simp (disch := first | assumption | omega | (simp; done) | (simp; omega)) [emptyH, hz, -getElem?_pos, gZ, gS]))
  all_goals try (exfalso; omega)
 ·have hz : ¬ cmpL a x = 0 := fun e => he (h1.1 e)
  have hE : lessZ (a, b) (x, y) = decide (cmpL a x < 0) := by
   unfold lessZ
   rw [h2]
   simp [he]
  rw [hE]
  refine outS_of_wp cfg (fn := Tryd.f64) Tryd.func64 rfl (by simp [Tryd.f64]) ?_
  simp (disch := first | assumption | omega | (simp; done) | (simp; omega)) [-getElem?_pos, gZ, gS, Tryd.f64, emptyH]
  repeat' (first | ((first | refine wpc_split _ ?_ ?_ | refine ww_split _ ?_ ?_) <;> intro hc <;> try simp at hc) | (refine wp_drawF (by decide +kernel) ?_) | refine wk_yldW _ ?_ | refine layOwe _ (by kernel_rfl) ?_ | refine owe ?_ (fun ho => ?_) | (simp (disch := first | assumption | omega | (simp; done) | (simp; omega)) [emptyH, hz, -getElem?_pos, gZ, gS]))
  all_goals try (exfalso; omega)
@[simp] theorem SBef1 (a b x y : List Int) (hs1 : a.length < 1099511627776) (hs2 : b.length < 1099511627776) (hs3 : x.length < 1099511627776) (hs4 : y.length < 1099511627776) (q1 q2 q3 q4 : Fl) (hh : Heap) : Ci cfg (.func (.func 64) [] []) [.agg [R q1 eI a, R q2 eI b], .agg [R q3 eI x, R q4 eI y], .func (.func 65) [] [], .func (.func 66) [] []] hh = some (.ret (.bool (lessZ (a, b) (x, y))), hh) :=
 Ci_K cfg rfl rfl (by simp) (by simp) (Bef1 a b x y hs1 hs2 hs3 hs4)
theorem Bef2 (a b x y : List Int) (hs1 : a.length < 1099511627776) (hs2 : b.length < 1099511627776) (hs3 : x.length < 1099511627776) (hs4 : y.length < 1099511627776) : Kc cfg 64 [.agg [R fl0 eI a, R fl0 eI b], .agg [R fl0 eI x, R fl0 eI y], .func (.func 66) [] [], .func (.func 65) [] []] (.ret (.bool (lessZ (b, a) (y, x)))) := by
 have h1 := cmpL_zero (a := b) (b := y)
 have h2 := cmpL_lt (a := b) (b := y)
 have h3 := cmpL_lt (a := a) (b := x)
 by_cases he : b = y
 ·have hz : cmpL b y = 0 := h1.2 he
  have hE : lessZ (b, a) (y, x) = decide (cmpL a x < 0) := by
   unfold lessZ
   rw [h3, ← h2, hz, he]; simp
  rw [hE]
  refine outS_of_wp cfg (fn := Tryd.f64) Tryd.func64 rfl (by simp [Tryd.f64]) ?_
  simp (disch := first | assumption | omega | (simp; done) | (simp; omega)) [-getElem?_pos, gZ, gS, Tryd.f64, emptyH]
  repeat' (first | ((first | refine wpc_split _ ?_ ?_ | refine ww_split _ ?_ ?_) <;> intro hc <;> try simp at hc) | (refine wp_drawF (by decide +kernel) ?_) | refine wk_yldW _ ?_ | refine layOwe _ (by kernel_rfl) ?_ | refine owe ?_ (fun ho => ?_) | (simp (disch := first | assumption | omega | (simp; done) | (simp; omega)) [emptyH, hz, -getElem?_pos, gZ, gS]))
  all_goals try (exfalso; omega)
 ·have hz : ¬ cmpL b y = 0 := fun e => he (h1.1 e)
  have hE : lessZ (b, a) (y, x) = decide (cmpL b y < 0) := by
   unfold lessZ
   rw [h2]
   simp [he]
  rw [hE]
  refine outS_of_wp cfg (fn := Tryd.f64) Tryd.func64 rfl (by simp [Tryd.f64]) ?_
  simp (disch := first | assumption | omega | (simp; done) | (simp; omega)) [-getElem?_pos, gZ, gS, Tryd.f64, emptyH]
  repeat' (first | ((first | refine wpc_split _ ?_ ?_ | refine ww_split _ ?_ ?_) <;> intro hc <;> try simp at hc) | (refine wp_drawF (by decide +kernel) ?_) | refine wk_yldW _ ?_ | refine layOwe _ (by kernel_rfl) ?_ | refine owe ?_ (fun ho => ?_) | (simp (disch := first | assumption | omega | (simp; done) | (simp; omega)) [emptyH, hz, -getElem?_pos, gZ, gS]))
  all_goals try (exfalso; omega)
@[simp] theorem SBef2 (a b x y : List Int) (hs1 : a.length < 1099511627776) (hs2 : b.length < 1099511627776) (hs3 : x.length < 1099511627776) (hs4 : y.length < 1099511627776) (q1 q2 q3 q4 : Fl) (hh : Heap) : Ci cfg (.func (.func 64) [] []) [.agg [R q1 eI a, R q2 eI b], .agg [R q3 eI x, R q4 eI y], .func (.func 66) [] [], .func (.func 65) [] []] hh = some (.ret (.bool (lessZ (b, a) (y, x))), hh) :=
 Ci_K cfg rfl rfl (by simp) (by simp) (Bef2 a b x y hs1 hs2 hs3 hs4)
end Go.Ab
namespace Go.Ab
open Go.Proofs
set_option maxRecDepth 100000
set_option maxHeartbeats 8000000
def apF (l : List Int) (ts : List (Option Nat)) : Fl := if l = [] then (false, true, none) else (false, false, some ts.length)
def apT (l : List Int) (ts : List (Option Nat)) : List (Option Nat) := if l = [] then ts else ts ++ [some 1]
theorem apL (bs : List Blk) (ts : List (Option Nat)) (k : Int) (q : Fl) (l : List Int) (hl : l.length + 1 ≤ 4294967296) : appendV Tryd.prog ⟨bs, ts⟩ false #[25, 25] (.row false true [.int .i64 k] 1 none) (R q eI l) = some (R (apF l ts) eI (k :: l), ⟨bs, apT l ts⟩) := by
 have hlit : V.row false true [.int .i64 k] 1 none = R (false, true, none) eI [k] := rfl
 rw [hlit]
 by_cases h : l = []
 ·subst h
  rw [append_R_nil (by' := 8) (by simp) (by simp) (by decide)]
  rfl
 ·rw [append_R (by' := 8) (by simp) h (App.full _ _ _) (by simp; omega) (by decide)]
  unfold apF apT
  rw [if_neg h, if_neg h]; rfl
theorem sw_t (p : List Int × List Int) : swZ true p = p := rfl
theorem sw_f (p : List Int × List Int) : swZ false p = (p.2, p.1) := rfl
theorem add_t (k : Int) (q : List Int × List Int) : addZ true k q = (q.1, k :: q.2) := rfl
theorem add_f (k : Int) (q : List Int × List Int) : addZ false k q = (k :: q.1, q.2) := rfl
def FinP (t : List Sgn) (bs : List Blk) (f : Nat) (w : List Int) (a : Bool) (x : CRes × Heap) : Prop :=
 ∃ q1 q2 X ts, x = (.ret (.agg [R q1 eI (swZ a (finF t (costZ t) f w a)).1, R q2 eI (swZ a (finF t (costZ t) f w a)).2]), ⟨bs ++ X, ts⟩)
theorem fin_ok {t : List Sgn} (ht : sTab t) {D : List (Wd × Int)} (hD : ∀ w, KeyZ t w → getG D (bZ w) = costZ t w) {fl : Fl} {m : Nat} : ∀ (f : Nat), f ≤ 4194304 → ∀ (w : List Int) (a : Bool), KeyZ t w → costZ t w < neverZ → phiZ (costZ t) w < f →
  ∀ (bs : List Blk) (ts : List (Option Nat)), bs[0]? = some (.cells [R fl eS (sigZ t), .map m]) → bs[m]? = some (.map (mG sK 0 D) D.length) →
  ∃ x, Ci cfg (.func (.func 46) [] []) [.ptr 0 0, .str (bZ w), .bool a] ⟨bs, ts⟩ = some x ∧ FinP t bs f w a x
 | 0, _, w, a, _, _, h, _, _, _, _ => by omega
 | f + 1, hf, w, a, hw, hcw, hphi, bs, ts, hb0, hbm => by
  have ih := fin_ok ht hD (fl := fl) (m := m) f (by omega)
  have hpos : 0 < bs.length := (List.getElem?_eq_some_iff.1 hb0).1
  have hmb : m < bs.length := (List.getElem?_eq_some_iff.1 hbm).1
  have h0 : ∀ Z : List Blk, (bs ++ Z)[0]? = some (.cells [R fl eS (sigZ t), .map m]) := fun Z => by rw [List.getElem?_append_left hpos]; exact hb0
  have h1 : ∀ Z : List Blk, (bs ++ Z)[m]? = some (.map (mG sK 0 D) D.length) := fun Z => by rw [List.getElem?_append_left hmb]; exact hbm
  have hsl := sigZ_len t
  have htl := ht.1
  obtain ⟨hwd, hwl⟩ := hw.dots ht
  generalize hP : FinP t bs (f + 1) w a = P
  refine Ci_of_wpE (fn := Tryd.f46) Tryd.func46 rfl (by simp [Tryd.f46]) rfl ?_
  simp (disch := first | assumption | omega | (simp; done) | (simp; omega)) [-getElem?_pos, gZ, gS, Tryd.f46]
  by_cases hw0 : w = []
  ·have hbw : bZ w = [] := bZ_nil.2 hw0
   rw [hbw]
   repeat' (first | ((first | refine wpc_split _ ?_ ?_ | refine ww_split _ ?_ ?_) <;> intro hc <;> try simp at hc) | (refine wp_drawF (by kernel_rfl) ?_) | refine wk_yldW _ ?_ | refine layOwe _ (by kernel_rfl) ?_ | refine owe ?_ (fun ho => ?_) | (simp (disch := first | assumption | omega | (simp; done) | (simp; omega)) [hb0, h0, app_at0, app_set0, -getElem?_pos, gZ, gS]))
   all_goals try (exfalso; simp_all; done)
   subst hP
   subst hw0
   exact ⟨(true, true, none), (true, true, none), _, ts, by rw [finF_nil]; cases a <;> rfl⟩
  ·have hbw : ¬ bZ w = [] := fun e => hw0 (bZ_nil.1 e)
   have hfin := finF_best t (costZ t) f hw0 a
   repeat' (first | ((first | refine wpc_split _ ?_ ?_ | refine ww_split _ ?_ ?_) <;> intro hc <;> try simp at hc) | (refine wp_drawF (by kernel_rfl) ?_) | refine wk_yldW _ ?_ | refine layOwe _ (by kernel_rfl) ?_ | refine owe ?_ (fun ho => ?_) | (simp (disch := first | assumption | omega | (simp; done) | (simp; omega)) [hb0, h0, hbw, hsl, app_at0, app_set0, -getElem?_pos, gZ, gS]))
   all_goals try (exfalso; exact hbw (by assumption))
   refine wp_loopE cfg rfl (fun f0 h0 m fr h => ∃ k : Nat, ∃ q1 : Fl, ∃ q2 : Fl, ∃ Y : List Blk, fr 0 = f0 0 ∧ fr 1 = f0 1 ∧ fr 2 = f0 2 ∧ fr 24 = f0 24 ∧ fr 25 = .int .i64 k ∧ fr 7 = .bool (bestF t (costZ t) f w a k).isSome ∧ fr 6 = .ptr bs.length 0 ∧ (h.bs = bs ++ (.cells [R q1 eI (swZ a ((bestF t (costZ t) f w a k).getD ([], []))).1, R q2 eI (swZ a ((bestF t (costZ t) f w a k).getD ([], []))).2] :: Y)) ∧ (k + m = t.length)) (t.length) _ _ ⟨0, (true, true, none), (true, true, none), [], rfl, rfl, rfl, rfl, by first | rfl | (simp; done) | (simp [R]; done) | simp [R], by first | rfl | (simp; done) | (simp [R]; done) | simp [R], by first | rfl | (simp; done) | (simp [R]; done) | simp [R], by cases a <;> simp [bestF, swZ, R], by first | rfl | (simp; done) | omega⟩ ?_
   rintro Am Af Ah ⟨k, q1, q2, Y, A0, A1, A2, A24, A25, A7, A6, hb, hm2⟩ Aih
   try simp at A0 A1 A2 A24
   by_cases hk : k < t.length
   ·have cs := Cstep ht hwd hwl hk (h := Ah) (p := 0) (fl := fl) (c := .map m) (by rw [hb]; exact h0 _)
    have lk := fun r => lookS (h := Ah) (n := m) (D := D) r (by rw [hb]; exact h1 _)
    have hlb := len_best (t := t) (c := costZ t) (f := f) (w := w) (a := a) (len_fin t (costZ t) f) k
    have hst : bestF t (costZ t) f w a (k + 1) = if onWay t (costZ t) w k = true then pickZ (bestF t (costZ t) f w a k) (addZ a k (finF t (costZ t) f (stepZ w (nth t k).cells).1 (a != (stepZ w (nth t k).cells).2.2.1))) else bestF t (costZ t) f w a k := rfl
    cases ho : (stepZ w (nth t k).cells).2.2.2 with
    | false =>
     have hon : onWay t (costZ t) w k = false := by unfold onWay; rw [ho]; rfl
     rw [hon, if_neg (by simp)] at hst
     rw [ho] at cs
     repeat' (first | ((first | refine wpc_split _ ?_ ?_ | refine ww_split _ ?_ ?_) <;> intro hc <;> try simp at hc) | (refine wp_drawF (by decide +kernel) ?_) | refine wk_yldW _ ?_ | refine layOwe _ (by kernel_rfl) ?_ | refine owe ?_ (fun ho => ?_) | (simp (disch := first | assumption | omega | (simp; done) | (simp; omega)) [A0, A1, A2, A24, A25, A7, A6, hb, h0, h1, hk, cs, -getElem?_pos, gZ, gS]))
     all_goals try (exfalso; omega)
     exact Aih (Am - 1) _ _ (by omega) ⟨k + 1, q1, q2, Y, by simp [A0, A1, A2, A24, A25, A7, A6, hst], by simp [A0, A1, A2, A24, A25, A7, A6, hst], by simp [A0, A1, A2, A24, A25, A7, A6, hst], by simp [A0, A1, A2, A24, A25, A7, A6, hst], by simp [A0, A1, A2, A24, A25, A7, A6, hst], by simp [A0, A1, A2, A24, A25, A7, A6, hst], by simp [A0, A1, A2, A24, A25, A7, A6, hst], (by simp [hst, hb]), by omega⟩
    | true =>
     rw [ho] at cs
     have hkz := hw.step ht hw0 hk ho
     have lk1 := lk (bZ (stepZ w (nth t k).cells).1)
     have lk2 := lk (bZ w)
     rw [hD _ hkz] at lk1
     rw [hD _ hw] at lk2
     have hnn := stepZ_nn w (nth t k).cells
     obtain ⟨c1, c2⟩ := costZ_nn t (stepZ w (nth t k).cells).1
     unfold neverZ at c2
     have hx4 : (stepZ w (nth t k).cells).2.1 ≤ 4 := by
      have := (ht.2 k hk).2.1
      unfold stepZ
      split
      ·simp
      ·split
       ·simp only; omega
       ·simp
     by_cases hc : (stepZ w (nth t k).cells).2.1 + costZ t (stepZ w (nth t k).cells).1 = costZ t w
     ·have hon : onWay t (costZ t) w k = true := by unfold onWay; rw [ho, hc]; simp
      rw [if_pos hon] at hst
      have hphi2 := phi_step (c := costZ t) hw0 c1 (ht.2 k hk).1 hon
      have hc1 : costZ t (stepZ w (nth t k).cells).1 < neverZ := by omega
      obtain ⟨x, rc, r1, r2, X, ts2, hx⟩ := ih (stepZ w (nth t k).cells).1 (a != (stepZ w (nth t k).cells).2.2.1) hkz hc1 (by omega) (bs ++ (.cells [R q1 eI (swZ a ((bestF t (costZ t) f w a k).getD ([], []))).1, R q2 eI (swZ a ((bestF t (costZ t) f w a k).getD ([], []))).2] :: (Y ++ [.cells [.row true true [] 0 none, .row true true [] 0 none]]))) Ah.ts (h0 _) (h1 _)
      subst hx
      obtain ⟨l1, l2⟩ := len_fin t (costZ t) f (stepZ w (nth t k).cells).1 (a != (stepZ w (nth t k).cells).2.2.1)
      generalize hst2 : stepZ w (nth t k).cells = st at *
      generalize hqq : finF t (costZ t) f st.1 (a != st.2.2.1) = q at *
      generalize hbb : bestF t (costZ t) f w a k = b at *
      clear ih
      have hl1 : q.1.length + 1 ≤ 4294967296 := by omega
      have hl2 : q.2.length + 1 ≤ 4294967296 := by omega
      have hm1 : (q.1.length : Int) + 1 < 1099511627776 := by omega
      have hm2' : (q.2.length : Int) + 1 < 1099511627776 := by omega
      by_cases htu : st.2.2.1 = false
      ·rw [htu] at rc cs hqq
       cases a with
       | true =>
        have ha : (true != false) = true := rfl
        rw [ha] at rc hqq
        have hnb : newB Ah (.cells [.row true true [] 0 none, .row true true [] 0 none]) = ⟨bs ++ (.cells [R q1 eI (swZ true (b.getD ([], []))).1, R q2 eI (swZ true (b.getD ([], []))).2] :: (Y ++ [.cells [.row true true [] 0 none, .row true true [] 0 none]])), Ah.ts⟩ := by simp [newB, hb]
        rw [← hnb] at rc
        cases b with
        | none =>
         repeat' (first | ((first | refine wpc_split _ ?_ ?_ | refine ww_split _ ?_ ?_) <;> intro hc <;> try simp at hc) | (refine wp_drawF (by decide +kernel) ?_) | refine wk_yldW _ ?_ | refine layOwe _ (by kernel_rfl) ?_ | refine owe ?_ (fun ho => ?_) | (simp (disch := first | assumption | omega | (simp; done) | (simp; omega)) [A0, A1, A2, A24, A25, A7, A6, hb, h0, h1, hk, cs, lk1, lk2, hc, rc, app_at, app_at0, app_set, app_set0, apL, sw_t, sw_f, -I46, -getElem?_pos, gZ, gS]))
         all_goals try (exfalso; omega)
         exact Aih (Am - 1) _ _ (by omega) ⟨k + 1, r1, apF q.2 ts2, Y ++ .cells [R r1 eI q.1, R (apF q.2 ts2) eI ((k : Int) :: q.2)] :: (X ++ [.cells [R r1 eI q.1, R r2 eI q.2]]), by simp [A0, A1, A2, A24, A25, A7, A6, hst, pickZ, sw_t, add_t], by simp [A0, A1, A2, A24, A25, A7, A6, hst, pickZ, sw_t, add_t], by simp [A0, A1, A2, A24, A25, A7, A6, hst, pickZ, sw_t, add_t], by simp [A0, A1, A2, A24, A25, A7, A6, hst, pickZ, sw_t, add_t], by simp [A0, A1, A2, A24, A25, A7, A6, hst, pickZ, sw_t, add_t], by simp [A0, A1, A2, A24, A25, A7, A6, hst, pickZ, sw_t, add_t], by simp [A0, A1, A2, A24, A25, A7, A6, hst, pickZ, sw_t, add_t], (by simp [hst, pickZ, sw_t, add_t]), by omega⟩
        | some p =>
         obtain ⟨p1, p2⟩ := hlb p rfl
         have hpk : pickZ (some p) (addZ true k q) = if lessZ (addZ true k q) p = true then some (addZ true k q) else some p := rfl
         rw [hpk] at hst
         cases hle : lessZ (addZ true k q) p with
         | true =>
          rw [if_pos hle] at hst
          rw [add_t] at hle
          repeat' (first | ((first | refine wpc_split _ ?_ ?_ | refine ww_split _ ?_ ?_) <;> intro hc <;> try simp at hc) | (refine wp_drawF (by decide +kernel) ?_) | refine wk_yldW _ ?_ | refine layOwe _ (by kernel_rfl) ?_ | refine owe ?_ (fun ho => ?_) | (simp (disch := first | assumption | omega | (simp; done) | (simp; omega)) [A0, A1, A2, A24, A25, A7, A6, hb, h0, h1, hk, cs, lk1, lk2, hc, rc, hle, app_at, app_at0, app_set, app_set0, apL, sw_t, sw_f, -I46, -getElem?_pos, gZ, gS]))
          all_goals try (exfalso; omega)
          exact Aih (Am - 1) _ _ (by omega) ⟨k + 1, r1, apF q.2 ts2, Y ++ .cells [R r1 eI q.1, R (apF q.2 ts2) eI ((k : Int) :: q.2)] :: (X ++ [.cells [R r1 eI q.1, R r2 eI q.2]]), by simp [A0, A1, A2, A24, A25, A7, A6, hst, pickZ, sw_t, add_t], by simp [A0, A1, A2, A24, A25, A7, A6, hst, pickZ, sw_t, add_t], by simp [A0, A1, A2, A24, A25, A7, A6, hst, pickZ, sw_t, add_t], by simp [A0, A1, A2, A24, A25, A7, A6, hst, pickZ, sw_t, add_t], by simp [A0, A1, A2, A24, A25, A7, A6, hst, pickZ, sw_t, add_t], by simp [A0, A1, A2, A24, A25, A7, A6, hst, pickZ, sw_t, add_t], by simp [A0, A1, A2, A24, A25, A7, A6, hst, pickZ, sw_t, add_t], (by simp [hst, pickZ, sw_t, add_t]), by omega⟩
         | false =>
          rw [if_neg (by simp [hle])] at hst
          rw [add_t] at hle
          repeat' (first | ((first | refine wpc_split _ ?_ ?_ | refine ww_split _ ?_ ?_) <;> intro hc <;> try simp at hc) | (refine wp_drawF (by decide +kernel) ?_) | refine wk_yldW _ ?_ | refine layOwe _ (by kernel_rfl) ?_ | refine owe ?_ (fun ho => ?_) | (simp (disch := first | assumption | omega | (simp; done) | (simp; omega)) [A0, A1, A2, A24, A25, A7, A6, hb, h0, h1, hk, cs, lk1, lk2, hc, rc, hle, app_at, app_at0, app_set, app_set0, apL, sw_t, sw_f, -I46, -getElem?_pos, gZ, gS]))
          all_goals try (exfalso; omega)
          exact Aih (Am - 1) _ _ (by omega) ⟨k + 1, q1, q2, Y ++ .cells [R r1 eI q.1, R (apF q.2 ts2) eI ((k : Int) :: q.2)] :: (X ++ [.cells [R r1 eI q.1, R r2 eI q.2]]), by simp [A0, A1, A2, A24, A25, A7, A6, hst, pickZ, sw_t, add_t], by simp [A0, A1, A2, A24, A25, A7, A6, hst, pickZ, sw_t, add_t], by simp [A0, A1, A2, A24, A25, A7, A6, hst, pickZ, sw_t, add_t], by simp [A0, A1, A2, A24, A25, A7, A6, hst, pickZ, sw_t, add_t], by simp [A0, A1, A2, A24, A25, A7, A6, hst, pickZ, sw_t, add_t], by simp [A0, A1, A2, A24, A25, A7, A6, hst, pickZ, sw_t, add_t], by simp [A0, A1, A2, A24, A25, A7, A6, hst, pickZ, sw_t, add_t], (by simp [hst, pickZ, sw_t, add_t]), by omega⟩
       | false =>
        have ha : (false != false) = false := rfl
        rw [ha] at rc hqq
        have hnb : newB Ah (.cells [.row true true [] 0 none, .row true true [] 0 none]) = ⟨bs ++ (.cells [R q1 eI (swZ false (b.getD ([], []))).1, R q2 eI (swZ false (b.getD ([], []))).2] :: (Y ++ [.cells [.row true true [] 0 none, .row true true [] 0 none]])), Ah.ts⟩ := by simp [newB, hb]
        rw [← hnb] at rc
        cases b with
        | none =>
         repeat' (first | ((first | refine wpc_split _ ?_ ?_ | refine ww_split _ ?_ ?_) <;> intro hc <;> try simp at hc) | (refine wp_drawF (by decide +kernel) ?_) | refine wk_yldW _ ?_ | refine layOwe _ (by kernel_rfl) ?_ | refine owe ?_ (fun ho => ?_) | (simp (disch := first | assumption | omega | (simp; done) | (simp; omega)) [A0, A1, A2, A24, A25, A7, A6, hb, h0, h1, hk, cs, lk1, lk2, hc, rc, app_at, app_at0, app_set, app_set0, apL, sw_t, sw_f, -I46, -getElem?_pos, gZ, gS]))
         all_goals try (exfalso; omega)
         exact Aih (Am - 1) _ _ (by omega) ⟨k + 1, r1, apF q.1 ts2, Y ++ .cells [R r1 eI q.2, R (apF q.1 ts2) eI ((k : Int) :: q.1)] :: (X ++ [.cells [R r1 eI q.2, R r2 eI q.1]]), by simp [A0, A1, A2, A24, A25, A7, A6, hst, pickZ, sw_f, add_f], by simp [A0, A1, A2, A24, A25, A7, A6, hst, pickZ, sw_f, add_f], by simp [A0, A1, A2, A24, A25, A7, A6, hst, pickZ, sw_f, add_f], by simp [A0, A1, A2, A24, A25, A7, A6, hst, pickZ, sw_f, add_f], by simp [A0, A1, A2, A24, A25, A7, A6, hst, pickZ, sw_f, add_f], by simp [A0, A1, A2, A24, A25, A7, A6, hst, pickZ, sw_f, add_f], by simp [A0, A1, A2, A24, A25, A7, A6, hst, pickZ, sw_f, add_f], (by simp [hst, pickZ, sw_f, add_f]), by omega⟩
        | some p =>
         obtain ⟨p1, p2⟩ := hlb p rfl
         have hpk : pickZ (some p) (addZ false k q) = if lessZ (addZ false k q) p = true then some (addZ false k q) else some p := rfl
         rw [hpk] at hst
         cases hle : lessZ (addZ false k q) p with
         | true =>
          rw [if_pos hle] at hst
          rw [add_f] at hle
          repeat' (first | ((first | refine wpc_split _ ?_ ?_ | refine ww_split _ ?_ ?_) <;> intro hc <;> try simp at hc) | (refine wp_drawF (by decide +kernel) ?_) | refine wk_yldW _ ?_ | refine layOwe _ (by kernel_rfl) ?_ | refine owe ?_ (fun ho => ?_) | (simp (disch := first | assumption | omega | (simp; done) | (simp; omega)) [A0, A1, A2, A24, A25, A7, A6, hb, h0, h1, hk, cs, lk1, lk2, hc, rc, hle, app_at, app_at0, app_set, app_set0, apL, sw_t, sw_f, -I46, -getElem?_pos, gZ, gS]))
          all_goals try (exfalso; omega)
          exact Aih (Am - 1) _ _ (by omega) ⟨k + 1, r1, apF q.1 ts2, Y ++ .cells [R r1 eI q.2, R (apF q.1 ts2) eI ((k : Int) :: q.1)] :: (X ++ [.cells [R r1 eI q.2, R r2 eI q.1]]), by simp [A0, A1, A2, A24, A25, A7, A6, hst, pickZ, sw_f, add_f], by simp [A0, A1, A2, A24, A25, A7, A6, hst, pickZ, sw_f, add_f], by simp [A0, A1, A2, A24, A25, A7, A6, hst, pickZ, sw_f, add_f], by simp [A0, A1, A2, A24, A25, A7, A6, hst, pickZ, sw_f, add_f], by simp [A0, A1, A2, A24, A25, A7, A6, hst, pickZ, sw_f, add_f], by simp [A0, A1, A2, A24, A25, A7, A6, hst, pickZ, sw_f, add_f], by simp [A0, A1, A2, A24, A25, A7, A6, hst, pickZ, sw_f, add_f], (by simp [hst, pickZ, sw_f, add_f]), by omega⟩
         | false =>
          rw [if_neg (by simp [hle])] at hst
          rw [add_f] at hle
          repeat' (first | ((first | refine wpc_split _ ?_ ?_ | refine ww_split _ ?_ ?_) <;> intro hc <;> try simp at hc) | (refine wp_drawF (by decide +kernel) ?_) | refine wk_yldW _ ?_ | refine layOwe _ (by kernel_rfl) ?_ | refine owe ?_ (fun ho => ?_) | (simp (disch := first | assumption | omega | (simp; done) | (simp; omega)) [A0, A1, A2, A24, A25, A7, A6, hb, h0, h1, hk, cs, lk1, lk2, hc, rc, hle, app_at, app_at0, app_set, app_set0, apL, sw_t, sw_f, -I46, -getElem?_pos, gZ, gS]))
          all_goals try (exfalso; omega)
          exact Aih (Am - 1) _ _ (by omega) ⟨k + 1, q1, q2, Y ++ .cells [R r1 eI q.2, R (apF q.1 ts2) eI ((k : Int) :: q.1)] :: (X ++ [.cells [R r1 eI q.2, R r2 eI q.1]]), by simp [A0, A1, A2, A24, A25, A7, A6, hst, pickZ, sw_f, add_f], by simp [A0, A1, A2, A24, A25, A7, A6, hst, pickZ, sw_f, add_f], by simp [A0, A1, A2, A24, A25, A7, A6, hst, pickZ, sw_f, add_f], by simp [A0, A1, A2, A24, A25, A7, A6, hst, pickZ, sw_f, add_f], by simp [A0, A1, A2, A24, A25, A7, A6, hst, pickZ, sw_f, add_f], by simp [A0, A1, A2, A24, A25, A7, A6, hst, pickZ, sw_f, add_f], by simp [A0, A1, A2, A24, A25, A7, A6, hst, pickZ, sw_f, add_f], (by simp [hst, pickZ, sw_f, add_f]), by omega⟩
      ·replace htu : st.2.2.1 = true := by simpa using htu
       rw [htu] at rc cs hqq
       cases a with
       | true =>
        have ha : (true != true) = false := rfl
        rw [ha] at rc hqq
        have hnb : newB Ah (.cells [.row true true [] 0 none, .row true true [] 0 none]) = ⟨bs ++ (.cells [R q1 eI (swZ true (b.getD ([], []))).1, R q2 eI (swZ true (b.getD ([], []))).2] :: (Y ++ [.cells [.row true true [] 0 none, .row true true [] 0 none]])), Ah.ts⟩ := by simp [newB, hb]
        rw [← hnb] at rc
        cases b with
        | none =>
         repeat' (first | ((first | refine wpc_split _ ?_ ?_ | refine ww_split _ ?_ ?_) <;> intro hc <;> try simp at hc) | (refine wp_drawF (by decide +kernel) ?_) | refine wk_yldW _ ?_ | refine layOwe _ (by kernel_rfl) ?_ | refine owe ?_ (fun ho => ?_) | (simp (disch := first | assumption | omega | (simp; done) | (simp; omega)) [A0, A1, A2, A24, A25, A7, A6, hb, h0, h1, hk, cs, lk1, lk2, hc, rc, app_at, app_at0, app_set, app_set0, apL, sw_t, sw_f, -I46, -getElem?_pos, gZ, gS]))
         all_goals try (exfalso; omega)
         exact Aih (Am - 1) _ _ (by omega) ⟨k + 1, r2, apF q.2 ts2, Y ++ .cells [R r2 eI q.1, R (apF q.2 ts2) eI ((k : Int) :: q.2)] :: (X ++ [.cells [R r1 eI q.2, R r2 eI q.1]]), by simp [A0, A1, A2, A24, A25, A7, A6, hst, pickZ, sw_t, add_t], by simp [A0, A1, A2, A24, A25, A7, A6, hst, pickZ, sw_t, add_t], by simp [A0, A1, A2, A24, A25, A7, A6, hst, pickZ, sw_t, add_t], by simp [A0, A1, A2, A24, A25, A7, A6, hst, pickZ, sw_t, add_t], by simp [A0, A1, A2, A24, A25, A7, A6, hst, pickZ, sw_t, add_t], by simp [A0, A1, A2, A24, A25, A7, A6, hst, pickZ, sw_t, add_t], by simp [A0, A1, A2, A24, A25, A7, A6, hst, pickZ, sw_t, add_t], (by simp [hst, pickZ, sw_t, add_t]), by omega⟩
        | some p =>
         obtain ⟨p1, p2⟩ := hlb p rfl
         have hpk : pickZ (some p) (addZ true k q) = if lessZ (addZ true k q) p = true then some (addZ true k q) else some p := rfl
         rw [hpk] at hst
         cases hle : lessZ (addZ true k q) p with
         | true =>
          rw [if_pos hle] at hst
          rw [add_t] at hle
          repeat' (first | ((first | refine wpc_split _ ?_ ?_ | refine ww_split _ ?_ ?_) <;> intro hc <;> try simp at hc) | (refine wp_drawF (by decide +kernel) ?_) | refine wk_yldW _ ?_ | refine layOwe _ (by kernel_rfl) ?_ | refine owe ?_ (fun ho => ?_) | (simp (disch := first | assumption | omega | (simp; done) | (simp; omega)) [A0, A1, A2, A24, A25, A7, A6, hb, h0, h1, hk, cs, lk1, lk2, hc, rc, hle, app_at, app_at0, app_set, app_set0, apL, sw_t, sw_f, -I46, -getElem?_pos, gZ, gS]))
          all_goals try (exfalso; omega)
          exact Aih (Am - 1) _ _ (by omega) ⟨k + 1, r2, apF q.2 ts2, Y ++ .cells [R r2 eI q.1, R (apF q.2 ts2) eI ((k : Int) :: q.2)] :: (X ++ [.cells [R r1 eI q.2, R r2 eI q.1]]), by simp [A0, A1, A2, A24, A25, A7, A6, hst, pickZ, sw_t, add_t], by simp [A0, A1, A2, A24, A25, A7, A6, hst, pickZ, sw_t, add_t], by simp [A0, A1, A2, A24, A25, A7, A6, hst, pickZ, sw_t, add_t], by simp [A0, A1, A2, A24, A25, A7, A6, hst, pickZ, sw_t, add_t], by simp [A0, A1, A2, A24, A25, A7, A6, hst, pickZ, sw_t, add_t], by simp [A0, A1, A2, A24, A25, A7, A6, hst, pickZ, sw_t, add_t], by simp [A0, A1, A2, A24, A25, A7, A6, hst, pickZ, sw_t, add_t], (by simp [hst, pickZ, sw_t, add_t]), by omega⟩
         | false =>
          rw [if_neg (by simp [hle])] at hst
          rw [add_t] at hle
          repeat' (first | ((first | refine wpc_split _ ?_ ?_ | refine ww_split _ ?_ ?_) <;> intro hc <;> try simp at hc) | (refine wp_drawF (by decide +kernel) ?_) | refine wk_yldW _ ?_ | refine layOwe _ (by kernel_rfl) ?_ | refine owe ?_ (fun ho => ?_) | (simp (disch := first | assumption | omega | (simp; done) | (simp; omega)) [A0, A1, A2, A24, A25, A7, A6, hb, h0, h1, hk, cs, lk1, lk2, hc, rc, hle, app_at, app_at0, app_set, app_set0, apL, sw_t, sw_f, -I46, -getElem?_pos, gZ, gS]))
          all_goals try (exfalso; omega)
          exact Aih (Am - 1) _ _ (by omega) ⟨k + 1, q1, q2, Y ++ .cells [R r2 eI q.1, R (apF q.2 ts2) eI ((k : Int) :: q.2)] :: (X ++ [.cells [R r1 eI q.2, R r2 eI q.1]]), by simp [A0, A1, A2, A24, A25, A7, A6, hst, pickZ, sw_t, add_t], by simp [A0, A1, A2, A24, A25, A7, A6, hst, pickZ, sw_t, add_t], by simp [A0, A1, A2, A24, A25, A7, A6, hst, pickZ, sw_t, add_t], by simp [A0, A1, A2, A24, A25, A7, A6, hst, pickZ, sw_t, add_t], by simp [A0, A1, A2, A24, A25, A7, A6, hst, pickZ, sw_t, add_t], by simp [A0, A1, A2, A24, A25, A7, A6, hst, pickZ, sw_t, add_t], by simp [A0, A1, A2, A24, A25, A7, A6, hst, pickZ, sw_t, add_t], (by simp [hst, pickZ, sw_t, add_t]), by omega⟩
       | false =>
        have ha : (false != true) = true := rfl
        rw [ha] at rc hqq
        have hnb : newB Ah (.cells [.row true true [] 0 none, .row true true [] 0 none]) = ⟨bs ++ (.cells [R q1 eI (swZ false (b.getD ([], []))).1, R q2 eI (swZ false (b.getD ([], []))).2] :: (Y ++ [.cells [.row true true [] 0 none, .row true true [] 0 none]])), Ah.ts⟩ := by simp [newB, hb]
        rw [← hnb] at rc
        cases b with
        | none =>
         repeat' (first | ((first | refine wpc_split _ ?_ ?_ | refine ww_split _ ?_ ?_) <;> intro hc <;> try simp at hc) | (refine wp_drawF (by decide +kernel) ?_) | refine wk_yldW _ ?_ | refine layOwe _ (by kernel_rfl) ?_ | refine owe ?_ (fun ho => ?_) | (simp (disch := first | assumption | omega | (simp; done) | (simp; omega)) [A0, A1, A2, A24, A25, A7, A6, hb, h0, h1, hk, cs, lk1, lk2, hc, rc, app_at, app_at0, app_set, app_set0, apL, sw_t, sw_f, -I46, -getElem?_pos, gZ, gS]))
         all_goals try (exfalso; omega)
         exact Aih (Am - 1) _ _ (by omega) ⟨k + 1, r2, apF q.1 ts2, Y ++ .cells [R r2 eI q.2, R (apF q.1 ts2) eI ((k : Int) :: q.1)] :: (X ++ [.cells [R r1 eI q.1, R r2 eI q.2]]), by simp [A0, A1, A2, A24, A25, A7, A6, hst, pickZ, sw_f, add_f], by simp [A0, A1, A2, A24, A25, A7, A6, hst, pickZ, sw_f, add_f], by simp [A0, A1, A2, A24, A25, A7, A6, hst, pickZ, sw_f, add_f], by simp [A0, A1, A2, A24, A25, A7, A6, hst, pickZ, sw_f, add_f], by simp [A0, A1, A2, A24, A25, A7, A6, hst, pickZ, sw_f, add_f], by simp [A0, A1, A2, A24, A25, A7, A6, hst, pickZ, sw_f, add_f], by simp [A0, A1, A2, A24, A25, A7, A6, hst, pickZ, sw_f, add_f], (by simp [hst, pickZ, sw_f, add_f]), by omega⟩
        | some p =>
         obtain ⟨p1, p2⟩ := hlb p rfl
         have hpk : pickZ (some p) (addZ false k q) = if lessZ (addZ false k q) p = true then some (addZ false k q) else some p := rfl
         rw [hpk] at hst
         cases hle : lessZ (addZ false k q) p with
         | true =>
          rw [if_pos hle] at hst
          rw [add_f] at hle
          repeat' (first | ((first | refine wpc_split _ ?_ ?_ | refine ww_split _ ?_ ?_) <;> intro hc <;> try simp at hc) | (refine wp_drawF (by decide +kernel) ?_) | refine wk_yldW _ ?_ | refine layOwe _ (by kernel_rfl) ?_ | refine owe ?_ (fun ho => ?_) | (simp (disch := first | assumption | omega | (simp; done) | (simp; omega)) [A0, A1, A2, A24, A25, A7, A6, hb, h0, h1, hk, cs, lk1, lk2, hc, rc, hle, app_at, app_at0, app_set, app_set0, apL, sw_t, sw_f, -I46, -getElem?_pos, gZ, gS]))
          all_goals try (exfalso; omega)
          exact Aih (Am - 1) _ _ (by omega) ⟨k + 1, r2, apF q.1 ts2, Y ++ .cells [R r2 eI q.2, R (apF q.1 ts2) eI ((k : Int) :: q.1)] :: (X ++ [.cells [R r1 eI q.1, R r2 eI q.2]]), by simp [A0, A1, A2, A24, A25, A7, A6, hst, pickZ, sw_f, add_f], by simp [A0, A1, A2, A24, A25, A7, A6, hst, pickZ, sw_f, add_f], by simp [A0, A1, A2, A24, A25, A7, A6, hst, pickZ, sw_f, add_f], by simp [A0, A1, A2, A24, A25, A7, A6, hst, pickZ, sw_f, add_f], by simp [A0, A1, A2, A24, A25, A7, A6, hst, pickZ, sw_f, add_f], by simp [A0, A1, A2, A24, A25, A7, A6, hst, pickZ, sw_f, add_f], by simp [A0, A1, A2, A24, A25, A7, A6, hst, pickZ, sw_f, add_f], (by simp [hst, pickZ, sw_f, add_f]), by omega⟩
         | false =>
          rw [if_neg (by simp [hle])] at hst
          rw [add_f] at hle
          repeat' (first | ((first | refine wpc_split _ ?_ ?_ | refine ww_split _ ?_ ?_) <;> intro hc <;> try simp at hc) | (refine wp_drawF (by decide +kernel) ?_) | refine wk_yldW _ ?_ | refine layOwe _ (by kernel_rfl) ?_ | refine owe ?_ (fun ho => ?_) | (simp (disch := first | assumption | omega | (simp; done) | (simp; omega)) [A0, A1, A2, A24, A25, A7, A6, hb, h0, h1, hk, cs, lk1, lk2, hc, rc, hle, app_at, app_at0, app_set, app_set0, apL, sw_t, sw_f, -I46, -getElem?_pos, gZ, gS]))
          all_goals try (exfalso; omega)
          exact Aih (Am - 1) _ _ (by omega) ⟨k + 1, q1, q2, Y ++ .cells [R r2 eI q.2, R (apF q.1 ts2) eI ((k : Int) :: q.1)] :: (X ++ [.cells [R r1 eI q.1, R r2 eI q.2]]), by simp [A0, A1, A2, A24, A25, A7, A6, hst, pickZ, sw_f, add_f], by simp [A0, A1, A2, A24, A25, A7, A6, hst, pickZ, sw_f, add_f], by simp [A0, A1, A2, A24, A25, A7, A6, hst, pickZ, sw_f, add_f], by simp [A0, A1, A2, A24, A25, A7, A6, hst, pickZ, sw_f, add_f], by simp [A0, A1, A2, A24, A25, A7, A6, hst, pickZ, sw_f, add_f], by simp [A0, A1, A2, A24, A25, A7, A6, hst, pickZ, sw_f, add_f], by simp [A0, A1, A2, A24, A25, A7, A6, hst, pickZ, sw_f, add_f], (by simp [hst, pickZ, sw_f, add_f]), by omega⟩
     ·have hon : onWay t (costZ t) w k = false := by unfold onWay; rw [ho]; simp [hc]
      rw [hon, if_neg (by simp)] at hst
      generalize hst2 : stepZ w (nth t k).cells = st at *
      repeat' (first | ((first | refine wpc_split _ ?_ ?_ | refine ww_split _ ?_ ?_) <;> intro hc <;> try simp at hc) | (refine wp_drawF (by decide +kernel) ?_) | refine wk_yldW _ ?_ | refine layOwe _ (by kernel_rfl) ?_ | refine owe ?_ (fun ho => ?_) | (simp (disch := first | assumption | omega | (simp; done) | (simp; omega)) [A0, A1, A2, A24, A25, A7, A6, hb, h0, h1, hk, cs, lk1, lk2, hc, -getElem?_pos, gZ, gS]))
      all_goals try (exfalso; omega)
      exact Aih (Am - 1) _ _ (by omega) ⟨k + 1, q1, q2, Y, by simp [A0, A1, A2, A24, A25, A7, A6, hst], by simp [A0, A1, A2, A24, A25, A7, A6, hst], by simp [A0, A1, A2, A24, A25, A7, A6, hst], by simp [A0, A1, A2, A24, A25, A7, A6, hst], by simp [A0, A1, A2, A24, A25, A7, A6, hst], by simp [A0, A1, A2, A24, A25, A7, A6, hst], by simp [A0, A1, A2, A24, A25, A7, A6, hst], (by simp [hst, hb]), by omega⟩
   ·obtain rfl : k = t.length := by omega
    repeat' (first | ((first | refine wpc_split _ ?_ ?_ | refine ww_split _ ?_ ?_) <;> intro hc <;> try simp at hc) | (refine wp_drawF (by kernel_rfl) ?_) | refine wk_yldW _ ?_ | refine layOwe _ (by kernel_rfl) ?_ | refine owe ?_ (fun ho => ?_) | (simp (disch := first | assumption | omega | (simp; done) | (simp; omega)) [A0, A1, A2, A24, A25, A7, A6, hb, app_at0, app_set0, -getElem?_pos, gZ, gS]))
    all_goals try (exfalso; omega)
    subst hP
    rw [← hfin]
    exact ⟨q1, q2, _, Ah.ts, rfl⟩
end Go.Ab
