/- A part of the proof. -/
import Derived.Test.YtigmnglnedcfpaaGreatDoorGr4
import Derived.Test.YtigmnglnedcfpaaGreatDoorGr8
set_option linter.unusedVariables false
set_option linter.unusedSimpArgs false
set_option linter.unusedSectionVars false
set_option linter.deprecated false
namespace Go.Ab
open Go.Proofs
set_option maxRecDepth 100000
set_option maxHeartbeats 4000000
theorem LcheckK (f : Font) (hs : f.gs.length < 1099511627776 ∧ f.ks.length < 1099511627776) (b : Code) (hb : b = loopAt Tryz.f37 1) (fr : Nat → V) (h : Heap) (K : List Fr) (Q : Ax → St → Prop)
  (h1 : fr 1 = .ptr 0 0) (h5 : fr 5 = .int .i64 0) (hb0 : h.bs[0]? = some (.cells [R fl0 eG f.gs, .int .i64 f.other, R fl0 eK f.ks]))
  (hin : kAll f.ks = true → ∀ fr' h', fr' 1 = .ptr 0 0 → h'.bs[0]? = some (.cells [R fl0 eG f.gs, .int .i64 f.other, R fl0 eK f.ks]) → dn cfg (.exit 2) ⟨tab 142 fr', h', [], .no, none⟩ K Q)
  (hout : kAll f.ks = false → ∀ fr' h', fr' 2 = .int .i64 110 → dn cfg .ret ⟨tab 142 fr', h', [], .no, none⟩ K Q) :
  wp cfg (.loop b) ⟨tab 142 fr, h, [], .no, none⟩ K Q := by
 subst hb
 simp only [loopAt, codeOf, Tryz.f37, Option.getD_some, loopsOf, List.nil_append, List.append_nil, List.cons_append, List.getD_cons_succ, List.getD_cons_zero]
 refine wp_loopE cfg rfl (fun f0 h0 m fr h => ∃ i : Nat, fr 1 = .ptr 0 0 ∧ fr 5 = .int .i64 i ∧ (h.bs[0]? = some (.cells [R fl0 eG f.gs, .int .i64 f.other, R fl0 eK f.ks])) ∧ (0 < h.bs.length) ∧ (i + m = f.ks.length) ∧ (allTo i (fun i => kOk (nth f.ks i) && kRise f.ks i) = true)) (f.ks.length) _ _ ⟨0, h1, by simpa using h5, hb0, (List.getElem?_eq_some_iff.1 hb0).1, by first | rfl | (simp; done) | omega, by first | rfl | (simp; done) | omega⟩ ?_
 rintro Bm Bf Bh ⟨i, B1, B5, h0, hpos, hm, ht⟩ Bih
 by_cases hi : i < f.ks.length
 ·have hbad : (kOk (nth f.ks i) && kRise f.ks i) = false → kAll f.ks = false := fun h => allTo_false (p := fun i => kOk (nth f.ks i) && kRise f.ks i) i hi h
  have hgo : (kOk (nth f.ks i) && kRise f.ks i) = true → allTo (i + 1) (fun i => kOk (nth f.ks i) && kRise f.ks i) = true := fun h => allTo_next ht h
  have hiff : (kOk (nth f.ks i) && kRise f.ks i) = decide (((0 ≤ (nth f.ks i).a ∧ (nth f.ks i).a ≤ 1114111) ∧ (0 ≤ (nth f.ks i).b ∧ (nth f.ks i).b ≤ 1114111) ∧ -4096 ≤ (nth f.ks i).by' ∧ (nth f.ks i).by' ≤ 4096) ∧ (0 < i → (nth f.ks (i - 1)).a < (nth f.ks i).a ∨ (nth f.ks (i - 1)).a = (nth f.ks i).a ∧ (nth f.ks (i - 1)).b < (nth f.ks i).b)) := by
   unfold kOk kRise; simp
  rw [hiff] at hbad hgo
  simp only [decide_eq_false_iff_not, decide_eq_true_eq] at hbad hgo
  have hl1 : Bh.bs.length ≠ 0 := by omega
  have hx : ∀ b : Blk, (Bh.bs ++ [b])[0]? = some (.cells [R fl0 eG f.gs, .int .i64 f.other, R fl0 eK f.ks]) := fun b => by rw [bs_left hpos, h0]
  have hlst : ∀ b : Blk, (Bh.bs ++ [b])[Bh.bs.length]? = some b := fun b => by simp
  have h4 : 0 < i → (((i : Int) - 1).toNat) = i - 1 := by omega
  repeat' (first | ((first | refine wpc_split _ ?_ ?_ | refine ww_split _ ?_ ?_) <;> intro hc <;> try simp at hc) | (refine wp_drawF (by kernel_rfl) ?_) | refine wk_yldW _ ?_ | refine layOwe _ (by kernel_rfl) ?_ | refine owe ?_ (fun ho => ?_) | (simp (disch := first | assumption | omega | (simp; done) | (simp; omega)) [B1, B5, h0, hx, hlst, eK, h4, -getElem?_pos, gZ, gS]))
  all_goals first
   | exact hout (hbad (by omega)) _ _ (by simp)
   | exact Bih (Bm - 1) _ _ (by omega) ⟨i + 1, by simp [B1, B5, eK], by simp [B1, B5, eK], hx _, by simp, by omega, hgo (by omega)⟩
 ·have hka : kAll f.ks = true := by
   have : i = f.ks.length := by omega
   rw [this] at ht; exact ht
  repeat' (first | ((first | refine wpc_split _ ?_ ?_ | refine ww_split _ ?_ ?_) <;> intro hc <;> try simp at hc) | (refine wp_drawF (by kernel_rfl) ?_) | refine wk_yldW _ ?_ | refine layOwe _ (by kernel_rfl) ?_ | refine owe ?_ (fun ho => ?_) | (simp (disch := first | assumption | omega | (simp; done) | (simp; omega)) [B1, B5, h0, -getElem?_pos, gZ, gS]))
  exact hin hka _ _ B1 h0
end Go.Ab
namespace Go.Ab
open Go.Proofs
set_option maxRecDepth 100000
set_option maxHeartbeats 4000000
theorem C37 (f : Font) (hs : f.gs.length < 1099511627776 ∧ f.ks.length < 1099511627776) : Kc cfg 37 [.agg [R fl0 eG f.gs, .int .i64 f.other, R fl0 eK f.ks]] (.ret (.int .i64 (checkS f))) := by
 by_cases hl : 1024 < f.gs.length ∨ 1024 < f.ks.length
 ·rw [checkS_long hl]
  refine outS_of_wp cfg (fn := Tryz.f37) Tryz.func37 rfl (by simp [Tryz.f37]) ?_
  simp (disch := first | assumption | omega | (simp; done) | (simp; omega)) [-getElem?_pos, gZ, gS, Tryz.f37]
  repeat' (first | ((first | refine wpc_split _ ?_ ?_ | refine ww_split _ ?_ ?_) <;> intro hc <;> try simp at hc) | (refine wp_drawF (by kernel_rfl) ?_) | refine wk_yldW _ ?_ | refine layOwe _ (by kernel_rfl) ?_ | refine owe ?_ (fun ho => ?_) | (simp (disch := first | assumption | omega | (simp; done) | (simp; omega)) [-getElem?_pos, gZ, gS]))
  all_goals omega
 rw [checkS_short hl]
 by_cases hw : widthN f.other = false
 ·rw [hw]
  refine outS_of_wp cfg (fn := Tryz.f37) Tryz.func37 rfl (by simp [Tryz.f37]) ?_
  simp (disch := first | assumption | omega | (simp; done) | (simp; omega)) [-getElem?_pos, gZ, gS, Tryz.f37, hw]
  repeat' (first | ((first | refine wpc_split _ ?_ ?_ | refine ww_split _ ?_ ?_) <;> intro hc <;> try simp at hc) | (refine wp_drawF (by kernel_rfl) ?_) | refine wk_yldW _ ?_ | refine layOwe _ (by kernel_rfl) ?_ | refine owe ?_ (fun ho => ?_) | (simp (disch := first | assumption | omega | (simp; done) | (simp; omega)) [hw, -getElem?_pos, gZ, gS]))
 have hw : widthN f.other = true := by simpa using hw
 rw [hw]
 refine outS_of_wp cfg (fn := Tryz.f37) Tryz.func37 rfl (by simp [Tryz.f37]) ?_
 simp (disch := first | assumption | omega | (simp; done) | (simp; omega)) [-getElem?_pos, gZ, gS, Tryz.f37, hw]
 repeat' (first | ((first | refine wpc_split _ ?_ ?_ | refine ww_split _ ?_ ?_) <;> intro hc <;> try simp at hc) | (refine wp_drawF (by kernel_rfl) ?_) | refine wk_yldW _ ?_ | refine layOwe _ (by kernel_rfl) ?_ | refine owe ?_ (fun ho => ?_) | (simp (disch := first | assumption | omega | (simp; done) | (simp; omega)) [hw, -getElem?_pos, gZ, gS]))
 refine LcheckG f hs _ (by kernel_rfl) _ _ _ _ (by simp) (by simp) (by simp) (fun hg fr' h' e1 e0 => ?_) (fun hk fr' h' e2 => ?_)
 ·rw [hg]
  repeat' (first | ((first | refine wpc_split _ ?_ ?_ | refine ww_split _ ?_ ?_) <;> intro hc <;> try simp at hc) | (refine wp_drawF (by kernel_rfl) ?_) | refine wk_yldW _ ?_ | refine layOwe _ (by kernel_rfl) ?_ | refine owe ?_ (fun ho => ?_) | (simp (disch := first | assumption | omega | (simp; done) | (simp; omega)) [e1, e0, -getElem?_pos, gZ, gS]))
  refine LcheckK f hs _ (by kernel_rfl) _ _ _ _ (by simp [e1]) (by simp) (by simp [e0]) (fun hk fr' h' e1 e0 => ?_) (fun hk fr' h' e2 => ?_)
  ·rw [hk]
   repeat' (first | ((first | refine wpc_split _ ?_ ?_ | refine ww_split _ ?_ ?_) <;> intro hc <;> try simp at hc) | (refine wp_drawF (by kernel_rfl) ?_) | refine wk_yldW _ ?_ | refine layOwe _ (by kernel_rfl) ?_ | refine owe ?_ (fun ho => ?_) | (simp (disch := first | assumption | omega | (simp; done) | (simp; omega)) [e1, e0, -getElem?_pos, gZ, gS]))
  ·rw [hk]
   repeat' (first | ((first | refine wpc_split _ ?_ ?_ | refine ww_split _ ?_ ?_) <;> intro hc <;> try simp at hc) | (refine wp_drawF (by kernel_rfl) ?_) | refine wk_yldW _ ?_ | refine layOwe _ (by kernel_rfl) ?_ | refine owe ?_ (fun ho => ?_) | (simp (disch := first | assumption | omega | (simp; done) | (simp; omega)) [e2, -getElem?_pos, gZ, gS]))
 ·rw [hk]
  repeat' (first | ((first | refine wpc_split _ ?_ ?_ | refine ww_split _ ?_ ?_) <;> intro hc <;> try simp at hc) | (refine wp_drawF (by kernel_rfl) ?_) | refine wk_yldW _ ?_ | refine layOwe _ (by kernel_rfl) ?_ | refine owe ?_ (fun ho => ?_) | (simp (disch := first | assumption | omega | (simp; done) | (simp; omega)) [e2, -getElem?_pos, gZ, gS]))
@[simp] theorem S37 (f : Font) (hs : f.gs.length < 1099511627776 ∧ f.ks.length < 1099511627776) (q1 q2 : Fl) (hh : Heap) : Ci cfg (.func (.func 37) [] []) [.agg [R  q1 eG f.gs, .int .i64 f.other, R  q2 eK f.ks]] hh = some (.ret (.int .i64 (checkS f)), hh) :=
 Ci_K cfg rfl rfl (by simp) (by simp) (C37 f hs)
end Go.Ab
namespace Go.Ab
open Go.Proofs
set_option maxRecDepth 100000
set_option maxHeartbeats 4000000
def gHit (f : Font) (r : Int) (i : Nat) : Bool := decide ((nth f.gs i).lo ≤ r ∧ r ≤ (nth f.gs i).hi)
def kHit (f : Font) (a b : Int) (i : Nat) : Bool := decide ((nth f.ks i).a = a ∧ (nth f.ks i).b = b)
def oneS (f : Font) (r : Int) : Int := match (List.range f.gs.length).find? (gHit f r) with
 | some i => (nth f.gs i).width
 | none => f.other
def nearS (f : Font) (a b : Int) : Int := match (List.range f.ks.length).find? (kHit f a b) with
 | some i => (nth f.ks i).by'
 | none => 0
theorem oneS_at {f : Font} {r : Int} {i : Nat} (hi : i < f.gs.length) (h : gHit f r i = true) (hb : ∀ j, j < i → gHit f r j = false) : oneS f r = (nth f.gs i).width := by
 unfold oneS; rw [findTo_some hi h hb]
theorem oneS_no {f : Font} {r : Int} (h : ∀ i, i < f.gs.length → gHit f r i = false) : oneS f r = f.other := by
 unfold oneS; rw [findTo_none h]
theorem nearS_at {f : Font} {a b : Int} {i : Nat} (hi : i < f.ks.length) (h : kHit f a b i = true) (hb : ∀ j, j < i → kHit f a b j = false) : nearS f a b = (nth f.ks i).by' := by
 unfold nearS; rw [findTo_some hi h hb]
theorem nearS_no {f : Font} {a b : Int} (h : ∀ i, i < f.ks.length → kHit f a b i = false) : nearS f a b = 0 := by
 unfold nearS; rw [findTo_none h]
theorem C77 (f : Font) (r : Int) (hs : f.gs.length < 1099511627776 ∧ f.ks.length < 1099511627776) : Kc cfg 77 [.agg [R fl0 eG f.gs, .int .i64 f.other, R fl0 eK f.ks], .int .i64 r] (.ret (.int .i64 (oneS f r))) := by
 refine outS_of_wp cfg (fn := Tryz.f77) Tryz.func77 rfl (by simp [Tryz.f77]) ?_
 simp (disch := first | assumption | omega | (simp; done) | (simp; omega)) [-getElem?_pos, gZ, gS, Tryz.f77]
 refine wp_loopE cfg rfl (fun f0 h0 m fr h => ∃ i : Nat, fr 1 = f0 1 ∧ fr 2 = f0 2 ∧ fr 5 = .int .i64 i ∧ h.bs = h0.bs ∧ (i + m = f.gs.length) ∧ (∀ j, j < i → gHit f r j = false)) (f.gs.length) _ _ ⟨0, rfl, rfl, by first | rfl | (simp; done) | (simp [R]; done) | simp [R], rfl, by first | rfl | (simp; done) | omega, by first | rfl | (simp; done) | omega⟩ ?_
 rintro Am Af Ah ⟨i, A1, A2, A5, Abs, hm, ht⟩ Aih
 try simp at A1 A2 Abs
 by_cases hi : i < f.gs.length
 ·by_cases hh : (nth f.gs i).lo ≤ r ∧ r ≤ (nth f.gs i).hi
  ·have ho := oneS_at hi (decide_eq_true hh) ht
   repeat' (first | ((first | refine wpc_split _ ?_ ?_ | refine ww_split _ ?_ ?_) <;> intro hc <;> try simp at hc) | (refine wp_drawF (by kernel_rfl) ?_) | refine wk_yldW _ ?_ | refine layOwe _ (by kernel_rfl) ?_ | refine owe ?_ (fun ho => ?_) | (simp (disch := first | assumption | omega | (simp; done) | (simp; omega)) [A1, A2, A5, Abs, eG, -getElem?_pos, gZ, gS]))
   exact ho.symm
  ·have hg : gHit f r i = false := decide_eq_false hh
   repeat' (first | ((first | refine wpc_split _ ?_ ?_ | refine ww_split _ ?_ ?_) <;> intro hc <;> try simp at hc) | (refine wp_drawF (by kernel_rfl) ?_) | refine wk_yldW _ ?_ | refine layOwe _ (by kernel_rfl) ?_ | refine owe ?_ (fun ho => ?_) | (simp (disch := first | assumption | omega | (simp; done) | (simp; omega)) [A1, A2, A5, Abs, eG, -getElem?_pos, gZ, gS]))
   all_goals first
    | (exfalso; omega)
    | exact Aih (Am - 1) _ _ (by omega) ⟨i + 1, by simp [A1, A2, A5, Abs], by simp [A1, A2, A5, Abs], by simp [A1, A2, A5, Abs], by simp [A1, A2, A5, Abs], by omega, fun j hj => if hji : j = i then by rw [hji]; exact hg else ht j (by omega)⟩
 ·have ho := oneS_no (f := f) (r := r) (fun j hj => ht j (by omega))
  repeat' (first | ((first | refine wpc_split _ ?_ ?_ | refine ww_split _ ?_ ?_) <;> intro hc <;> try simp at hc) | (refine wp_drawF (by kernel_rfl) ?_) | refine wk_yldW _ ?_ | refine layOwe _ (by kernel_rfl) ?_ | refine owe ?_ (fun ho => ?_) | (simp (disch := first | assumption | omega | (simp; done) | (simp; omega)) [A1, A2, A5, Abs, -getElem?_pos, gZ, gS]))
  exact ho.symm
@[simp] theorem S77 (f : Font) (r : Int) (hs : f.gs.length < 1099511627776 ∧ f.ks.length < 1099511627776) (q1 q2 : Fl) (hh : Heap) : Ci cfg (.func (.func 77) [] []) [.agg [R  q1 eG f.gs, .int .i64 f.other, R  q2 eK f.ks], .int .i64 r] hh = some (.ret (.int .i64 (oneS f r)), hh) :=
 Ci_K cfg rfl rfl (by simp) (by simp) (C77 f r hs)
theorem C78 (f : Font) (a b : Int) (hs : f.gs.length < 1099511627776 ∧ f.ks.length < 1099511627776) : Kc cfg 78 [.agg [R fl0 eG f.gs, .int .i64 f.other, R fl0 eK f.ks], .int .i64 a, .int .i64 b] (.ret (.int .i64 (nearS f a b))) := by
 refine outS_of_wp cfg (fn := Tryz.f78) Tryz.func78 rfl (by simp [Tryz.f78]) ?_
 simp (disch := first | assumption | omega | (simp; done) | (simp; omega)) [-getElem?_pos, gZ, gS, Tryz.f78]
 refine wp_loopE cfg rfl (fun f0 h0 m fr h => ∃ i : Nat, fr 1 = f0 1 ∧ fr 2 = f0 2 ∧ fr 3 = f0 3 ∧ fr 7 = .int .i64 i ∧ h.bs = h0.bs ∧ (i + m = f.ks.length) ∧ (∀ j, j < i → kHit f a b j = false)) (f.ks.length) _ _ ⟨0, rfl, rfl, rfl, by first | rfl | (simp; done) | (simp [R]; done) | simp [R], rfl, by first | rfl | (simp; done) | omega, by first | rfl | (simp; done) | omega⟩ ?_
 rintro Am Af Ah ⟨i, A1, A2, A3, A7, Abs, hm, ht⟩ Aih
 try simp at A1 A2 A3 Abs
 by_cases hi : i < f.ks.length
 ·by_cases hh : (nth f.ks i).a = a ∧ (nth f.ks i).b = b
  ·have ho := nearS_at hi (decide_eq_true hh) ht
   repeat' (first | ((first | refine wpc_split _ ?_ ?_ | refine ww_split _ ?_ ?_) <;> intro hc <;> try simp at hc) | (refine wp_drawF (by kernel_rfl) ?_) | refine wk_yldW _ ?_ | refine layOwe _ (by kernel_rfl) ?_ | refine owe ?_ (fun ho => ?_) | (simp (disch := first | assumption | omega | (simp; done) | (simp; omega)) [A1, A2, A3, A7, Abs, eK, hh.1, hh.2, -getElem?_pos, gZ, gS]))
   exact ho.symm
  ·have hg : kHit f a b i = false := decide_eq_false hh
   repeat' (first | ((first | refine wpc_split _ ?_ ?_ | refine ww_split _ ?_ ?_) <;> intro hc <;> try simp at hc) | (refine wp_drawF (by kernel_rfl) ?_) | refine wk_yldW _ ?_ | refine layOwe _ (by kernel_rfl) ?_ | refine owe ?_ (fun ho => ?_) | (simp (disch := first | assumption | omega | (simp; done) | (simp; omega)) [A1, A2, A3, A7, Abs, eK, -getElem?_pos, gZ, gS]))
   all_goals first
    | (exfalso; exact hh ⟨by assumption, by assumption⟩)
    | exact Aih (Am - 1) _ _ (by omega) ⟨i + 1, by simp [A1, A2, A3, A7, Abs], by simp [A1, A2, A3, A7, Abs], by simp [A1, A2, A3, A7, Abs], by simp [A1, A2, A3, A7, Abs], by simp [A1, A2, A3, A7, Abs], by omega, fun j hj => if hji : j = i then by rw [hji]; exact hg else ht j (by omega)⟩
 ·have ho := nearS_no (f := f) (a := a) (b := b) (fun j hj => ht j (by omega))
  repeat' (first | ((first | refine wpc_split _ ?_ ?_ | refine ww_split _ ?_ ?_) <;> intro hc <;> try simp at hc) | (refine wp_drawF (by kernel_rfl) ?_) | refine wk_yldW _ ?_ | refine layOwe _ (by kernel_rfl) ?_ | refine owe ?_ (fun ho => ?_) | (simp (disch := first | assumption | omega | (simp; done) | (simp; omega)) [A1, A2, A3, A7, Abs, -getElem?_pos, gZ, gS]))
  exact ho.symm
@[simp] theorem S78 (f : Font) (a b : Int) (hs : f.gs.length < 1099511627776 ∧ f.ks.length < 1099511627776) (q1 q2 : Fl) (hh : Heap) : Ci cfg (.func (.func 78) [] []) [.agg [R  q1 eG f.gs, .int .i64 f.other, R  q2 eK f.ks], .int .i64 a, .int .i64 b] hh = some (.ret (.int .i64 (nearS f a b)), hh) :=
 Ci_K cfg rfl rfl (by simp) (by simp) (C78 f a b hs)
def addS (f : Font) (l : List Int) (i : Nat) : Int := oneS f (nth l i) - (if 0 < i then nearS f (nth l (i - 1)) (nth l i) else 0)
def wTo (f : Font) (l : List Int) (n : Nat) : Int := sumTo n (addS f l)
theorem wTo_succ (f : Font) (l : List Int) (n : Nat) : wTo f l (n + 1) = wTo f l n + addS f l n := sumTo_succ n _
theorem checkS_ok {f : Font} (h : checkS f = 0) : (f.gs.length ≤ 1024 ∧ f.ks.length ≤ 1024) ∧ (0 ≤ f.other ∧ f.other ≤ 4096) ∧ gAll f.gs = true ∧ kAll f.ks = true := by
 unfold checkS at h
 split at h
 ·cases h
 ·split at h
  ·rename_i h1 h2
   simp only [Bool.and_eq_true, widthN_t] at h2
   exact ⟨by omega, h2.1.1, h2.1.2, h2.2⟩
  ·cases h
theorem oneS_bound {f : Font} (h : checkS f = 0) (r : Int) : 0 ≤ oneS f r ∧ oneS f r ≤ 4096 := by
 obtain ⟨_, h1, h2, _⟩ := checkS_ok h
 unfold oneS
 split
 ·rename_i i hi
  have hil : i < f.gs.length := by simpa using List.mem_of_find?_eq_some hi
  have := allTo_iff.1 h2 i hil
  simp only [Bool.and_eq_true, gOk, decide_eq_true_eq] at this
  omega
 ·exact h1
theorem nearS_bound {f : Font} (h : checkS f = 0) (a b : Int) : -4096 ≤ nearS f a b ∧ nearS f a b ≤ 4096 := by
 obtain ⟨_, _, _, h2⟩ := checkS_ok h
 unfold nearS
 split
 ·rename_i i hi
  have hil : i < f.ks.length := by simpa using List.mem_of_find?_eq_some hi
  have := allTo_iff.1 h2 i hil
  simp only [Bool.and_eq_true, kOk, decide_eq_true_eq] at this
  omega
 ·omega
theorem addS_bound {f : Font} (h : checkS f = 0) (l : List Int) (i : Nat) : -4096 ≤ addS f l i ∧ addS f l i ≤ 8192 := by
 unfold addS
 have h1 := oneS_bound h (nth l i)
 have h2 := nearS_bound h (nth l (i - 1)) (nth l i)
 split <;> omega
theorem wTo_bound {f : Font} (h : checkS f = 0) (l : List Int) (n : Nat) : -4096 * n ≤ wTo f l n ∧ wTo f l n ≤ 8192 * n :=
 sumTo_bound (by omega) (by omega) fun i _ => addS_bound h l i
theorem C52 (f : Font) (l : List Int) (hs : f.gs.length < 1099511627776 ∧ f.ks.length < 1099511627776) (hc0 : checkS f = 0) (hl : l.length ≤ 4096) : Kc cfg 52 [.agg [R fl0 eG f.gs, .int .i64 f.other, R fl0 eK f.ks], R fl0 eI l] (.ret (.int .i64 (wTo f l l.length))) := by
 refine outS_of_wp cfg (fn := Tryz.f52) Tryz.func52 rfl (by simp [Tryz.f52]) ?_
 simp (disch := first | assumption | omega | (simp; done) | (simp; omega)) [-getElem?_pos, gZ, gS, Tryz.f52]
 refine wp_loopE cfg rfl (fun f0 h0 m fr h => ∃ i : Nat, fr 1 = f0 1 ∧ fr 2 = f0 2 ∧ fr 5 = .int .i64 (wTo f l i) ∧ fr 6 = .int .i64 i ∧ h.bs = h0.bs ∧ (i + m = l.length)) (l.length) _ _ ⟨0, rfl, rfl, by first | rfl | (simp; done) | (simp [R]; done) | simp [R], by first | rfl | (simp; done) | (simp [R]; done) | simp [R], rfl, by first | rfl | (simp; done) | omega⟩ ?_
 rintro Am Af Ah ⟨i, A1, A2, A5, A6, Abs, hm⟩ Aih
 try simp at A1 A2 Abs
 have hb := wTo_bound hc0 l i
 by_cases hi : i < l.length
 ·have h1 := oneS_bound hc0 (nth l i)
  have h2 := nearS_bound hc0 (nth l (i - 1)) (nth l i)
  have hsu := wTo_succ f l i
  by_cases hz : i = 0
  ·subst hz
   have ha : addS f l 0 = oneS f (nth l 0) := by unfold addS; simp
   rw [ha] at hsu
   repeat' (first | ((first | refine wpc_split _ ?_ ?_ | refine ww_split _ ?_ ?_) <;> intro hc <;> try simp at hc) | (refine wp_drawF (by kernel_rfl) ?_) | refine wk_yldW _ ?_ | refine layOwe _ (by kernel_rfl) ?_ | refine owe ?_ (fun ho => ?_) | (simp (disch := first | assumption | omega | (simp; done) | (simp; omega)) [A1, A2, A5, A6, Abs, eI, -getElem?_pos, gZ, gS]))
   exact Aih (Am - 1) _ _ (by omega) ⟨0 + 1, by simp [A1, A2, A5, A6, Abs, hsu], by simp [A1, A2, A5, A6, Abs, hsu], by simp [A1, A2, A5, A6, Abs, hsu], by simp [A1, A2, A5, A6, Abs, hsu], by simp [A1, A2, A5, A6, Abs, hsu], by omega⟩
  ·have h4 : (((i : Int) - 1).toNat) = i - 1 := by omega
   have ha : addS f l i = oneS f (nth l i) - nearS f (nth l (i - 1)) (nth l i) := by unfold addS; rw [if_pos (by omega)]
   rw [ha] at hsu
   have hsu2 : wTo f l i + oneS f (nth l i) - nearS f (nth l (i - 1)) (nth l i) = wTo f l (i + 1) := by omega
   repeat' (first | ((first | refine wpc_split _ ?_ ?_ | refine ww_split _ ?_ ?_) <;> intro hc <;> try simp at hc) | (refine wp_drawF (by kernel_rfl) ?_) | refine wk_yldW _ ?_ | refine layOwe _ (by kernel_rfl) ?_ | refine owe ?_ (fun ho => ?_) | (simp (disch := first | assumption | omega | (simp; done) | (simp; omega)) [A1, A2, A5, A6, Abs, eI, h4, -getElem?_pos, gZ, gS]))
   exact Aih (Am - 1) _ _ (by omega) ⟨i + 1, by simp [A1, A2, A5, A6, Abs, hsu2], by simp [A1, A2, A5, A6, Abs, hsu2], by simp [A1, A2, A5, A6, Abs, hsu2], by simp [A1, A2, A5, A6, Abs, hsu2], by simp [A1, A2, A5, A6, Abs, hsu2], by omega⟩
 ·have hi2 : i = l.length := by omega
  subst hi2
  repeat' (first | ((first | refine wpc_split _ ?_ ?_ | refine ww_split _ ?_ ?_) <;> intro hc <;> try simp at hc) | (refine wp_drawF (by kernel_rfl) ?_) | refine wk_yldW _ ?_ | refine layOwe _ (by kernel_rfl) ?_ | refine owe ?_ (fun ho => ?_) | (simp (disch := first | assumption | omega | (simp; done) | (simp; omega)) [A1, A2, A5, A6, Abs, -getElem?_pos, gZ, gS]))
@[simp] theorem S52 (f : Font) (l : List Int) (hs : f.gs.length < 1099511627776 ∧ f.ks.length < 1099511627776) (hc0 : checkS f = 0) (hl : l.length ≤ 4096) (q1 q2 q3 : Fl) (hh : Heap) : Ci cfg (.func (.func 52) [] []) [.agg [R  q1 eG f.gs, .int .i64 f.other, R  q2 eK f.ks], R  q3 eI l] hh = some (.ret (.int .i64 (wTo f l l.length)), hh) :=
 Ci_K cfg rfl rfl (by simp) (by simp) (C52 f l hs hc0 hl)
end Go.Ab
namespace Go.Ab
open Go.Proofs
set_option maxRecDepth 100000
set_option maxHeartbeats 4000000
def widthS (f : Font) (s : List UInt8) : Int × Int := if checkS f ≠ 0 then (0, checkS f) else if (runesG s).2 ≠ 0 then (0, (runesG s).2) else (wTo f (runesG s).1 (runesG s).1.length, 0)
theorem runesG_len' (s : List UInt8) : (runesG s).1.length ≤ 4096 := by
 unfold runesG
 split
 ·simp
 ·cases hr : runes s with
  | none => simp
  | some l => have := runes_len _ _ _ (Nat.le_refl _) hr; simp only; omega
theorem C32 (f : Font) (s : List UInt8) (hs : f.gs.length < 1099511627776 ∧ f.ks.length < 1099511627776) (hl : s.length < 1099511627776) : Kc cfg 32 [.agg [R fl0 eG f.gs, .int .i64 f.other, R fl0 eK f.ks], .str s] (.ret (.tuple [.int .i64 (widthS f s).1, .int .i64 (widthS f s).2])) := by
 have hn := runesG_len' s
 refine outS_of_wp cfg (fn := Tryz.f32) Tryz.func32 rfl (by simp [Tryz.f32]) ?_
 simp (disch := first | assumption | omega | (simp; done) | (simp; omega)) [-getElem?_pos, gZ, gS, Tryz.f32]
 repeat' (first | ((first | refine wpc_split _ ?_ ?_ | refine ww_split _ ?_ ?_) <;> intro hc <;> try simp at hc) | (refine wp_drawF (by kernel_rfl) ?_) | refine wk_yldW _ ?_ | refine layOwe _ (by kernel_rfl) ?_ | refine owe ?_ (fun ho => ?_) | (simp (disch := first | assumption | omega | (simp; done) | (simp; omega)) [-getElem?_pos, gZ, gS]))
 all_goals (unfold widthS; simp [*])
@[simp] theorem S32 (f : Font) (s : List UInt8) (hs : f.gs.length < 1099511627776 ∧ f.ks.length < 1099511627776) (hl : s.length < 1099511627776) (q1 q2 : Fl) (hh : Heap) : Ci cfg (.func (.func 32) [] []) [.agg [R  q1 eG f.gs, .int .i64 f.other, R  q2 eK f.ks], .str s] hh = some (.ret (.tuple [.int .i64 (widthS f s).1, .int .i64 (widthS f s).2]), hh) :=
 Ci_K cfg rfl rfl (by simp) (by simp) (C32 f s hs hl)
def fitTo (f : Font) (l : List Int) (room : Int) : Nat → Int × Int
 | 0 => (0, 0)
 | n + 1 => if wTo f l (n + 1) ≤ room then (((n + 1 : Nat) : Int), wTo f l (n + 1)) else fitTo f l room n
def fitS (f : Font) (s : List UInt8) (room : Int) : Int × Int × Int := if checkS f ≠ 0 then (0, 0, checkS f) else if (runesG s).2 ≠ 0 then (0, 0, (runesG s).2) else ((fitTo f (runesG s).1 room (runesG s).1.length).1, (fitTo f (runesG s).1 room (runesG s).1.length).2, 0)
end Go.Ab
