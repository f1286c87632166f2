/- A part of the proof. -/
import Derived.Test.YtigmnglnedcfpaaGreatDoorJ4
import Derived.Test.YtigmnglnedcfpaaGreatDoorGr32
import Derived.Test.YtigmnglnedcfpaaGreatDoorGr31
set_option linter.unusedVariables false
set_option linter.unusedSimpArgs false
set_option linter.unusedSectionVars false
set_option linter.deprecated false
namespace Go.Ab
open Go.Proofs
set_option maxRecDepth 100000
set_option maxHeartbeats 4000000
theorem C22 (t : List Sgn) (l : List Nat) (hs : smZs t) (hl : (∀ k ∈ l, k < t.length) ∧ l.length < 1048576 ∧ ∀ x ∈ t, x.text.length ≤ 64) : Kc cfg 22 [R fl0 eZ t, R fl0 eI (l.map fun (k : Nat) => (k : Int))] (.ret (.str (textZ t l))) := by
 have hs1 := hs.1
 obtain ⟨hl1, hl2, hl3⟩ := hl
 have hlm : (l.map fun (k : Nat) => (k : Int)).length = l.length := by simp
 refine outS_of_wp cfg (fn := Tryz.f22) Tryz.func22 rfl (by simp [Tryz.f22]) ?_
 simp (disch := first | assumption | omega | (simp; done) | (simp; omega)) [-getElem?_pos, gZ, gS, Tryz.f22, hlm]
 repeat' (first | ((first | refine wpc_split _ ?_ ?_ | refine ww_split _ ?_ ?_) <;> intro hc <;> try simp at hc) | (refine wp_drawF (by kernel_rfl) ?_) | refine wk_yldW _ ?_ | refine layOwe _ (by kernel_rfl) ?_ | refine owe ?_ (fun ho => ?_) | (simp (disch := first | assumption | omega | (simp; done) | (simp; omega)) [hlm, -getElem?_pos, gZ, gS]))
 refine wp_loopE cfg rfl (fun f0 h0 m fr h => ∃ i : Nat, fr 0 = f0 0 ∧ fr 1 = f0 1 ∧ fr 6 = .int .i64 i ∧ fr 5 = .str (textZ t (l.take i)) ∧ (i + m = l.length) ∧ ((textZ t (l.take i)).length ≤ 64 * i)) (l.length) _ _ ⟨0, rfl, rfl, by first | rfl | (simp; done) | (simp [R]; done) | simp [R], by simp [textZ], by first | rfl | (simp; done) | omega, Nat.zero_le _⟩ ?_
 rintro Am Af Ah ⟨i, A0, A1, A6, A5, hm, hc⟩ Aih
 try simp at A0 A1
 by_cases hi : i < l.length
 ·have hk := hl1 _ (nth_mem hi)
  have hn : nth (l.map fun (k : Nat) => (k : Int)) i = ((nth l i : Nat) : Int) := by
   rw [nth_eq (by simpa using hi), nth_eq hi]; simp
  have hcx := hl3 _ (nth_mem hk)
  have hst : textZ t (l.take (i + 1)) = textZ t (l.take i) ++ (nth t (nth l i)).text := by rw [nth_take hi]; simp [textZ]
  have hc3 : (textZ t (l.take (i + 1))).length ≤ 64 * (i + 1) := by rw [hst, List.length_append]; omega
  repeat' (first | ((first | refine wpc_split _ ?_ ?_ | refine ww_split _ ?_ ?_) <;> intro hc <;> try simp at hc) | (refine wp_drawF (by kernel_rfl) ?_) | refine wk_yldW _ ?_ | refine layOwe _ (by kernel_rfl) ?_ | refine owe ?_ (fun ho => ?_) | (simp (disch := first | assumption | omega | (simp; done) | (simp; omega)) [A0, A1, A6, A5, hlm, hi, hn, hk, eI, -getElem?_pos, gZ, gS]))
  all_goals try (exfalso; omega)
  exact Aih (Am - 1) _ _ (by omega) ⟨i + 1, by simp [A0, A1, A6, A5, hst], by simp [A0, A1, A6, A5, hst], by simp [A0, A1, A6, A5, hst], by simp [A0, A1, A6, A5, hst], by omega, hc3⟩
 ·have h1 : l.take i = l := List.take_of_length_le (by omega)
  rw [h1] at A5
  repeat' (first | ((first | refine wpc_split _ ?_ ?_ | refine ww_split _ ?_ ?_) <;> intro hc <;> try simp at hc) | (refine wp_drawF (by kernel_rfl) ?_) | refine wk_yldW _ ?_ | refine layOwe _ (by kernel_rfl) ?_ | refine owe ?_ (fun ho => ?_) | (simp (disch := first | assumption | omega | (simp; done) | (simp; omega)) [A0, A1, A6, A5, hlm, -getElem?_pos, gZ, gS]))
@[simp] theorem S22 (t : List Sgn) (l : List Nat) (hs : smZs t) (hl : (∀ k ∈ l, k < t.length) ∧ l.length < 1048576 ∧ ∀ x ∈ t, x.text.length ≤ 64) (q1 q2 : Fl) (hh : Heap) : Ci cfg (.func (.func 22) [] []) [R  q1 eZ t, R  q2 eI (l.map fun (k : Nat) => (k : Int))] hh = some (.ret (.str (textZ t l)), hh) :=
 Ci_K cfg rfl rfl (by simp) (by simp) (C22 t l hs hl)
end Go.Ab
namespace Go.Ab
open Go.Proofs
set_option maxRecDepth 100000
set_option maxHeartbeats 4000000
theorem nats_of : ∀ {n : Nat} {l : List Int}, (∀ x ∈ l, 0 ≤ x ∧ x < (n : Int)) → ∃ m : List Nat, l = m.map (fun (k : Nat) => (k : Int)) ∧ ∀ k ∈ m, k < n
 | _, [], _ => ⟨[], rfl, fun k hk => by cases hk⟩
 | n, x :: l, h => by
  obtain ⟨m, h1, h2⟩ := nats_of (fun y hy => h y (List.mem_cons_of_mem _ hy))
  obtain ⟨a, b⟩ := h x List.mem_cons_self
  refine ⟨x.toNat :: m, by rw [List.map_cons, ← h1, Int.toNat_of_nonneg a], fun k hk => ?_⟩
  rcases List.mem_cons.1 hk with rfl | hk
  ·omega
  ·exact h2 k hk
theorem C7 (v : VwZ) (l : List Int) (hs : smVw v) (hl : l.length < 1099511627776) : Kc cfg 7 [.agg [.int .i64 v.no, .int .i64 v.lang, .int .i64 v.lines, .int .i64 v.room, .int .i64 v.cells, .int .i64 v.speed, .bool v.right, R fl0 eG v.font.gs, .int .i64 v.font.other, R fl0 eK v.font.ks, R fl0 eZ v.signs, .int .i64 v.scr.w, .int .i64 v.scr.h, R fl0 eQ v.scr.bl], R fl0 eI l] (.ret (.bool true)) := by
 have hs2 := hs.2.1
 cases hf : fewW v [] with
 | false =>
  refine outS_of_wp cfg (fn := Tryz.f7) Tryz.func7 rfl (by simp [Tryz.f7]) ?_
  simp (disch := first | assumption | omega | (simp; done) | (simp; omega)) [-getElem?_pos, gZ, gS, Tryz.f7, hs, hf, emptyH]
  repeat' (first | ((first | refine wpc_split _ ?_ ?_ | refine ww_split _ ?_ ?_) <;> intro hc <;> try simp at hc) | (refine wp_drawF (by kernel_rfl) ?_) | refine wk_yldW _ ?_ | refine layOwe _ (by kernel_rfl) ?_ | refine owe ?_ (fun ho => ?_) | (simp (disch := first | assumption | omega | (simp; done) | (simp; omega)) [hs, hf, emptyH, -getElem?_pos, gZ, gS]))
 | true =>
 cases hv : vwR v with
 | false =>
  refine outS_of_wp cfg (fn := Tryz.f7) Tryz.func7 rfl (by simp [Tryz.f7]) ?_
  simp (disch := first | assumption | omega | (simp; done) | (simp; omega)) [-getElem?_pos, gZ, gS, Tryz.f7, hs, hf, hv, emptyH]
  repeat' (first | ((first | refine wpc_split _ ?_ ?_ | refine ww_split _ ?_ ?_) <;> intro hc <;> try simp at hc) | (refine wp_drawF (by kernel_rfl) ?_) | refine wk_yldW _ ?_ | refine layOwe _ (by kernel_rfl) ?_ | refine owe ?_ (fun ho => ?_) | (simp (disch := first | assumption | omega | (simp; done) | (simp; omega)) [hs, hf, hv, emptyH, -getElem?_pos, gZ, gS]))
 | true =>
 by_cases hc : v.cells = 0
 ·have hce : (v.cells = 0) = True := eq_true hc
  refine outS_of_wp cfg (fn := Tryz.f7) Tryz.func7 rfl (by simp [Tryz.f7]) ?_
  simp (disch := first | assumption | omega | (simp; done) | (simp; omega)) [-getElem?_pos, gZ, gS, Tryz.f7, hs, hf, hv, hce, emptyH]
  repeat' (first | ((first | refine wpc_split _ ?_ ?_ | refine ww_split _ ?_ ?_) <;> intro hc <;> try simp at hc) | (refine wp_drawF (by kernel_rfl) ?_) | refine wk_yldW _ ?_ | refine layOwe _ (by kernel_rfl) ?_ | refine owe ?_ (fun ho => ?_) | (simp (disch := first | assumption | omega | (simp; done) | (simp; omega)) [hs, hf, hv, hce, emptyH, -getElem?_pos, gZ, gS]))
 have hce : (v.cells = 0) = False := eq_false hc
 by_cases hlen : 9 < l.length
 ·skip
  refine outS_of_wp cfg (fn := Tryz.f7) Tryz.func7 rfl (by simp [Tryz.f7]) ?_
  simp (disch := first | assumption | omega | (simp; done) | (simp; omega)) [-getElem?_pos, gZ, gS, Tryz.f7, hs, hf, hv, hce, emptyH]
  repeat' (first | ((first | refine wpc_split _ ?_ ?_ | refine ww_split _ ?_ ?_) <;> intro hc <;> try simp at hc) | (refine wp_drawF (by kernel_rfl) ?_) | refine wk_yldW _ ?_ | refine layOwe _ (by kernel_rfl) ?_ | refine owe ?_ (fun ho => ?_) | (simp (disch := first | assumption | omega | (simp; done) | (simp; omega)) [hs, hf, hv, hce, emptyH, -getElem?_pos, gZ, gS]))
  all_goals try omega
 have hk := ((vwR_c hc).1 hv).2.2.2.1
 refine outS_of_wp cfg (fn := Tryz.f7) Tryz.func7 rfl (by simp [Tryz.f7]) ?_
 simp (disch := first | assumption | omega | (simp; done) | (simp; omega)) [-getElem?_pos, gZ, gS, Tryz.f7, hs, hf, hv, hce, emptyH]
 repeat' (first | ((first | refine wpc_split _ ?_ ?_ | refine ww_split _ ?_ ?_) <;> intro hc <;> try simp at hc) | (refine wp_drawF (by kernel_rfl) ?_) | refine wk_yldW _ ?_ | refine layOwe _ (by kernel_rfl) ?_ | refine owe ?_ (fun ho => ?_) | (simp (disch := first | assumption | omega | (simp; done) | (simp; omega)) [hs, hf, hv, hce, emptyH, -getElem?_pos, gZ, gS]))
 all_goals try (exfalso; omega)
 refine wp_loopE cfg rfl (fun f0 h0 m fr h => ∃ i : Nat, fr 1 = f0 1 ∧ fr 2 = f0 2 ∧ fr 30 = f0 30 ∧ fr 31 = f0 31 ∧ fr 32 = .int .i64 i ∧ h.bs = h0.bs ∧ (i + m = l.length) ∧ (∀ j, j < i → 0 ≤ nth l j ∧ nth l j < (v.signs.length : Int))) (l.length) _ _ ⟨0, rfl, rfl, rfl, rfl, by first | rfl | (simp; done) | (simp [R]; done) | simp [R], rfl, by first | rfl | (simp; done) | omega, (fun j hj => by omega)⟩ ?_
 rintro Am Af Ah ⟨i, A1, A2, A30, A31, A32, Abs, hm, hx⟩ Aih
 try simp at A1 A2 A30 A31 Abs
 by_cases hi : i < l.length
 ·by_cases hin : 0 ≤ nth l i ∧ nth l i < (v.signs.length : Int)
  ·repeat' (first | ((first | refine wpc_split _ ?_ ?_ | refine ww_split _ ?_ ?_) <;> intro hc <;> try simp at hc) | (refine wp_drawF (by kernel_rfl) ?_) | refine wk_yldW _ ?_ | refine layOwe _ (by kernel_rfl) ?_ | refine owe ?_ (fun ho => ?_) | (simp (disch := first | assumption | omega | (simp; done) | (simp; omega)) [A1, A2, A30, A31, A32, Abs, hi, eI, hin.1, hin.2, -getElem?_pos, gZ, gS]))
   all_goals try (exfalso; omega)
   exact Aih (Am - 1) _ _ (by omega) ⟨i + 1, by simp [A1, A2, A30, A31, A32, Abs], by simp [A1, A2, A30, A31, A32, Abs], by simp [A1, A2, A30, A31, A32, Abs], by simp [A1, A2, A30, A31, A32, Abs], by simp [A1, A2, A30, A31, A32, Abs], by simp [A1, A2, A30, A31, A32, Abs], by omega, (fun j hj => by (by_cases e : j = i; (subst e; exact hin); exact hx j (by omega)))⟩
  ·repeat' (first | ((first | refine wpc_split _ ?_ ?_ | refine ww_split _ ?_ ?_) <;> intro hc <;> try simp at hc) | (refine wp_drawF (by kernel_rfl) ?_) | refine wk_yldW _ ?_ | refine layOwe _ (by kernel_rfl) ?_ | refine owe ?_ (fun ho => ?_) | (simp (disch := first | assumption | omega | (simp; done) | (simp; omega)) [A1, A2, A30, A31, A32, Abs, hi, eI, -getElem?_pos, gZ, gS]))
   all_goals try (exfalso; omega)
 ·obtain ⟨m, rfl, hm2⟩ := nats_of (n := v.signs.length) (l := l) (fun x hxl => by
   obtain ⟨j, hj, rfl⟩ := List.mem_iff_getElem.1 hxl
   rw [← nth_eq hj]; exact hx j (by omega))
  have hml : (m.map fun (k : Nat) => (k : Int)).length = m.length := by simp
  obtain ⟨c1, c2, c3⟩ := checkZ_zero hk
  have hcz : ∀ x ∈ v.signs, 1 ≤ x.cells.length ∧ x.cells.length ≤ 64 := fun x hx => by
   obtain ⟨j, hj, rfl⟩ := List.mem_iff_getElem.1 hx
   obtain ⟨⟨_, _, _, e4, e5⟩, _, _⟩ := sgnAt_of (c3 j hj)
   rw [nth_eq hj] at e4 e5
   exact ⟨e4, by omega⟩
  have htz : ∀ x ∈ v.signs, x.text.length ≤ 64 := tab_text hk
  have hC : (∀ k ∈ m, k < v.signs.length) ∧ m.length < 1048576 ∧ ∀ x ∈ v.signs, 1 ≤ x.cells.length ∧ x.cells.length ≤ 64 := ⟨hm2, by omega, hcz⟩
  have hT : (∀ k ∈ m, k < v.signs.length) ∧ m.length < 1048576 ∧ ∀ x ∈ v.signs, x.text.length ≤ 64 := ⟨hm2, by omega, htz⟩
  by_cases hbig : (textZ v.signs m).length ≤ 40
  ·obtain ⟨w, hw, w1, w2⟩ := width_fewest hv hc hm2 hbig
   have hwl : (textZ v.signs m).length < 1099511627776 := by omega
   have hcl := cellsZ_le hk m hm2
   repeat' (first | ((first | refine wpc_split _ ?_ ?_ | refine ww_split _ ?_ ?_) <;> intro hc <;> try simp at hc) | (refine wp_drawF (by kernel_rfl) ?_) | refine wk_yldW _ ?_ | refine layOwe _ (by kernel_rfl) ?_ | refine owe ?_ (fun ho => ?_) | (simp (disch := first | assumption | omega | (simp; done) | (simp; omega)) [A1, A2, A30, A31, A32, Abs, hs, hC, hT, hbig, hw, hwl, hml, emptyH, -getElem?_pos, gZ, gS]))
   all_goals try omega
  ·repeat' (first | ((first | refine wpc_split _ ?_ ?_ | refine ww_split _ ?_ ?_) <;> intro hc <;> try simp at hc) | (refine wp_drawF (by kernel_rfl) ?_) | refine wk_yldW _ ?_ | refine layOwe _ (by kernel_rfl) ?_ | refine owe ?_ (fun ho => ?_) | (simp (disch := first | assumption | omega | (simp; done) | (simp; omega)) [A1, A2, A30, A31, A32, Abs, hs, hC, hT, hbig, hml, emptyH, -getElem?_pos, gZ, gS]))
   all_goals try omega
@[simp] theorem S7 (v : VwZ) (l : List Int) (hs : smVw v) (hl : l.length < 1099511627776) (q1 q2 q3 q4 q5 : Fl) (hh : Heap) : Ci cfg (.func (.func 7) [] []) [.agg [.int .i64 v.no, .int .i64 v.lang, .int .i64 v.lines, .int .i64 v.room, .int .i64 v.cells, .int .i64 v.speed, .bool v.right, R  q1 eG v.font.gs, .int .i64 v.font.other, R  q2 eK v.font.ks, R  q3 eZ v.signs, .int .i64 v.scr.w, .int .i64 v.scr.h, R  q4 eQ v.scr.bl], R  q5 eI l] hh = some (.ret (.bool true), hh) :=
 Ci_K cfg rfl rfl (by simp) (by simp) (C7 v l hs hl)
end Go.Ab
