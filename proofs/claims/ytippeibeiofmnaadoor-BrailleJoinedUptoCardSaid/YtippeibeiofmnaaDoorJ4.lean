
import Derived.Test.YtippeibeiofmnaaDoorGr8
set_option linter.unusedVariables false
set_option linter.unusedSimpArgs false
set_option linter.unusedSectionVars false
set_option linter.deprecated false
namespace Go.Ab
open Go.Proofs
set_option maxRecDepth 100000
set_option maxHeartbeats 4000000
theorem preZ_at {p s : Wd} {i : Nat} (h : i + p.length ≤ s.length) : preZ p (s.drop i) = ((s.take (i + p.length)).drop i == p) := by
 rw [preZ_short (by rw [List.length_drop]; omega), List.drop_take, Nat.add_sub_cancel_left]
theorem preZ_no {p s : Wd} {i : Nat} (h : ¬ i + p.length ≤ s.length) (h0 : 0 < p.length) : preZ p (s.drop i) = false := preZ_long (by rw [List.length_drop]; omega)
theorem C32 (s : List UInt8) (i : Nat) (p : List UInt8) (hs : s.length < 1099511627776) (hi : i ≤ s.length) (hp : 0 < p.length ∧ p.length < 1099511627776) : Kc cfg 32 [.str s, .int .i64 i, .str p] (.ret (.bool (preZ p (s.drop i)))) := by
 obtain ⟨hp0, hp1⟩ := hp
 by_cases h : i + p.length ≤ s.length
 ·rw [preZ_at h]
  have hti : ((i : Int) + (p.length : Int)).toNat = i + p.length := by omega
  refine outS_of_wp cfg (fn := Tryd.f32) Tryd.func32 rfl (by simp [Tryd.f32]) ?_
  simp (disch := first | assumption | omega | (simp; done) | (simp; omega)) [-getElem?_pos, gZ, gS, Tryd.f32, h, hti]
  repeat' (first | ((first | refine wpc_split _ ?_ ?_ | refine ww_split _ ?_ ?_) <;> intro hc <;> try simp at hc) | (refine wp_drawF (by kernel_rfl) ?_) | refine wk_yldW _ ?_ | refine layOwe _ (by kernel_rfl) ?_ | refine owe ?_ (fun ho => ?_) | (simp (disch := first | assumption | omega | (simp; done) | (simp; omega)) [h, hti, -getElem?_pos, gZ, gS]))
  all_goals try (exfalso; omega)
 ·rw [preZ_no h hp0]
  refine outS_of_wp cfg (fn := Tryd.f32) Tryd.func32 rfl (by simp [Tryd.f32]) ?_
  simp (disch := first | assumption | omega | (simp; done) | (simp; omega)) [-getElem?_pos, gZ, gS, Tryd.f32, h]
  repeat' (first | ((first | refine wpc_split _ ?_ ?_ | refine ww_split _ ?_ ?_) <;> intro hc <;> try simp at hc) | (refine wp_drawF (by kernel_rfl) ?_) | refine wk_yldW _ ?_ | refine layOwe _ (by kernel_rfl) ?_ | refine owe ?_ (fun ho => ?_) | (simp (disch := first | assumption | omega | (simp; done) | (simp; omega)) [h, -getElem?_pos, gZ, gS]))
  all_goals try (exfalso; omega)
@[simp] theorem S32 (s : List UInt8) (i : Nat) (p : List UInt8) (hs : s.length < 1099511627776) (hi : i ≤ s.length) (hp : 0 < p.length ∧ p.length < 1099511627776) (hh : Heap) : Ci cfg (.func (.func 32) [] []) [.str s, .int .i64 i, .str p] hh = some (.ret (.bool (preZ p (s.drop i))), hh) :=
 Ci_K cfg rfl rfl (by simp) (by simp) (C32 s i p hs hi hp)
theorem C24 (t : List Sgn) (l : List Nat) (hs : smZs t) (hl : (∀ k ∈ l, k < t.length) ∧ l.length < 1048576 ∧ ∀ x ∈ t, 1 ≤ x.cells.length ∧ x.cells.length ≤ 64) : Kc cfg 24 [R fl0 eZ t, R fl0 eI (l.map fun (k : Nat) => (k : Int))] (.ret (R fl0 eI (cellsZ t l))) := by
 have hs1 := hs.1
 obtain ⟨hl1, hl2, hl3⟩ := hl
 have hlm : (l.map fun (k : Nat) => (k : Int)).length = l.length := by simp
 refine outS_of_wp cfg (fn := Tryd.f24) Tryd.func24 rfl (by simp [Tryd.f24]) ?_
 simp (disch := first | assumption | omega | (simp; done) | (simp; omega)) [-getElem?_pos, gZ, gS, Tryd.f24, hlm]
 repeat' (first | ((first | refine wpc_split _ ?_ ?_ | refine ww_split _ ?_ ?_) <;> intro hc <;> try simp at hc) | (refine wp_drawF (by kernel_rfl) ?_) | refine wk_yldW _ ?_ | refine layOwe _ (by kernel_rfl) ?_ | refine owe ?_ (fun ho => ?_) | (simp (disch := first | assumption | omega | (simp; done) | (simp; omega)) [hlm, -getElem?_pos, gZ, gS]))
 refine wp_loopE cfg rfl (fun f0 h0 m fr h => ∃ i : Nat, ∃ q : Fl, fr 0 = f0 0 ∧ fr 1 = f0 1 ∧ fr 6 = .int .i64 i ∧ fr 5 = R q eI (cellsZ t (l.take i)) ∧ (App h.ts 1 q) ∧ (i + m = l.length) ∧ ((cellsZ t (l.take i)).length ≤ 64 * i)) (l.length) _ _ ⟨0, (false, true, none), rfl, rfl, by first | rfl | (simp; done) | (simp [R]; done) | simp [R], by simp [R, cellsZ], App.full _ _ _, by first | rfl | (simp; done) | omega, Nat.zero_le _⟩ ?_
 rintro Am Af Ah ⟨i, q, A0, A1, A6, A5, ha, hm, hc⟩ Aih
 try simp at A0 A1
 by_cases hi : i < l.length
 ·have hk := hl1 _ (nth_mem hi)
  have hn : nth (l.map fun (k : Nat) => (k : Int)) i = ((nth l i : Nat) : Int) := by
   rw [nth_eq (by simpa using hi), nth_eq hi]; simp
  have hcx := hl3 _ (nth_mem hk)
  have hst : cellsZ t (l.take (i + 1)) = cellsZ t (l.take i) ++ (nth t (nth l i)).cells := by rw [nth_take hi]; simp [cellsZ]
  have hne : ¬ (nth t (nth l i)).cells = [] := fun e => by rw [e] at hcx; simp at hcx
  have hll2 : (cellsZ t (l.take i)).length + (nth t (nth l i)).cells.length ≤ 4294967296 := by omega
  have hc3 : (cellsZ t (l.take (i + 1))).length ≤ 64 * (i + 1) := by rw [hst, List.length_append]; omega
  repeat' (first | ((first | refine wpc_split _ ?_ ?_ | refine ww_split _ ?_ ?_) <;> intro hc <;> try simp at hc) | (refine wp_drawF (by kernel_rfl) ?_) | refine wk_yldW _ ?_ | refine layOwe _ (by kernel_rfl) ?_ | refine owe ?_ (fun ho => ?_) | (simp (disch := first | assumption | omega | (simp; done) | (simp; omega)) [A0, A1, A6, A5, hlm, hi, hn, hk, hne, eI, append_Rn, -getElem?_pos, gZ, gS]))
  all_goals try (exfalso; omega)
  exact Aih (Am - 1) _ _ (by omega) ⟨i + 1, _, by simp [A0, A1, A6, A5, hst], by simp [A0, A1, A6, A5, hst], by simp [A0, A1, A6, A5, hst], by simp [A0, A1, A6, A5, hst], App.new _ _ _, by omega, hc3⟩
 ·have h1 : l.take i = l := List.take_of_length_le (by omega)
  rw [h1] at A5
  repeat' (first | ((first | refine wpc_split _ ?_ ?_ | refine ww_split _ ?_ ?_) <;> intro hc <;> try simp at hc) | (refine wp_drawF (by kernel_rfl) ?_) | refine wk_yldW _ ?_ | refine layOwe _ (by kernel_rfl) ?_ | refine owe ?_ (fun ho => ?_) | (simp (disch := first | assumption | omega | (simp; done) | (simp; omega)) [A0, A1, A6, A5, hlm, -getElem?_pos, gZ, gS]))
@[simp] theorem S24 (t : List Sgn) (l : List Nat) (hs : smZs t) (hl : (∀ k ∈ l, k < t.length) ∧ l.length < 1048576 ∧ ∀ x ∈ t, 1 ≤ x.cells.length ∧ x.cells.length ≤ 64) (q1 q2 : Fl) (hh : Heap) : Ci cfg (.func (.func 24) [] []) [R  q1 eZ t, R  q2 eI (l.map fun (k : Nat) => (k : Int))] hh = some (.ret (R fl0 eI (cellsZ t l)), hh) :=
 Ci_K cfg rfl rfl (by simp) (by simp) (C24 t l hs hl)
theorem gA_step {t : List Sgn} {s : Wd} {i j : Nat} (h0 : ∀ j, j < t.length → 0 < lenZ t j) (hi : i + j + 1 = s.length) : tab (s.length + 1) (cI (updI (gA t s j) i (bestZ t s (leastL t s) i t.length).1)) = tab (s.length + 1) (cI (gA t s (j + 1))) := tab_ext fun v hv => by
 have hla2 := least_at (t := t) (s := s) h0 (i := i) (by omega)
 unfold cI updI gA
 congr 1
 by_cases e : v = i
 ·subst e; rw [if_pos rfl, if_pos (by omega), hla2]
 ·rw [if_neg e]
  by_cases e2 : s.length ≤ v + j
  ·rw [if_pos e2, if_pos (by omega)]
  ·rw [if_neg e2, if_neg (by omega)]
theorem C12 (t : List Sgn) (s : List UInt8) (hs : smZs t) (hs2 : s.length < 1099511627776) : Kc cfg 12 [R fl0 eZ t, .str s] (.ret (.tuple [R fl0 eI (encodeZ t s).1, R fl0 eI (encodeZ t s).2.1, .bool (encodeZ t s).2.2.1, .int .i64 (encodeZ t s).2.2.2])) := by
 have hs1 := hs.1
 by_cases hc : checkZ t = 0
 ·by_cases he : (runesG s).2 = 0
  ·obtain ⟨c1, c2, c3⟩ := checkZ_zero hc
   have h0 : ∀ j, j < t.length → 0 < lenZ t j := fun j hj => by
    obtain ⟨⟨e1, e2, _⟩, _⟩ := sgnAt_of (c3 j hj)
    obtain ⟨_, e4⟩ := runesG_all e1
    have := runes_len _ _ _ (Nat.le_refl _) e4
    show 0 < (nth t j).text.length
    omega
   obtain ⟨d1, d2⟩ := runesG_all he
   have hla := least_all t s
   refine outS_of_wp cfg (fn := Tryd.f12) Tryd.func12 rfl (by simp [Tryd.f12]) ?_
   simp (disch := first | assumption | omega | (simp; done) | (simp; omega)) [-getElem?_pos, gZ, gS, Tryd.f12, emptyH, hc, he]
   repeat' (first | ((first | refine wpc_split _ ?_ ?_ | refine ww_split _ ?_ ?_) <;> intro hc <;> try simp at hc) | (refine wp_drawF (by kernel_rfl) ?_) | refine wk_yldW _ ?_ | refine layOwe _ (by kernel_rfl) ?_ | refine owe ?_ (fun ho => ?_) | (simp (disch := first | assumption | omega | (simp; done) | (simp; omega)) [emptyH, hc, he, -getElem?_pos, gZ, gS]))
   all_goals try (exfalso; omega)
   refine wp_loopE cfg rfl (fun f0 h0 m fr h => ∃ j : Nat, fr 0 = f0 0 ∧ fr 1 = f0 1 ∧ fr 11 = f0 11 ∧ fr 12 = .int .i64 ((s.length : Int) - 1 - j) ∧ (h.bs = [.cells (tab (s.length + 1) (cI (gA t s j)))]) ∧ (j + m = s.length)) (s.length) _ _ ⟨0, rfl, rfl, rfl, by first | rfl | (simp; done) | (simp [R]; done) | simp [R], by simp [gA_zero, cI_rep, cI_repf], by first | rfl | (simp; done) | omega⟩ ?_
   rintro Am Af Ah ⟨j, A0, A1, A11, A12, hb, hm⟩ Aih
   try simp at A0 A1 A11
   by_cases hj : j < s.length
   ·obtain ⟨i, hi⟩ : ∃ i, i + j + 1 = s.length := ⟨s.length - 1 - j, by omega⟩
    have hi2 : (s.length : Int) - 1 - j = i := by omega
    rw [hi2] at A12
    have hi3 : i < s.length + 1 := by omega
    repeat' (first | ((first | refine wpc_split _ ?_ ?_ | refine ww_split _ ?_ ?_) <;> intro hc <;> try simp at hc) | (refine wp_drawF (by kernel_rfl) ?_) | refine wk_yldW _ ?_ | refine layOwe _ (by kernel_rfl) ?_ | refine owe ?_ (fun ho => ?_) | (simp (disch := first | assumption | omega | (simp; done) | (simp; omega)) [A0, A1, A11, A12, hb, hi3, tab_set, tab_get1, -getElem?_pos, gZ, gS]))
    all_goals try (exfalso; omega)
    refine wp_loopE cfg rfl (fun f0 h0 m fr h => ∃ k : Nat, fr 0 = f0 0 ∧ fr 1 = f0 1 ∧ fr 11 = f0 11 ∧ fr 12 = f0 12 ∧ fr 13 = .int .i64 k ∧ (h.bs = [.cells (tab (s.length + 1) (cI (updI (gA t s j) i (bestZ t s (leastL t s) i k).1)))]) ∧ (k + m = t.length)) (t.length) _ _ ⟨0, rfl, rfl, rfl, rfl, by first | rfl | (simp; done) | (simp [R]; done) | simp [R], by simp [bestZ, neverZ], by first | rfl | (simp; done) | omega⟩ ?_
    rintro Bm Bf Bh ⟨k, B0, B1, B11, B12, B13, hb2, hm2⟩ Bih
    try simp [A0, A1, A11, A12] at B0 B1 B11 B12
    by_cases hk : k < t.length
    ·obtain ⟨k1, k2⟩ := smZs_nth hs hk
     have hlen0 := h0 k hk
     obtain ⟨⟨e1, e2, e3, e4, e5⟩, _, _⟩ := sgnAt_of (c3 k hk)
     have hst : bestZ t s (leastL t s) i (k + 1) = if preZ (nth t k).text (s.drop i) = true ∧ ((nth t k).cells.length : Int) + nth (leastL t s) (i + (nth t k).text.length) < (bestZ t s (leastL t s) i k).1 then (((nth t k).cells.length : Int) + nth (leastL t s) (i + (nth t k).text.length), k) else bestZ t s (leastL t s) i k := rfl
     have hlen1 : 0 < (nth t k).text.length := hlen0
     have hil : i ≤ s.length := by omega
     obtain ⟨b, hbk⟩ : ∃ b, bestZ t s (leastL t s) i k = b := ⟨_, rfl⟩
     rw [hbk] at hst hb2
     cases hp : preZ (nth t k).text (s.drop i) with
     | false =>
      rw [hp, if_neg (fun e => by cases e.1)] at hst
      repeat' (first | ((first | refine wpc_split _ ?_ ?_ | refine ww_split _ ?_ ?_) <;> intro hc <;> try simp at hc) | (refine wp_drawF (by kernel_rfl) ?_) | refine wk_yldW _ ?_ | refine layOwe _ (by kernel_rfl) ?_ | refine owe ?_ (fun ho => ?_) | (simp (disch := first | assumption | omega | (simp; done) | (simp; omega)) [B0, B1, B11, B12, B13, A0, A1, A11, A12, hb2, hp, hk, hil, hlen1, k1, -getElem?_pos, gZ, gS]))
      all_goals try (exfalso; omega)
      exact Bih (Bm - 1) _ _ (by omega) ⟨k + 1, by simp [B0, B1, B11, B12, B13, A0, A1, A11, A12, hst], by simp [B0, B1, B11, B12, B13, A0, A1, A11, A12, hst], by simp [B0, B1, B11, B12, B13, A0, A1, A11, A12, hst], by simp [B0, B1, B11, B12, B13, A0, A1, A11, A12, hst], by simp [B0, B1, B11, B12, B13, A0, A1, A11, A12, hst], (by rw [hb2, hst]), by omega⟩
     | true =>
      have hpl := preZ_len hp
      have hle : i + (nth t k).text.length ≤ s.length := by omega
      have hgi : updI (gA t s j) i b.1 (i + (nth t k).text.length) = nth (leastL t s) (i + (nth t k).text.length) := by
       unfold updI gA
       rw [if_neg (by omega), if_pos (by omega)]
      have hti : ((i : Int) + ((nth t k).text.length : Int)).toNat = i + (nth t k).text.length := by omega
      have hl1 := hla (i + (nth t k).text.length)
      have hgs : updI (gA t s j) i b.1 i = b.1 := by unfold updI; rw [if_pos rfl]
      unfold neverZ at hl1
      rw [hp] at hst
      have hmn : min b.1 (((nth t k).cells.length : Int) + nth (leastL t s) (i + (nth t k).text.length)) = (bestZ t s (leastL t s) i (k + 1)).1 := by
       rw [hst]
       by_cases hlt : ((nth t k).cells.length : Int) + nth (leastL t s) (i + (nth t k).text.length) < b.1
       ·rw [if_pos ⟨rfl, hlt⟩, Int.min_def, if_neg (by omega)]
       ·rw [if_neg (fun e => hlt e.2), Int.min_def, if_pos (by omega)]
      clear hst
      repeat' (first | ((first | refine wpc_split _ ?_ ?_ | refine ww_split _ ?_ ?_) <;> intro hc <;> try simp at hc) | (refine wp_drawF (by decide +kernel) ?_) | refine wk_yldW _ ?_ | refine layOwe _ (by kernel_rfl) ?_ | refine owe ?_ (fun ho => ?_) | (simp (disch := first | assumption | omega | (simp; done) | (simp; omega)) [B0, B1, B11, B12, B13, A0, A1, A11, A12, hb2, hp, hk, hil, hlen1, hle, hti, hgi, hgs, hmn, hi3, tab_set, tab_get1, k1, -getElem?_pos, gZ, gS]))
      all_goals try (exfalso; omega)
      exact Bih (Bm - 1) _ _ (by omega) ⟨k + 1, by simp [B0, B1, B11, B12, B13, A0, A1, A11, A12], by simp [B0, B1, B11, B12, B13, A0, A1, A11, A12], by simp [B0, B1, B11, B12, B13, A0, A1, A11, A12], by simp [B0, B1, B11, B12, B13, A0, A1, A11, A12], by simp [B0, B1, B11, B12, B13, A0, A1, A11, A12], (by simp), by omega⟩
    ·obtain rfl : k = t.length := by omega
     rw [gA_step h0 hi] at hb2
     have hi5 : (i : Int) - 1 = (s.length : Int) - 1 - ((j : Int) + 1) := by omega
     repeat' (first | ((first | refine wpc_split _ ?_ ?_ | refine ww_split _ ?_ ?_) <;> intro hc <;> try simp at hc) | (refine wp_drawF (by kernel_rfl) ?_) | refine wk_yldW _ ?_ | refine layOwe _ (by kernel_rfl) ?_ | refine owe ?_ (fun ho => ?_) | (simp (disch := first | assumption | omega | (simp; done) | (simp; omega)) [B0, B1, B11, B12, B13, A0, A1, A11, A12, hb2, -getElem?_pos, gZ, gS]))
     all_goals try (exfalso; omega)
     exact Aih (Am - 1) _ _ (by omega) ⟨j + 1, by simp [B0, B1, B11, B12, B13, A0, A1, A11, A12, hi5], by simp [B0, B1, B11, B12, B13, A0, A1, A11, A12, hi5], by simp [B0, B1, B11, B12, B13, A0, A1, A11, A12, hi5], by simp [B0, B1, B11, B12, B13, A0, A1, A11, A12, hi5], (by simp [hb2]), by omega⟩
   ·obtain rfl : j = s.length := by omega
    have hgn : gA t s s.length = nth (leastL t s) := by funext v; exact if_pos (by omega)
    rw [hgn] at hb
    rw [show (s.length : Int) - 1 - s.length = -1 by omega] at A12
    have hp0 : 0 < s.length + 1 := by omega
    clear Aih
    by_cases hnv : neverZ ≤ nth (leastL t s) 0
    ·have hE : encodeZ t s = ([], [], false, 0) := by unfold encodeZ; rw [if_neg (by simp [hc]), if_neg (by simp [he]), if_pos hnv]
     rw [hE]
     unfold neverZ at hnv
     repeat' (first | ((first | refine wpc_split _ ?_ ?_ | refine ww_split _ ?_ ?_) <;> intro hc <;> try simp at hc) | (refine wp_drawF (by kernel_rfl) ?_) | refine wk_yldW _ ?_ | refine layOwe _ (by kernel_rfl) ?_ | refine owe ?_ (fun ho => ?_) | (simp (disch := first | assumption | omega | (simp; done) | (simp; omega)) [A0, A1, A11, A12, hb, hnv, hp0, tab_get1, tab_take1, -getElem?_pos, gZ, gS]))
     all_goals try (exfalso; omega)
     all_goals rfl
    ·by_cases hbig : 4096 < nth (leastL t s) 0
     ·have hE : encodeZ t s = ([], [], false, 2) := by unfold encodeZ; rw [if_neg (by simp [hc]), if_neg (by simp [he]), if_neg hnv, if_pos hbig]
      rw [hE]
      unfold neverZ at hnv
      repeat' (first | ((first | refine wpc_split _ ?_ ?_ | refine ww_split _ ?_ ?_) <;> intro hc <;> try simp at hc) | (refine wp_drawF (by kernel_rfl) ?_) | refine wk_yldW _ ?_ | refine layOwe _ (by kernel_rfl) ?_ | refine owe ?_ (fun ho => ?_) | (simp (disch := first | assumption | omega | (simp; done) | (simp; omega)) [A0, A1, A11, A12, hb, hnv, hbig, hp0, tab_get1, tab_take1, -getElem?_pos, gZ, gS]))
      all_goals try (exfalso; omega)
      all_goals rfl
     ·have hE : encodeZ t s = (signsZ t s, cellsZ t (pathZ t s s.length 0), true, 0) := by unfold encodeZ; rw [if_neg (by simp [hc]), if_neg (by simp [he]), if_neg hnv, if_neg hbig]
      rw [hE]
      unfold neverZ at hnv
      repeat' (first | ((first | refine wpc_split _ ?_ ?_ | refine ww_split _ ?_ ?_) <;> intro hc <;> try simp at hc) | (refine wp_drawF (by kernel_rfl) ?_) | refine wk_yldW _ ?_ | refine layOwe _ (by kernel_rfl) ?_ | refine owe ?_ (fun ho => ?_) | (simp (disch := first | assumption | omega | (simp; done) | (simp; omega)) [A0, A1, A11, A12, hb, hnv, hbig, hp0, tab_get1, tab_take1, -getElem?_pos, gZ, gS]))
      all_goals try (exfalso; omega)
      refine wp_loopE cfg rfl (fun f0 h0 m fr h => ∃ i : Nat, ∃ l : List Nat, ∃ q1 : Fl, fr 0 = f0 0 ∧ fr 1 = f0 1 ∧ fr 11 = f0 11 ∧ fr 15 = .int .i64 i ∧ fr 14 = R q1 eI (l.map fun (k : Nat) => (k : Int)) ∧ (h.bs = h0.bs) ∧ (App h.ts 1 q1) ∧ (pathZ t s s.length 0 = l ++ pathZ t s m i) ∧ (s.length ≤ i + m) ∧ (i ≤ s.length) ∧ (l.length ≤ i) ∧ (∀ k ∈ l, k < t.length) ∧ (nth (leastL t s) i < neverZ)) (s.length) _ _ ⟨0, [], (false, true, none), rfl, rfl, rfl, by first | rfl | (simp; done) | (simp [R]; done) | simp [R], by simp [R], by first | rfl | (simp; done) | omega, App.full _ _ _, rfl, by first | rfl | (simp; done) | omega, by first | rfl | (simp; done) | omega, by first | rfl | (simp; done) | omega, (fun k hk => by cases hk), (by unfold neverZ; omega)⟩ ?_
      rintro Cm Cf Ch ⟨i, l, q1, C0, C1, C11, C15, C14, hbs, ha1, hpt, him, hil, hll, hlk, hni⟩ Cih
      try simp [A0, A1, A11, A12] at C0 C1 C11
      simp only [hb] at hbs
      by_cases hi : i < s.length
      ·obtain ⟨p1, p2, p3, p4, p5, p6⟩ := path_step h0 hi hni
       have hlow : ∀ j, j < firstZ t s i → preZ (nth t j).text (s.drop i) = true → ¬ ((nth t j).cells.length : Int) + nth (leastL t s) (i + (nth t j).text.length) = nth (leastL t s) i := by
        intro j hj hp
        have ha := least_at (t := t) (s := s) h0 hi
        rcases bestZ_spec (t := t) (s := s) (L := leastL t s) (i := i) t.length with h | ⟨_, _, _, _, h5⟩
        ·rw [h] at ha; simp only at ha; omega
        ·have := h5 j hj hp
         rw [ha]
         show ¬ (cellZ t j : Int) + nth (leastL t s) (i + lenZ t j) = _
         omega
       obtain ⟨m, rfl⟩ : ∃ m, Cm = m + 1 := ⟨Cm - 1, by omega⟩
       have hpt2 : pathZ t s (m + 1) i = firstZ t s i :: pathZ t s m (i + lenZ t (firstZ t s i)) := by rw [pathZ, if_pos hi]
       generalize hkk : firstZ t s i = kk at *
       repeat' (first | ((first | refine wpc_split _ ?_ ?_ | refine ww_split _ ?_ ?_) <;> intro hc <;> try simp at hc) | (refine wp_drawF (by kernel_rfl) ?_) | refine wk_yldW _ ?_ | refine layOwe _ (by kernel_rfl) ?_ | refine owe ?_ (fun ho => ?_) | (simp (disch := first | assumption | omega | (simp; done) | (simp; omega)) [C0, C1, C11, C15, C14, hbs, hi, -getElem?_pos, gZ, gS]))
       all_goals try (exfalso; omega)
       refine wp_loopE cfg rfl (fun f0 h0 m fr h => ∃ k : Nat, fr 0 = f0 0 ∧ fr 1 = f0 1 ∧ fr 11 = f0 11 ∧ fr 14 = f0 14 ∧ fr 15 = f0 15 ∧ fr 16 = .int .i64 k ∧ h.bs = h0.bs ∧ (h.ts = h0.ts) ∧ (k + m = kk)) (kk) _ _ ⟨0, rfl, rfl, rfl, rfl, rfl, by first | rfl | (simp; done) | (simp [R]; done) | simp [R], rfl, by first | rfl | (simp; done) | omega, by first | rfl | (simp; done) | omega⟩ ?_
       rintro Dm Df Dh ⟨k, D0, D1, D11, D14, D15, D16, Dbs, hts, hm3⟩ Dih
       try simp [C0, C1, C11, C15, C14, A0, A1, A11, A12] at D0 D1 D11 D14 D15 Dbs
       simp only [hbs] at Dbs
       have hkt : k < t.length := by omega
       obtain ⟨k1, k2⟩ := smZs_nth hs hkt
       have hlen1 : 0 < (nth t k).text.length := h0 k hkt
       have hl1 := hla (i + (nth t k).text.length)
       obtain ⟨⟨e1, e2, e3, e4, e5⟩, _, _⟩ := sgnAt_of (c3 k hkt)
       have hti : ((i : Int) + ((nth t k).text.length : Int)).toNat = i + (nth t k).text.length := by omega
       have hi4 : i < s.length + 1 := by omega
       unfold neverZ at hl1
       by_cases hkd : k < kk
       ·cases hp : preZ (nth t k).text (s.drop i) with
        | false =>
         repeat' (first | ((first | refine wpc_split _ ?_ ?_ | refine ww_split _ ?_ ?_) <;> intro hc <;> try simp at hc) | (refine wp_drawF (by decide +kernel) ?_) | refine wk_yldW _ ?_ | refine layOwe _ (by kernel_rfl) ?_ | refine owe ?_ (fun ho => ?_) | (simp (disch := first | assumption | omega | (simp; done) | (simp; omega)) [D0, D1, D11, D14, D15, D16, Dbs, C0, C1, C11, C15, C14, Dbs, hi, hil, hkt, hp, hlen1, k1, -getElem?_pos, gZ, gS]))
         all_goals try (exfalso; omega)
         exact Dih (Dm - 1) _ _ (by omega) ⟨k + 1, by simp [D0, D1, D11, D14, D15, D16, Dbs, C0, C1, C11, C15, C14, A0, A1, A11, A12, hbs], by simp [D0, D1, D11, D14, D15, D16, Dbs, C0, C1, C11, C15, C14, A0, A1, A11, A12, hbs], by simp [D0, D1, D11, D14, D15, D16, Dbs, C0, C1, C11, C15, C14, A0, A1, A11, A12, hbs], by simp [D0, D1, D11, D14, D15, D16, Dbs, C0, C1, C11, C15, C14, A0, A1, A11, A12, hbs], by simp [D0, D1, D11, D14, D15, D16, Dbs, C0, C1, C11, C15, C14, A0, A1, A11, A12, hbs], by simp [D0, D1, D11, D14, D15, D16, Dbs, C0, C1, C11, C15, C14, A0, A1, A11, A12, hbs], by simp [D0, D1, D11, D14, D15, D16, Dbs, C0, C1, C11, C15, C14, A0, A1, A11, A12, hbs], hts, by omega⟩
        | true =>
         have hne := hlow k hkd hp
         have hpl := preZ_len hp
         have hle : i + (nth t k).text.length < s.length + 1 := by omega
         repeat' (first | ((first | refine wpc_split _ ?_ ?_ | refine ww_split _ ?_ ?_) <;> intro hc <;> try simp at hc) | (refine wp_drawF (by decide +kernel) ?_) | refine wk_yldW _ ?_ | refine layOwe _ (by kernel_rfl) ?_ | refine owe ?_ (fun ho => ?_) | (simp (disch := first | assumption | omega | (simp; done) | (simp; omega)) [D0, D1, D11, D14, D15, D16, Dbs, C0, C1, C11, C15, C14, Dbs, hi, hil, hkt, hp, hlen1, k1, hne, hle, hti, hi4, tab_get1, -getElem?_pos, gZ, gS]))
         all_goals try (exfalso; omega)
         exact Dih (Dm - 1) _ _ (by omega) ⟨k + 1, by simp [D0, D1, D11, D14, D15, D16, Dbs, C0, C1, C11, C15, C14, A0, A1, A11, A12, hbs], by simp [D0, D1, D11, D14, D15, D16, Dbs, C0, C1, C11, C15, C14, A0, A1, A11, A12, hbs], by simp [D0, D1, D11, D14, D15, D16, Dbs, C0, C1, C11, C15, C14, A0, A1, A11, A12, hbs], by simp [D0, D1, D11, D14, D15, D16, Dbs, C0, C1, C11, C15, C14, A0, A1, A11, A12, hbs], by simp [D0, D1, D11, D14, D15, D16, Dbs, C0, C1, C11, C15, C14, A0, A1, A11, A12, hbs], by simp [D0, D1, D11, D14, D15, D16, Dbs, C0, C1, C11, C15, C14, A0, A1, A11, A12, hbs], by simp [D0, D1, D11, D14, D15, D16, Dbs, C0, C1, C11, C15, C14, A0, A1, A11, A12, hbs], hts, by omega⟩
       ·obtain rfl : k = kk := by omega
        have hpl := preZ_len p6
        have hle : i + (nth t k).text.length < s.length + 1 := by omega
        have heq : ((nth t k).cells.length : Int) + nth (leastL t s) (i + (nth t k).text.length) = nth (leastL t s) i := p4.symm
        have ha1' : App Dh.ts 1 q1 := by rw [hts]; exact ha1
        have hlm : (l.map fun (k : Nat) => (k : Int)).length = l.length := by simp
        have hlz : lenZ t k = (nth t k).text.length := rfl
        have hpt3 : pathZ t s s.length 0 = (l ++ [k]) ++ pathZ t s m (i + lenZ t k) := by rw [hpt, hpt2, List.append_assoc]; rfl
        have hll3 : (l ++ [k]).length ≤ i + lenZ t k := by rw [List.length_append]; simp; omega
        have hlk3 : ∀ x ∈ l ++ [k], x < t.length := fun x hx => by
         rcases List.mem_append.1 hx with h | h
         ·exact hlk x h
         ·simp only [List.mem_singleton] at h; rw [h]; exact p1
        repeat' (first | ((first | refine wpc_split _ ?_ ?_ | refine ww_split _ ?_ ?_) <;> intro hc <;> try simp at hc) | (refine wp_drawF (by decide +kernel) ?_) | refine wk_yldW _ ?_ | refine layOwe _ (by kernel_rfl) ?_ | refine owe ?_ (fun ho => ?_) | (simp (disch := first | assumption | omega | (simp; done) | (simp; omega)) [D0, D1, D11, D14, D15, D16, Dbs, C0, C1, C11, C15, C14, Dbs, hi, hil, hkt, p6, hlen1, k1, heq, hle, hti, hi4, hlm, tab_get1, fold_I1, -getElem?_pos, gZ, gS]))
        all_goals try (exfalso; omega)
        exact Cih (m) _ _ (by omega) ⟨i + lenZ t k, l ++ [k], (false, false, some Dh.ts.length), by simp [D0, D1, D11, D14, D15, D16, Dbs, C0, C1, C11, C15, C14, A0, A1, A11, A12, hlz, hb], by simp [D0, D1, D11, D14, D15, D16, Dbs, C0, C1, C11, C15, C14, A0, A1, A11, A12, hlz, hb], by simp [D0, D1, D11, D14, D15, D16, Dbs, C0, C1, C11, C15, C14, A0, A1, A11, A12, hlz, hb], by simp [D0, D1, D11, D14, D15, D16, Dbs, C0, C1, C11, C15, C14, A0, A1, A11, A12, hlz, hb], by simp [D0, D1, D11, D14, D15, D16, Dbs, C0, C1, C11, C15, C14, A0, A1, A11, A12, hlz, hb], (by first | exact hb.symm | simp [hb]), App.new _ _ _, hpt3, by omega, p2, hll3, hlk3, p5⟩
      ·obtain rfl : i = s.length := by omega
       have hp0' : pathZ t s Cm s.length = [] := by
        cases Cm with
        | zero => rfl
        | succ m => rw [pathZ, if_neg (by omega)]
       rw [hp0', List.append_nil] at hpt
       have hsg : signsZ t s = l.map fun (k : Nat) => (k : Int) := by unfold signsZ; rw [hpt]
       have hcz : ∀ x ∈ t, 1 ≤ x.cells.length ∧ x.cells.length ≤ 64 := fun x hx => by
        obtain ⟨j, hj, rfl⟩ := List.mem_iff_getElem.1 hx
        obtain ⟨⟨_, _, _, e4, e5⟩, _, _⟩ := sgnAt_of (c3 j hj)
        rw [nth_eq hj] at e4 e5
        exact ⟨e4, by omega⟩
       have hC : (∀ k ∈ l, k < t.length) ∧ l.length < 1048576 ∧ ∀ x ∈ t, 1 ≤ x.cells.length ∧ x.cells.length ≤ 64 := ⟨hlk, by omega, hcz⟩
       rw [hsg, hpt]
       repeat' (first | ((first | refine wpc_split _ ?_ ?_ | refine ww_split _ ?_ ?_) <;> intro hc <;> try simp at hc) | (refine wp_drawF (by kernel_rfl) ?_) | refine wk_yldW _ ?_ | refine layOwe _ (by kernel_rfl) ?_ | refine owe ?_ (fun ho => ?_) | (simp (disch := first | assumption | omega | (simp; done) | (simp; omega)) [C0, C1, C11, C15, C14, hbs, hs, hC, -getElem?_pos, gZ, gS]))
       all_goals try (exfalso; omega)
  ·have hE : encodeZ t s = ([], [], false, (runesG s).2) := by unfold encodeZ; rw [if_neg (by simp [hc]), if_pos he]
   rw [hE]
   refine outS_of_wp cfg (fn := Tryd.f12) Tryd.func12 rfl (by simp [Tryd.f12]) ?_
   simp (disch := first | assumption | omega | (simp; done) | (simp; omega)) [-getElem?_pos, gZ, gS, Tryd.f12, emptyH, hc, he]
   repeat' (first | ((first | refine wpc_split _ ?_ ?_ | refine ww_split _ ?_ ?_) <;> intro hc <;> try simp at hc) | (refine wp_drawF (by kernel_rfl) ?_) | refine wk_yldW _ ?_ | refine layOwe _ (by kernel_rfl) ?_ | refine owe ?_ (fun ho => ?_) | (simp (disch := first | assumption | omega | (simp; done) | (simp; omega)) [emptyH, hc, he, -getElem?_pos, gZ, gS]))
   rfl
 ·have hE : encodeZ t s = ([], [], false, checkZ t) := by unfold encodeZ; rw [if_pos hc]
  rw [hE]
  refine outS_of_wp cfg (fn := Tryd.f12) Tryd.func12 rfl (by simp [Tryd.f12]) ?_
  simp (disch := first | assumption | omega | (simp; done) | (simp; omega)) [-getElem?_pos, gZ, gS, Tryd.f12, emptyH, hc]
  repeat' (first | ((first | refine wpc_split _ ?_ ?_ | refine ww_split _ ?_ ?_) <;> intro hc <;> try simp at hc) | (refine wp_drawF (by kernel_rfl) ?_) | refine wk_yldW _ ?_ | refine layOwe _ (by kernel_rfl) ?_ | refine owe ?_ (fun ho => ?_) | (simp (disch := first | assumption | omega | (simp; done) | (simp; omega)) [emptyH, hc, -getElem?_pos, gZ, gS]))
  exact rfl
@[simp] theorem S12 (t : List Sgn) (s : List UInt8) (hs : smZs t) (hs2 : s.length < 1099511627776) (q1 : Fl) (hh : Heap) : Ci cfg (.func (.func 12) [] []) [R  q1 eZ t, .str s] hh = some (.ret (.tuple [R fl0 eI (encodeZ t s).1, R fl0 eI (encodeZ t s).2.1, .bool (encodeZ t s).2.2.1, .int .i64 (encodeZ t s).2.2.2]), hh) :=
 Ci_K cfg rfl rfl (by simp) (by simp) (C12 t s hs hs2)
end Go.Ab
