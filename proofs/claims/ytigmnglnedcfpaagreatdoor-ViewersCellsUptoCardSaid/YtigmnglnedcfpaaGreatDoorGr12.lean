/- A part of the proof. -/
import Derived.Test.YtigmnglnedcfpaaGreatDoorU
import Derived.Test.YtigmnglnedcfpaaGreatDoorGr3
import Derived.Test.YtigmnglnedcfpaaGreatDoorT10
import Derived.Test.YtigmnglnedcfpaaGreatDoorAbsD
set_option linter.unusedVariables false
set_option linter.unusedSimpArgs false
set_option linter.unusedSectionVars false
set_option linter.deprecated false
namespace Go.Ab
structure Run (p : Nat → Bool) (n a b : Nat) : Prop where
 lt : a < b
 le : b ≤ n
 all : ∀ j, a ≤ j → j < b → p j = true
 lo : a = 0 ∨ p (a - 1) = false
 hi : b = n ∨ p b = false
def fromP (p : Nat → Bool) : Nat → Nat
 | 0 => 0
 | i + 1 => if p i = true then fromP p i else i + 1
def untP (p : Nat → Bool) : Nat → Nat → Nat
 | 0, j => j
 | k + 1, j => if p j = true then untP p k (j + 1) else j
def untilP (p : Nat → Bool) (n i : Nat) : Nat := untP p (n - i) i
def revF (p : Nat → Bool) (n i : Nat) : Nat := if p i = true then fromP p i + untilP p n i - 1 - i else i
section
variable {p : Nat → Bool} {n : Nat}
theorem fromP_spec : ∀ {i : Nat}, fromP p i ≤ i ∧ (∀ j, fromP p i ≤ j → j < i → p j = true) ∧ (fromP p i = 0 ∨ p (fromP p i - 1) = false)
 | 0 => ⟨Nat.le_refl _, fun j _ h => by omega, .inl rfl⟩
 | i + 1 => by
  unfold fromP
  by_cases h : p i = true
  ·rw [if_pos h]
   obtain ⟨h1, h2, h3⟩ := fromP_spec (i := i)
   refine ⟨by omega, fun j hj hl => ?_, h3⟩
   by_cases e : j = i
   ·subst e; exact h
   ·exact h2 j hj (by omega)
  ·rw [if_neg h]
   exact ⟨Nat.le_refl _, fun j hj hl => by omega, .inr (by simpa using h)⟩
theorem untP_spec : ∀ {k j : Nat}, j ≤ untP p k j ∧ untP p k j ≤ j + k ∧ (∀ i, j ≤ i → i < untP p k j → p i = true) ∧ (untP p k j = j + k ∨ p (untP p k j) = false)
 | 0, j => ⟨Nat.le_refl _, Nat.le_refl _, fun i h h2 => by simp only [untP] at h2; omega, .inl rfl⟩
 | k + 1, j => by
  unfold untP
  by_cases h : p j = true
  ·rw [if_pos h]
   obtain ⟨h1, h2, h3, h4⟩ := untP_spec (k := k) (j := j + 1)
   refine ⟨by omega, by omega, fun i hi hl => ?_, by rcases h4 with h4 | h4; exact .inl (by omega); exact .inr h4⟩
   by_cases e : i = j
   ·subst e; exact h
   ·exact h3 i (by omega) hl
  ·rw [if_neg h]
   exact ⟨Nat.le_refl _, by omega, fun i hi hl => by omega, .inr (by simpa using h)⟩
theorem run_at {i : Nat} (hi : i < n) (h : p i = true) : Run p n (fromP p i) (untilP p n i) ∧ fromP p i ≤ i ∧ i < untilP p n i := by
 obtain ⟨h1, h2, h3⟩ := fromP_spec (p := p) (i := i)
 obtain ⟨k, hk⟩ : ∃ k, n - i = k + 1 := ⟨n - i - 1, by omega⟩
 obtain ⟨h4, h5, h6, h7⟩ := untP_spec (p := p) (k := n - i) (j := i)
 have hlt : i < untilP p n i := by
  unfold untilP
  rcases h7 with h7 | h7
  ·omega
  ·rcases Nat.eq_or_lt_of_le h4 with e | e
   ·rw [← e, h] at h7; cases h7
   ·exact e
 unfold untilP at hlt ⊢
 refine ⟨⟨by omega, by omega, fun j hj hl => ?_, h3, ?_⟩, h1, hlt⟩
 ·by_cases e : j < i
  ·exact h2 j hj e
  ·exact h6 j (by omega) hl
 ·rcases h7 with h7 | h7
  ·exact .inl (by omega)
  ·exact .inr h7
theorem run_uniq {a b c d i : Nat} (r : Run p n a b) (s : Run p n c d) (h1 : a ≤ i) (h2 : i < b) (h3 : c ≤ i) (h4 : i < d) : a = c ∧ b = d := by
 have key : ∀ {a b c d : Nat}, Run p n a b → Run p n c d → a ≤ i → i < b → c ≤ i → i < d → ¬ a < c ∧ ¬ b < d := by
  intro a b c d r s h1 h2 h3 h4
  constructor
  ·intro hac
   have := r.all (c - 1) (by omega) (by omega)
   rcases s.lo with e | e
   ·omega
   ·rw [this] at e; cases e
  ·intro hbd
   have := s.all b (by omega) hbd
   rcases r.hi with e | e
   ·have := s.le; omega
   ·rw [this] at e; cases e
 have k1 := key r s h1 h2 h3 h4
 have k2 := key s r h3 h4 h1 h2
 omega
theorem revF_run {a b i : Nat} (r : Run p n a b) (h1 : a ≤ i) (h2 : i < b) : revF p n i = a + b - 1 - i := by
 have hp := r.all i h1 h2
 obtain ⟨s, h3, h4⟩ := run_at (p := p) (n := n) (i := i) (by have := r.le; omega) hp
 obtain ⟨e1, e2⟩ := run_uniq r s h1 h2 h3 h4
 unfold revF
 rw [if_pos hp, ← e1, ← e2]
theorem revF_no {i : Nat} (h : p i = false) : revF p n i = i := by unfold revF; rw [h]; rfl
theorem revF_in {i : Nat} (hi : i < n) (h : p i = true) : ∃ a b, Run p n a b ∧ a ≤ i ∧ i < b ∧ revF p n i = a + b - 1 - i ∧ a ≤ revF p n i ∧ revF p n i < b ∧ revF p n (revF p n i) = i := by
 obtain ⟨s, h3, h4⟩ := run_at hi h
 have e := revF_run s h3 h4
 refine ⟨_, _, s, h3, h4, e, by omega, by omega, ?_⟩
 rw [revF_run s (by omega) (by omega), e]; omega
theorem revF_lt {i : Nat} (hi : i < n) : revF p n i < n := by
 cases h : p i with
 | false => rw [revF_no h]; exact hi
 | true =>
  obtain ⟨a, b, s, _, _, _, _, h2, _⟩ := revF_in hi h
  have := s.le; omega
end
def geL (L : List Int) (k : Int) (i : Nat) : Bool := decide (k ≤ nth L i)
def ordF (L : List Int) (i : Nat) : Nat := revF (geL L 2) L.length (revF (geL L 1) L.length i)
def atF (L : List Int) (i : Nat) : Nat := revF (geL L 1) L.length (revF (geL L 2) L.length i)
section
variable {L : List Int}
theorem ordF_lt {i : Nat} (hi : i < L.length) : ordF L i < L.length := revF_lt (revF_lt hi)
end
end Go.Ab
namespace Go.Ab
def strongF (right : Bool) (k : Int) : Int := if k = 4 then 1 else if k = 3 ∨ k = 2 then (if right then 2 else 0) else -1
def baseF (right : Bool) : Int := if right then 1 else 0
def okK (l : List Int) : Bool := l.all fun r => decide ((kindG r).2 = 0)
def rawL (right : Bool) (l : List Int) : List Int := l.map fun r => strongF right (kindG r).1
def gpL (L : List Int) (i : Nat) : Bool := decide (nth L i < 0)
def levAt (base : Int) (L : List Int) (i : Nat) : Int :=
 if 0 < fromP (gpL L) (i + 1) ∧ untilP (gpL L) L.length i < L.length ∧ nth L (fromP (gpL L) (i + 1) - 1) = nth L (untilP (gpL L) L.length i) then nth L (fromP (gpL L) (i + 1) - 1) else base
def lvL (base : Int) (L : List Int) : List Int := (List.range L.length).map (levAt base L)
def levS (l : List Int) (right : Bool) : List Int × Int := if 4096 < l.length then ([], 2) else if okK l = true then (lvL (baseF right) (rawL right l), 0) else ([], 90)
theorem kind_range {r : Int} (h : (kindG r).2 = 0) : (kindG r).1 = 0 ∨ (kindG r).1 = 1 ∨ (kindG r).1 = 2 ∨ (kindG r).1 = 3 ∨ (kindG r).1 = 4 := by
 unfold kindG kindR at *
 split at h
 ·rename_i hp
  rw [if_pos hp]
  simp only
  split
  ·omega
  ·split
   ·omega
   ·split
    ·omega
    ·split <;> omega
 ·simp at h
theorem kind_err {r : Int} (h : ¬ (kindG r).2 = 0) : (kindG r).2 = 90 := by
 unfold kindG at *
 split at h
 ·simp at h
 ·rename_i hp; rw [if_neg hp]
theorem fromP_step {p : Nat → Bool} {q : Nat} (h : p q = true) : fromP p (q + 1) = fromP p q := by rw [fromP, if_pos h]
theorem fromP_stop {p : Nat → Bool} {q : Nat} (h : p q = false) : fromP p (q + 1) = q + 1 := by rw [fromP, if_neg (by simp [h])]
theorem untP_step {p : Nat → Bool} {n j : Nat} (hj : j < n) (h : p j = true) : untP p (n - j) j = untP p (n - (j + 1)) (j + 1) := by
 obtain ⟨k, hk⟩ : ∃ k, n - j = k + 1 := ⟨n - j - 1, by omega⟩
 rw [hk, untP, if_pos h, show n - (j + 1) = k by omega]
theorem untP_stop {p : Nat → Bool} {n j : Nat} (h : n ≤ j ∨ p j = false) : untP p (n - j) j = j := by
 rcases h with h | h
 ·rw [show n - j = 0 by omega]; rfl
 ·cases n - j with
  | zero => rfl
  | succ k => rw [untP, if_neg (by simp [h])]
section
variable {L : List Int} {base : Int}
theorem lev_own {i : Nat} (hi : i < L.length) (h : gpL L i = false) : levAt base L i = nth L i := by
 unfold levAt untilP
 rw [fromP_stop h, untP_stop (.inr h)]
 simp [hi]
theorem lev_gap {i a b : Nat} (r : Run (gpL L) L.length a b) (h1 : a ≤ i) (h2 : i < b) : levAt base L i = if 0 < a ∧ b < L.length ∧ nth L (a - 1) = nth L b then nth L b else base := by
 have hp := r.all i h1 h2
 obtain ⟨s, h3, h4⟩ := run_at (p := gpL L) (n := L.length) (i := i) (by have := r.le; omega) hp
 obtain ⟨e1, e2⟩ := run_uniq r s h1 h2 h3 h4
 unfold levAt
 rw [fromP_step hp, ← e1, ← e2]
 by_cases c : 0 < a ∧ b < L.length ∧ nth L (a - 1) = nth L b
 ·rw [if_pos c, if_pos c]; exact c.2.2
 ·rw [if_neg c, if_neg c]
end
theorem strong_range (right : Bool) (k : Int) : strongF right k = -1 ∨ strongF right k = 0 ∨ strongF right k = 1 ∨ strongF right k = 2 := by
 unfold strongF
 split
 ·omega
 ·split
  ·split <;> omega
  ·omega
theorem rawL_len (right : Bool) (l : List Int) : (rawL right l).length = l.length := by simp [rawL]
theorem rawL_nth {right : Bool} {l : List Int} {i : Nat} (h : i < l.length) : nth (rawL right l) i = strongF right (kindG (nth l i)).1 := by
 rw [nth_eq (by simpa [rawL] using h)]
 simp [rawL, nth_eq h]
theorem lvL_len (base : Int) (L : List Int) : (lvL base L).length = L.length := by simp [lvL]
theorem lvL_nth {base : Int} {L : List Int} {i : Nat} (h : i < L.length) : nth (lvL base L) i = levAt base L i := by
 rw [nth_eq (by simpa [lvL] using h)]; simp [lvL]
theorem levS_range {l : List Int} {right : Bool} : ∀ x ∈ (levS l right).1, 0 ≤ x ∧ x ≤ 2 := by
 unfold levS
 split
 ·simp
 ·split
  ·intro x hx
   simp only [lvL, List.mem_map, List.mem_range] at hx
   obtain ⟨i, hi, rfl⟩ := hx
   rw [rawL_len] at hi
   have hb : 0 ≤ baseF right ∧ baseF right ≤ 1 := by unfold baseF; split <;> omega
   cases hg : gpL (rawL right l) i with
   | false =>
    rw [lev_own (by rw [rawL_len]; exact hi) hg]
    unfold gpL at hg
    simp only [decide_eq_false_iff_not] at hg
    rw [rawL_nth hi] at hg ⊢
    have := strong_range right (kindG (nth l i)).1
    omega
   | true =>
    obtain ⟨r, h1, h2⟩ := run_at (p := gpL (rawL right l)) (n := (rawL right l).length) (i := i) (by rw [rawL_len]; exact hi) hg
    rw [lev_gap r h1 h2]
    split
    ·rename_i c
     have hl := c.2.1
     have hi2 := r.hi
     generalize untilP (gpL (rawL right l)) (rawL right l).length i = b at *
     rcases hi2 with h | h
     ·omega
     ·unfold gpL at h
      simp only [decide_eq_false_iff_not] at h
      rw [rawL_len] at hl
      rw [rawL_nth hl] at h ⊢
      have := strong_range right (kindG (nth l b)).1
      omega
    ·omega
  ·simp
end Go.Ab
namespace Go.Ab
open Go.Proofs
set_option maxRecDepth 100000
set_option maxHeartbeats 4000000
theorem C81 (right : Bool) : Kc cfg 81 [.bool right] (.ret (.int .i64 (baseF right))) := by
 cases right with
 | true =>
  refine outS_of_wp cfg (fn := Tryz.f81) Tryz.func81 rfl (by simp [Tryz.f81]) ?_
  simp (disch := first | assumption | omega | (simp; done) | (simp; omega)) [-getElem?_pos, gZ, gS, Tryz.f81]
  repeat' (first | ((first | refine wpc_split _ ?_ ?_ | refine ww_split _ ?_ ?_) <;> intro hc <;> try simp at hc) | (refine wp_drawF (by kernel_rfl) ?_) | refine wk_yldW _ ?_ | refine layOwe _ (by kernel_rfl) ?_ | refine owe ?_ (fun ho => ?_) | (simp (disch := first | assumption | omega | (simp; done) | (simp; omega)) [baseF, -getElem?_pos, gZ, gS]))
 | false =>
  refine outS_of_wp cfg (fn := Tryz.f81) Tryz.func81 rfl (by simp [Tryz.f81]) ?_
  simp (disch := first | assumption | omega | (simp; done) | (simp; omega)) [-getElem?_pos, gZ, gS, Tryz.f81]
  repeat' (first | ((first | refine wpc_split _ ?_ ?_ | refine ww_split _ ?_ ?_) <;> intro hc <;> try simp at hc) | (refine wp_drawF (by kernel_rfl) ?_) | refine wk_yldW _ ?_ | refine layOwe _ (by kernel_rfl) ?_ | refine owe ?_ (fun ho => ?_) | (simp (disch := first | assumption | omega | (simp; done) | (simp; omega)) [baseF, -getElem?_pos, gZ, gS]))
@[simp] theorem S81 (right : Bool) (hh : Heap) : Ci cfg (.func (.func 81) [] []) [.bool right] hh = some (.ret (.int .i64 (baseF right)), hh) :=
 Ci_K cfg rfl rfl (by simp) (by simp) (C81 right)
theorem C80 (k : Int) (right : Bool) : Kc cfg 80 [.int .i64 k, .bool right] (.ret (.int .i64 (strongF right k))) := by
 by_cases h4 : k = 4
 ·have hs : strongF right k = 1 := by unfold strongF; rw [if_pos h4]
  rw [hs]
  refine outS_of_wp cfg (fn := Tryz.f80) Tryz.func80 rfl (by simp [Tryz.f80]) ?_
  simp (disch := first | assumption | omega | (simp; done) | (simp; omega)) [-getElem?_pos, gZ, gS, Tryz.f80]
  repeat' (first | ((first | refine wpc_split _ ?_ ?_ | refine ww_split _ ?_ ?_) <;> intro hc <;> try simp at hc) | (refine wp_drawF (by kernel_rfl) ?_) | refine wk_yldW _ ?_ | refine layOwe _ (by kernel_rfl) ?_ | refine owe ?_ (fun ho => ?_) | (simp (disch := first | assumption | omega | (simp; done) | (simp; omega)) [h4, -getElem?_pos, gZ, gS]))
 ·by_cases h3 : k = 3
  ·have hs : strongF right k = 2 * baseF right := by unfold strongF baseF; rw [if_neg h4, if_pos (.inl h3)]; cases right <;> rfl
   rw [hs]
   have hb : 0 ≤ baseF right ∧ baseF right ≤ 1 := by unfold baseF; split <;> omega
   refine outS_of_wp cfg (fn := Tryz.f80) Tryz.func80 rfl (by simp [Tryz.f80]) ?_
   simp (disch := first | assumption | omega | (simp; done) | (simp; omega)) [-getElem?_pos, gZ, gS, Tryz.f80]
   repeat' (first | ((first | refine wpc_split _ ?_ ?_ | refine ww_split _ ?_ ?_) <;> intro hc <;> try simp at hc) | (refine wp_drawF (by kernel_rfl) ?_) | refine wk_yldW _ ?_ | refine layOwe _ (by kernel_rfl) ?_ | refine owe ?_ (fun ho => ?_) | (simp (disch := first | assumption | omega | (simp; done) | (simp; omega)) [h3, -getElem?_pos, gZ, gS]))
  ·by_cases h2 : k = 2
   ·have hs : strongF right k = 2 * baseF right := by unfold strongF baseF; rw [if_neg h4, if_pos (.inr h2)]; cases right <;> rfl
    rw [hs]
    have hb : 0 ≤ baseF right ∧ baseF right ≤ 1 := by unfold baseF; split <;> omega
    refine outS_of_wp cfg (fn := Tryz.f80) Tryz.func80 rfl (by simp [Tryz.f80]) ?_
    simp (disch := first | assumption | omega | (simp; done) | (simp; omega)) [-getElem?_pos, gZ, gS, Tryz.f80]
    repeat' (first | ((first | refine wpc_split _ ?_ ?_ | refine ww_split _ ?_ ?_) <;> intro hc <;> try simp at hc) | (refine wp_drawF (by kernel_rfl) ?_) | refine wk_yldW _ ?_ | refine layOwe _ (by kernel_rfl) ?_ | refine owe ?_ (fun ho => ?_) | (simp (disch := first | assumption | omega | (simp; done) | (simp; omega)) [h2, -getElem?_pos, gZ, gS]))
   ·have hs : strongF right k = -1 := by unfold strongF; rw [if_neg h4, if_neg (fun x => by omega)]
    rw [hs]
    refine outS_of_wp cfg (fn := Tryz.f80) Tryz.func80 rfl (by simp [Tryz.f80]) ?_
    simp (disch := first | assumption | omega | (simp; done) | (simp; omega)) [-getElem?_pos, gZ, gS, Tryz.f80]
    repeat' (first | ((first | refine wpc_split _ ?_ ?_ | refine ww_split _ ?_ ?_) <;> intro hc <;> try simp at hc) | (refine wp_drawF (by kernel_rfl) ?_) | refine wk_yldW _ ?_ | refine layOwe _ (by kernel_rfl) ?_ | refine owe ?_ (fun ho => ?_) | (simp (disch := first | assumption | omega | (simp; done) | (simp; omega)) [h4, h3, h2, -getElem?_pos, gZ, gS]))
@[simp] theorem S80 (k : Int) (right : Bool) (hh : Heap) : Ci cfg (.func (.func 80) [] []) [.int .i64 k, .bool right] hh = some (.ret (.int .i64 (strongF right k)), hh) :=
 Ci_K cfg rfl rfl (by simp) (by simp) (C80 k right)
theorem okK_false {l : List Int} {i : Nat} (hi : i < l.length) (h : ¬ (kindG (nth l i)).2 = 0) : okK l = false := by
 unfold okK
 rw [← Bool.not_eq_true, List.all_eq_true]
 intro hx; exact h (of_decide_eq_true (hx _ (nth_mem hi)))
theorem okK_true {l : List Int} (h : ∀ i, i < l.length → (kindG (nth l i)).2 = 0) : okK l = true := by
 unfold okK
 rw [List.all_eq_true]
 intro x hx
 obtain ⟨i, hi, rfl⟩ := List.mem_iff_getElem.1 hx
 rw [← nth_eq hi]; exact decide_eq_true (h i hi)
theorem rawL_take {right : Bool} {l : List Int} {i : Nat} (h : i < l.length) : rawL right (l.take (i + 1)) = rawL right (l.take i) ++ [strongF right (kindG (nth l i)).1] := by unfold rawL; rw [nth_take h]; simp
theorem levs_take {base : Int} {L : List Int} {i : Nat} : (List.range (i + 1)).map (levAt base L) = (List.range i).map (levAt base L) ++ [levAt base L i] := by rw [List.range_succ, List.map_append]; rfl
theorem C54 (l : List Int) (right : Bool) (hs : l.length < 1099511627776) : Kc cfg 54 [R fl0 eI l, .bool right] (.ret (.tuple [R fl0 eI (levS l right).1, .int .i64 (levS l right).2])) := by
 by_cases hlong : 4096 < l.length
 ·have hL : levS l right = ([], 2) := by unfold levS; rw [if_pos hlong]
  rw [hL]
  refine outS_of_wp cfg (fn := Tryz.f54) Tryz.func54 rfl (by simp [Tryz.f54]) ?_
  simp (disch := first | assumption | omega | (simp; done) | (simp; omega)) [-getElem?_pos, gZ, gS, Tryz.f54]
  repeat' (first | ((first | refine wpc_split _ ?_ ?_ | refine ww_split _ ?_ ?_) <;> intro hc <;> try simp at hc) | (refine wp_drawF (by kernel_rfl) ?_) | refine wk_yldW _ ?_ | refine layOwe _ (by kernel_rfl) ?_ | refine owe ?_ (fun ho => ?_) | (simp (disch := first | assumption | omega | (simp; done) | (simp; omega)) [-getElem?_pos, gZ, gS]))
  all_goals first | rfl | (exfalso; omega)
 ·have hL : levS l right = if okK l = true then (lvL (baseF right) (rawL right l), 0) else ([], 90) := by unfold levS; rw [if_neg hlong]
  generalize hLS : levS l right = LS at *
  refine outS_of_wp cfg (fn := Tryz.f54) Tryz.func54 rfl (by simp [Tryz.f54]) ?_
  simp (disch := first | assumption | omega | (simp; done) | (simp; omega)) [-getElem?_pos, gZ, gS, Tryz.f54]
  repeat' (first | ((first | refine wpc_split _ ?_ ?_ | refine ww_split _ ?_ ?_) <;> intro hc <;> try simp at hc) | (refine wp_drawF (by kernel_rfl) ?_) | refine wk_yldW _ ?_ | refine layOwe _ (by kernel_rfl) ?_ | refine owe ?_ (fun ho => ?_) | (simp (disch := first | assumption | omega | (simp; done) | (simp; omega)) [-getElem?_pos, gZ, gS]))
  all_goals first
   | (exfalso; omega)
   | skip
  refine wp_loopE cfg rfl (fun f0 h0 m fr h => ∃ i : Nat, ∃ fl : Fl, fr 0 = f0 0 ∧ fr 1 = f0 1 ∧ fr 6 = R fl eI (rawL right (l.take i)) ∧ fr 7 = .int .i64 i ∧ (App h.ts 1 fl) ∧ (i + m = l.length) ∧ (∀ j, j < i → (kindG (nth l j)).2 = 0)) (l.length) _ _ ⟨0, (false, true, none), rfl, rfl, by first | rfl | (simp; done) | (simp [R]; done) | simp [R], by first | rfl | (simp; done) | (simp [R]; done) | simp [R], App.full _ _ _, by first | rfl | (simp; done) | omega, fun j hj => by omega⟩ ?_
  rintro Am Af Ah ⟨i, fl, A0, A1, A6, A7, hap, hm, hok⟩ Aih
  try simp at A0 A1
  by_cases hi : i < l.length
  ·by_cases hk : (kindG (nth l i)).2 = 0
   ·have htk := rawL_take (right := right) hi
    have hlen : (rawL right (l.take i)).length ≤ i := by rw [rawL_len]; simp; omega
    repeat' (first | ((first | refine wpc_split _ ?_ ?_ | refine ww_split _ ?_ ?_) <;> intro hc <;> try simp at hc) | (refine wp_drawF (by kernel_rfl) ?_) | refine wk_yldW _ ?_ | refine layOwe _ (by kernel_rfl) ?_ | refine owe ?_ (fun ho => ?_) | (simp (disch := first | assumption | omega | (simp; done) | (simp; omega)) [A0, A1, A6, A7, eI, hk, fold_I1, -getElem?_pos, gZ, gS]))
    exact Aih (Am - 1) _ _ (by omega) ⟨i + 1, _, by simp [A0, A1, A6, A7, htk], by simp [A0, A1, A6, A7, htk], by simp [A0, A1, A6, A7, htk], by simp [A0, A1, A6, A7, htk], App.new _ _ _, by omega, fun j hj => by (by_cases e : j = i; (subst e; exact hk); exact hok j (by omega))⟩
   ·rw [okK_false hi hk] at hL
    simp at hL
    repeat' (first | ((first | refine wpc_split _ ?_ ?_ | refine ww_split _ ?_ ?_) <;> intro hc <;> try simp at hc) | (refine wp_drawF (by kernel_rfl) ?_) | refine wk_yldW _ ?_ | refine layOwe _ (by kernel_rfl) ?_ | refine owe ?_ (fun ho => ?_) | (simp (disch := first | assumption | omega | (simp; done) | (simp; omega)) [A0, A1, A6, A7, eI, hk, -getElem?_pos, gZ, gS]))
    rw [hL]; exact ⟨rfl, rfl⟩
  ·rw [okK_true (fun j hj => hok j (by omega)), if_pos rfl] at hL
   have h1 : l.take i = l := List.take_of_length_le (by omega)
   rw [h1] at A6
   have hrl := rawL_len right l
   have hrr : ∀ x ∈ rawL right l, True := fun _ _ => trivial
   generalize hraw : rawL right l = raw at *
   have hbr : 0 ≤ baseF right ∧ baseF right ≤ 1 := by unfold baseF; split <;> omega
   repeat' (first | ((first | refine wpc_split _ ?_ ?_ | refine ww_split _ ?_ ?_) <;> intro hc <;> try simp at hc) | (refine wp_drawF (by kernel_rfl) ?_) | refine wk_yldW _ ?_ | refine layOwe _ (by kernel_rfl) ?_ | refine owe ?_ (fun ho => ?_) | (simp (disch := first | assumption | omega | (simp; done) | (simp; omega)) [A0, A1, A6, A7, -getElem?_pos, gZ, gS]))
   refine wp_loopE cfg rfl (fun f0 h0 m fr h => ∃ i : Nat, ∃ fl2 : Fl, fr 0 = f0 0 ∧ fr 1 = f0 1 ∧ fr 6 = f0 6 ∧ fr 10 = R fl2 eI ((List.range i).map (levAt (baseF right) raw)) ∧ fr 11 = .int .i64 i ∧ (App h.ts 1 fl2) ∧ (i + m = l.length)) (l.length) _ _ ⟨0, (false, true, none), rfl, rfl, rfl, by first | rfl | (simp; done) | (simp [R]; done) | simp [R], by first | rfl | (simp; done) | (simp [R]; done) | simp [R], App.full _ _ _, by first | rfl | (simp; done) | omega⟩ ?_
   rintro Bm Bf Bh ⟨i, fl2, B0, B1, B6, B10, B11, hap2, hm2⟩ Bih
   try simp [A0, A1, A6, A7] at B0 B1 B6
   by_cases hi2 : i < l.length
   ·have hst := levs_take (base := baseF right) (L := raw) (i := i)
    have hlv : levAt (baseF right) raw i = if 0 < fromP (gpL raw) (i + 1) ∧ untilP (gpL raw) raw.length i < raw.length ∧ nth raw (fromP (gpL raw) (i + 1) - 1) = nth raw (untilP (gpL raw) raw.length i) then nth raw (fromP (gpL raw) (i + 1) - 1) else baseF right := rfl
    have hlen2 : ((List.range i).map (levAt (baseF right) raw)).length ≤ i := by simp
    repeat' (first | ((first | refine wpc_split _ ?_ ?_ | refine ww_split _ ?_ ?_) <;> intro hc <;> try simp at hc) | (refine wp_drawF (by kernel_rfl) ?_) | refine wk_yldW _ ?_ | refine layOwe _ (by kernel_rfl) ?_ | refine owe ?_ (fun ho => ?_) | (simp (disch := first | assumption | omega | (simp; done) | (simp; omega)) [B0, B1, B6, B10, B11, -getElem?_pos, gZ, gS]))
    refine wp_loopE cfg rfl (fun f0 h0 m fr h => ∃ q : Nat, fr 0 = f0 0 ∧ fr 1 = f0 1 ∧ fr 6 = f0 6 ∧ fr 10 = f0 10 ∧ fr 11 = f0 11 ∧ fr 12 = .int .i64 ((q : Int) - 1) ∧ (App h.ts 1 fl2) ∧ (m = q) ∧ (q ≤ i + 1) ∧ (fromP (gpL raw) q = fromP (gpL raw) (i + 1))) (i + 1) _ _ ⟨i + 1, rfl, rfl, rfl, rfl, rfl, by first | (simp; done) | (simp; omega), hap2, by first | rfl | (simp; done) | omega, by first | rfl | (simp; done) | omega, by first | rfl | (simp; done) | omega⟩ ?_
    rintro Em Ef Eh ⟨q, E0, E1, E6, E10, E11, E12, hap3, hm3, hq, hf⟩ Eih
    try simp [B0, B1, B6, B10, B11, A0, A1, A6, A7] at E0 E1 E6 E10 E11
    by_cases hgo : 0 < q ∧ gpL raw (q - 1) = true
    ·obtain ⟨k, rfl⟩ : ∃ k, q = k + 1 := ⟨q - 1, by omega⟩
     have hg := hgo.2
     simp only [Nat.add_sub_cancel] at hg
     have hg2 : nth raw k < 0 := of_decide_eq_true hg
     rw [fromP_step hg] at hf
     have hk2 : k < raw.length := by omega
     repeat' (first | ((first | refine wpc_split _ ?_ ?_ | refine ww_split _ ?_ ?_) <;> intro hc <;> try simp at hc) | (refine wp_drawF (by kernel_rfl) ?_) | refine wk_yldW _ ?_ | refine layOwe _ (by kernel_rfl) ?_ | refine owe ?_ (fun ho => ?_) | (simp (disch := first | assumption | omega | (simp; done) | (simp; omega)) [E0, E1, E6, E10, E11, E12, eI, -getElem?_pos, gZ, gS]))
     all_goals first
      | (exfalso; omega)
      | exact Eih (Em - 1) _ _ (by omega) ⟨k, by simp [E0, E1, E6, E10, E11, E12, B0, B1, B6, B10, B11, A0, A1, A6, A7], by simp [E0, E1, E6, E10, E11, E12, B0, B1, B6, B10, B11, A0, A1, A6, A7], by simp [E0, E1, E6, E10, E11, E12, B0, B1, B6, B10, B11, A0, A1, A6, A7], by simp [E0, E1, E6, E10, E11, E12, B0, B1, B6, B10, B11, A0, A1, A6, A7], by simp [E0, E1, E6, E10, E11, E12, B0, B1, B6, B10, B11, A0, A1, A6, A7], by simp [E0, E1, E6, E10, E11, E12, B0, B1, B6, B10, B11, A0, A1, A6, A7], hap3, by omega, by omega, hf⟩
    ·have hfq : fromP (gpL raw) (i + 1) = q := by
      rw [← hf]
      cases q with
      | zero => rfl
      | succ k =>
       have : gpL raw k = false := by
        cases h : gpL raw k with
        | false => rfl
        | true => exact absurd ⟨by omega, by simpa using h⟩ hgo
       exact fromP_stop this
     have hnq : 0 < q → 0 ≤ nth raw (q - 1) := by
      intro h0
      cases h : gpL raw (q - 1) with
      | false => unfold gpL at h; simpa using h
      | true => exact absurd ⟨h0, h⟩ hgo
     have hq3 : ((q : Int) - 1).toNat = q - 1 := by omega
     have hqle : q ≤ raw.length := by omega
     clear Eih hm3 hgo hf
     rcases Nat.eq_zero_or_pos q with hq0 | hq0
     ·subst hq0
      repeat' (first | ((first | refine wpc_split _ ?_ ?_ | refine ww_split _ ?_ ?_) <;> intro hc <;> try simp at hc) | (refine wp_drawF (by kernel_rfl) ?_) | refine wk_yldW _ ?_ | refine layOwe _ (by kernel_rfl) ?_ | refine owe ?_ (fun ho => ?_) | (simp (disch := first | assumption | omega | (simp; done) | (simp; omega)) [E0, E1, E6, E10, E11, E12, eI, -getElem?_pos, gZ, gS]))
      all_goals first
       | (exfalso; omega)
       | skip
      refine wp_loopE cfg rfl (fun f0 h0 m fr h => ∃ j : Nat, fr 0 = f0 0 ∧ fr 1 = f0 1 ∧ fr 6 = f0 6 ∧ fr 10 = f0 10 ∧ fr 11 = f0 11 ∧ fr 12 = f0 12 ∧ fr 13 = .int .i64 j ∧ (App h.ts 1 fl2) ∧ (j + m = l.length) ∧ (i ≤ j) ∧ (untP (gpL raw) (raw.length - j) j = untilP (gpL raw) raw.length i)) (l.length - i) _ _ ⟨i, rfl, rfl, rfl, rfl, rfl, rfl, by first | rfl | (simp; done) | (simp [R]; done) | simp [R], hap3, by first | rfl | (simp; done) | omega, by first | rfl | (simp; done) | omega, by first | rfl | (simp; done) | omega⟩ ?_
      rintro Fm Ff Fh ⟨j, F0, F1, F6, F10, F11, F12, F13, hap4, hm4, hj, hu⟩ Fih
      try simp [E0, E1, E6, E10, E11, E12, B0, B1, B6, B10, B11, A0, A1, A6, A7] at F0 F1 F6 F10 F11 F12
      by_cases hgo : j < raw.length ∧ gpL raw j = true
      ·have hg2 : nth raw j < 0 := of_decide_eq_true hgo.2
       rw [untP_step hgo.1 hgo.2] at hu
       have hjl := hgo.1
       repeat' (first | ((first | refine wpc_split _ ?_ ?_ | refine ww_split _ ?_ ?_) <;> intro hc <;> try simp at hc) | (refine wp_drawF (by kernel_rfl) ?_) | refine wk_yldW _ ?_ | refine layOwe _ (by kernel_rfl) ?_ | refine owe ?_ (fun ho => ?_) | (simp (disch := first | assumption | omega | (simp; done) | (simp; omega)) [F0, F1, F6, F10, F11, F12, F13, eI, -getElem?_pos, gZ, gS]))
       all_goals first
        | (exfalso; omega)
        | exact Fih (Fm - 1) _ _ (by omega) ⟨j + 1, by simp [F0, F1, F6, F10, F11, F12, F13, E0, E1, E6, E10, E11, E12, B0, B1, B6, B10, B11, A0, A1, A6, A7], by simp [F0, F1, F6, F10, F11, F12, F13, E0, E1, E6, E10, E11, E12, B0, B1, B6, B10, B11, A0, A1, A6, A7], by simp [F0, F1, F6, F10, F11, F12, F13, E0, E1, E6, E10, E11, E12, B0, B1, B6, B10, B11, A0, A1, A6, A7], by simp [F0, F1, F6, F10, F11, F12, F13, E0, E1, E6, E10, E11, E12, B0, B1, B6, B10, B11, A0, A1, A6, A7], by simp [F0, F1, F6, F10, F11, F12, F13, E0, E1, E6, E10, E11, E12, B0, B1, B6, B10, B11, A0, A1, A6, A7], by simp [F0, F1, F6, F10, F11, F12, F13, E0, E1, E6, E10, E11, E12, B0, B1, B6, B10, B11, A0, A1, A6, A7], by simp [F0, F1, F6, F10, F11, F12, F13, E0, E1, E6, E10, E11, E12, B0, B1, B6, B10, B11, A0, A1, A6, A7], hap4, by omega, by omega, hu⟩
      ·have hlv2 : levAt (baseF right) raw i = baseF right := by rw [hlv, hfq, if_neg (by omega)]
       rw [hlv2] at hst
       by_cases hjl : j < raw.length
       ·have hg2 : 0 ≤ nth raw j := by
         cases h : gpL raw j with
         | false => unfold gpL at h; simpa using h
         | true => exact absurd ⟨hjl, h⟩ hgo
        repeat' (first | ((first | refine wpc_split _ ?_ ?_ | refine ww_split _ ?_ ?_) <;> intro hc <;> try simp at hc) | (refine wp_drawF (by kernel_rfl) ?_) | refine wk_yldW _ ?_ | refine layOwe _ (by kernel_rfl) ?_ | refine owe ?_ (fun ho => ?_) | (simp (disch := first | assumption | omega | (simp; done) | (simp; omega)) [F0, F1, F6, F10, F11, F12, F13, eI, fold_I1, -getElem?_pos, gZ, gS]))
        all_goals first
         | (exfalso; omega)
         | exact Bih (Bm - 1) _ _ (by omega) ⟨i + 1, _, by simp [F0, F1, F6, F10, F11, F12, F13, E0, E1, E6, E10, E11, E12, B0, B1, B6, B10, B11, A0, A1, A6, A7, hst], by simp [F0, F1, F6, F10, F11, F12, F13, E0, E1, E6, E10, E11, E12, B0, B1, B6, B10, B11, A0, A1, A6, A7, hst], by simp [F0, F1, F6, F10, F11, F12, F13, E0, E1, E6, E10, E11, E12, B0, B1, B6, B10, B11, A0, A1, A6, A7, hst], by simp [F0, F1, F6, F10, F11, F12, F13, E0, E1, E6, E10, E11, E12, B0, B1, B6, B10, B11, A0, A1, A6, A7, hst], by simp [F0, F1, F6, F10, F11, F12, F13, E0, E1, E6, E10, E11, E12, B0, B1, B6, B10, B11, A0, A1, A6, A7, hst], App.new _ _ _, by omega⟩
       ·repeat' (first | ((first | refine wpc_split _ ?_ ?_ | refine ww_split _ ?_ ?_) <;> intro hc <;> try simp at hc) | (refine wp_drawF (by kernel_rfl) ?_) | refine wk_yldW _ ?_ | refine layOwe _ (by kernel_rfl) ?_ | refine owe ?_ (fun ho => ?_) | (simp (disch := first | assumption | omega | (simp; done) | (simp; omega)) [F0, F1, F6, F10, F11, F12, F13, eI, fold_I1, -getElem?_pos, gZ, gS]))
        all_goals first
         | (exfalso; omega)
         | exact Bih (Bm - 1) _ _ (by omega) ⟨i + 1, _, by simp [F0, F1, F6, F10, F11, F12, F13, E0, E1, E6, E10, E11, E12, B0, B1, B6, B10, B11, A0, A1, A6, A7, hst], by simp [F0, F1, F6, F10, F11, F12, F13, E0, E1, E6, E10, E11, E12, B0, B1, B6, B10, B11, A0, A1, A6, A7, hst], by simp [F0, F1, F6, F10, F11, F12, F13, E0, E1, E6, E10, E11, E12, B0, B1, B6, B10, B11, A0, A1, A6, A7, hst], by simp [F0, F1, F6, F10, F11, F12, F13, E0, E1, E6, E10, E11, E12, B0, B1, B6, B10, B11, A0, A1, A6, A7, hst], by simp [F0, F1, F6, F10, F11, F12, F13, E0, E1, E6, E10, E11, E12, B0, B1, B6, B10, B11, A0, A1, A6, A7, hst], App.new _ _ _, by omega⟩
     ·have hn0 := hnq hq0
      have hqr : q - 1 < raw.length := by omega
      repeat' (first | ((first | refine wpc_split _ ?_ ?_ | refine ww_split _ ?_ ?_) <;> intro hc <;> try simp at hc) | (refine wp_drawF (by kernel_rfl) ?_) | refine wk_yldW _ ?_ | refine layOwe _ (by kernel_rfl) ?_ | refine owe ?_ (fun ho => ?_) | (simp (disch := first | assumption | omega | (simp; done) | (simp; omega)) [E0, E1, E6, E10, E11, E12, eI, hq3, -getElem?_pos, gZ, gS]))
      all_goals first
       | (exfalso; omega)
       | skip
      refine wp_loopE cfg rfl (fun f0 h0 m fr h => ∃ j : Nat, fr 0 = f0 0 ∧ fr 1 = f0 1 ∧ fr 6 = f0 6 ∧ fr 10 = f0 10 ∧ fr 11 = f0 11 ∧ fr 12 = f0 12 ∧ fr 13 = .int .i64 j ∧ (App h.ts 1 fl2) ∧ (j + m = l.length) ∧ (i ≤ j) ∧ (untP (gpL raw) (raw.length - j) j = untilP (gpL raw) raw.length i)) (l.length - i) _ _ ⟨i, rfl, rfl, rfl, rfl, rfl, rfl, by first | rfl | (simp; done) | (simp [R]; done) | simp [R], hap3, by first | rfl | (simp; done) | omega, by first | rfl | (simp; done) | omega, by first | rfl | (simp; done) | omega⟩ ?_
      rintro Fm Ff Fh ⟨j, F0, F1, F6, F10, F11, F12, F13, hap4, hm4, hj, hu⟩ Fih
      try simp [E0, E1, E6, E10, E11, E12, B0, B1, B6, B10, B11, A0, A1, A6, A7] at F0 F1 F6 F10 F11 F12
      by_cases hgo : j < raw.length ∧ gpL raw j = true
      ·have hg2 : nth raw j < 0 := of_decide_eq_true hgo.2
       rw [untP_step hgo.1 hgo.2] at hu
       have hjl := hgo.1
       repeat' (first | ((first | refine wpc_split _ ?_ ?_ | refine ww_split _ ?_ ?_) <;> intro hc <;> try simp at hc) | (refine wp_drawF (by kernel_rfl) ?_) | refine wk_yldW _ ?_ | refine layOwe _ (by kernel_rfl) ?_ | refine owe ?_ (fun ho => ?_) | (simp (disch := first | assumption | omega | (simp; done) | (simp; omega)) [F0, F1, F6, F10, F11, F12, F13, eI, -getElem?_pos, gZ, gS]))
       all_goals first
        | (exfalso; omega)
        | exact Fih (Fm - 1) _ _ (by omega) ⟨j + 1, by simp [F0, F1, F6, F10, F11, F12, F13, E0, E1, E6, E10, E11, E12, B0, B1, B6, B10, B11, A0, A1, A6, A7], by simp [F0, F1, F6, F10, F11, F12, F13, E0, E1, E6, E10, E11, E12, B0, B1, B6, B10, B11, A0, A1, A6, A7], by simp [F0, F1, F6, F10, F11, F12, F13, E0, E1, E6, E10, E11, E12, B0, B1, B6, B10, B11, A0, A1, A6, A7], by simp [F0, F1, F6, F10, F11, F12, F13, E0, E1, E6, E10, E11, E12, B0, B1, B6, B10, B11, A0, A1, A6, A7], by simp [F0, F1, F6, F10, F11, F12, F13, E0, E1, E6, E10, E11, E12, B0, B1, B6, B10, B11, A0, A1, A6, A7], by simp [F0, F1, F6, F10, F11, F12, F13, E0, E1, E6, E10, E11, E12, B0, B1, B6, B10, B11, A0, A1, A6, A7], by simp [F0, F1, F6, F10, F11, F12, F13, E0, E1, E6, E10, E11, E12, B0, B1, B6, B10, B11, A0, A1, A6, A7], hap4, by omega, by omega, hu⟩
      ·have hstop : raw.length ≤ j ∨ gpL raw j = false := by
        by_cases h : j < raw.length
        ·right
         cases h2 : gpL raw j with
         | false => rfl
         | true => exact absurd ⟨h, h2⟩ hgo
        ·left; omega
       have huj : untilP (gpL raw) raw.length i = j := by rw [← hu]; exact untP_stop hstop
       rw [hfq, huj] at hlv
       by_cases hjl : j < raw.length
       ·have hg2 : 0 ≤ nth raw j := by
         cases h : gpL raw j with
         | false => unfold gpL at h; simpa using h
         | true => exact absurd ⟨hjl, h⟩ hgo
        by_cases he : nth raw (q - 1) = nth raw j
        ·rw [if_pos ⟨hq0, hjl, he⟩] at hlv
         rw [hlv] at hst
         have he2 : (nth raw (q - 1) == nth raw j) = true := by rw [he]; simp
         repeat' (first | ((first | refine wpc_split _ ?_ ?_ | refine ww_split _ ?_ ?_) <;> intro hc <;> try simp at hc) | (refine wp_drawF (by kernel_rfl) ?_) | refine wk_yldW _ ?_ | refine layOwe _ (by kernel_rfl) ?_ | refine owe ?_ (fun ho => ?_) | (simp (disch := first | assumption | omega | (simp; done) | (simp; omega)) [F0, F1, F6, F10, F11, F12, F13, eI, fold_I1, hq3, he2, -getElem?_pos, gZ, gS]))
         all_goals first
          | (exfalso; omega)
          | exact Bih (Bm - 1) _ _ (by omega) ⟨i + 1, _, by simp [F0, F1, F6, F10, F11, F12, F13, E0, E1, E6, E10, E11, E12, B0, B1, B6, B10, B11, A0, A1, A6, A7, hst], by simp [F0, F1, F6, F10, F11, F12, F13, E0, E1, E6, E10, E11, E12, B0, B1, B6, B10, B11, A0, A1, A6, A7, hst], by simp [F0, F1, F6, F10, F11, F12, F13, E0, E1, E6, E10, E11, E12, B0, B1, B6, B10, B11, A0, A1, A6, A7, hst], by simp [F0, F1, F6, F10, F11, F12, F13, E0, E1, E6, E10, E11, E12, B0, B1, B6, B10, B11, A0, A1, A6, A7, hst], by simp [F0, F1, F6, F10, F11, F12, F13, E0, E1, E6, E10, E11, E12, B0, B1, B6, B10, B11, A0, A1, A6, A7, hst], App.new _ _ _, by omega⟩
        ·rw [if_neg (fun x => he x.2.2)] at hlv
         rw [hlv] at hst
         have he2 : (nth raw (q - 1) == nth raw j) = false := by rw [beq_eq_false_iff_ne]; exact he
         repeat' (first | ((first | refine wpc_split _ ?_ ?_ | refine ww_split _ ?_ ?_) <;> intro hc <;> try simp at hc) | (refine wp_drawF (by kernel_rfl) ?_) | refine wk_yldW _ ?_ | refine layOwe _ (by kernel_rfl) ?_ | refine owe ?_ (fun ho => ?_) | (simp (disch := first | assumption | omega | (simp; done) | (simp; omega)) [F0, F1, F6, F10, F11, F12, F13, eI, fold_I1, hq3, he2, -getElem?_pos, gZ, gS]))
         all_goals first
          | (exfalso; omega)
          | exact Bih (Bm - 1) _ _ (by omega) ⟨i + 1, _, by simp [F0, F1, F6, F10, F11, F12, F13, E0, E1, E6, E10, E11, E12, B0, B1, B6, B10, B11, A0, A1, A6, A7, hst], by simp [F0, F1, F6, F10, F11, F12, F13, E0, E1, E6, E10, E11, E12, B0, B1, B6, B10, B11, A0, A1, A6, A7, hst], by simp [F0, F1, F6, F10, F11, F12, F13, E0, E1, E6, E10, E11, E12, B0, B1, B6, B10, B11, A0, A1, A6, A7, hst], by simp [F0, F1, F6, F10, F11, F12, F13, E0, E1, E6, E10, E11, E12, B0, B1, B6, B10, B11, A0, A1, A6, A7, hst], by simp [F0, F1, F6, F10, F11, F12, F13, E0, E1, E6, E10, E11, E12, B0, B1, B6, B10, B11, A0, A1, A6, A7, hst], App.new _ _ _, by omega⟩
       ·rw [if_neg (fun x => hjl x.2.1)] at hlv
        rw [hlv] at hst
        repeat' (first | ((first | refine wpc_split _ ?_ ?_ | refine ww_split _ ?_ ?_) <;> intro hc <;> try simp at hc) | (refine wp_drawF (by kernel_rfl) ?_) | refine wk_yldW _ ?_ | refine layOwe _ (by kernel_rfl) ?_ | refine owe ?_ (fun ho => ?_) | (simp (disch := first | assumption | omega | (simp; done) | (simp; omega)) [F0, F1, F6, F10, F11, F12, F13, eI, fold_I1, hq3, -getElem?_pos, gZ, gS]))
        all_goals first
         | (exfalso; omega)
         | exact Bih (Bm - 1) _ _ (by omega) ⟨i + 1, _, by simp [F0, F1, F6, F10, F11, F12, F13, E0, E1, E6, E10, E11, E12, B0, B1, B6, B10, B11, A0, A1, A6, A7, hst], by simp [F0, F1, F6, F10, F11, F12, F13, E0, E1, E6, E10, E11, E12, B0, B1, B6, B10, B11, A0, A1, A6, A7, hst], by simp [F0, F1, F6, F10, F11, F12, F13, E0, E1, E6, E10, E11, E12, B0, B1, B6, B10, B11, A0, A1, A6, A7, hst], by simp [F0, F1, F6, F10, F11, F12, F13, E0, E1, E6, E10, E11, E12, B0, B1, B6, B10, B11, A0, A1, A6, A7, hst], by simp [F0, F1, F6, F10, F11, F12, F13, E0, E1, E6, E10, E11, E12, B0, B1, B6, B10, B11, A0, A1, A6, A7, hst], App.new _ _ _, by omega⟩
   ·have hil : i = raw.length := by omega
    have hlvl : (List.range i).map (levAt (baseF right) raw) = lvL (baseF right) raw := by rw [hil]; rfl
    rw [hlvl] at B10
    repeat' (first | ((first | refine wpc_split _ ?_ ?_ | refine ww_split _ ?_ ?_) <;> intro hc <;> try simp at hc) | (refine wp_drawF (by kernel_rfl) ?_) | refine wk_yldW _ ?_ | refine layOwe _ (by kernel_rfl) ?_ | refine owe ?_ (fun ho => ?_) | (simp (disch := first | assumption | omega | (simp; done) | (simp; omega)) [B0, B1, B6, B10, B11, -getElem?_pos, gZ, gS]))
    rw [hL]; exact ⟨rfl, rfl⟩
@[simp] theorem S54 (l : List Int) (right : Bool) (hs : l.length < 1099511627776) (q1 : Fl) (hh : Heap) : Ci cfg (.func (.func 54) [] []) [R  q1 eI l, .bool right] hh = some (.ret (.tuple [R fl0 eI (levS l right).1, .int .i64 (levS l right).2]), hh) :=
 Ci_K cfg rfl rfl (by simp) (by simp) (C54 l right hs)
end Go.Ab
namespace Go.Ab
open Go.Proofs
set_option maxRecDepth 100000
set_option maxHeartbeats 8000000
def twoF (right : Bool) : Int := if right then 2 else 0
theorem C131 (right : Bool) : Kc cfg 131 [.bool right] (.ret (.agg [.int .i64 (-1), .int .i64 (-1), .int .i64 (twoF right), .int .i64 (twoF right), .int .i64 1])) := by
 cases right with
 | true =>
  refine outS_of_wp cfg (fn := Tryz.f131) Tryz.func131 rfl (by simp [Tryz.f131]) ?_
  simp (disch := first | assumption | omega | (simp; done) | (simp; omega)) [-getElem?_pos, gZ, gS, Tryz.f131]
  repeat' (first | ((first | refine wpc_split _ ?_ ?_ | refine ww_split _ ?_ ?_) <;> intro hc <;> try simp at hc) | (refine wp_drawF (by kernel_rfl) ?_) | refine wk_yldW _ ?_ | refine layOwe _ (by kernel_rfl) ?_ | refine owe ?_ (fun ho => ?_) | (simp (disch := first | assumption | omega | (simp; done) | (simp; omega)) [-getElem?_pos, gZ, gS]))
  all_goals rfl
 | false =>
  refine outS_of_wp cfg (fn := Tryz.f131) Tryz.func131 rfl (by simp [Tryz.f131]) ?_
  simp (disch := first | assumption | omega | (simp; done) | (simp; omega)) [-getElem?_pos, gZ, gS, Tryz.f131]
  repeat' (first | ((first | refine wpc_split _ ?_ ?_ | refine ww_split _ ?_ ?_) <;> intro hc <;> try simp at hc) | (refine wp_drawF (by kernel_rfl) ?_) | refine wk_yldW _ ?_ | refine layOwe _ (by kernel_rfl) ?_ | refine owe ?_ (fun ho => ?_) | (simp (disch := first | assumption | omega | (simp; done) | (simp; omega)) [-getElem?_pos, gZ, gS]))
  all_goals rfl
@[simp] theorem S131 (right : Bool) (hh : Heap) : Ci cfg (.func (.func 131) [] []) [.bool right] hh = some (.ret (.agg [.int .i64 (-1), .int .i64 (-1), .int .i64 (twoF right), .int .i64 (twoF right), .int .i64 1]), hh) :=
 Ci_K cfg rfl rfl (by simp) (by simp) (C131 right)
theorem strong_0 (r : Bool) : strongF r 0 = -1 := rfl
theorem strong_1 (r : Bool) : strongF r 1 = -1 := rfl
theorem strong_2 (r : Bool) : strongF r 2 = twoF r := rfl
theorem strong_3 (r : Bool) : strongF r 3 = twoF r := rfl
theorem strong_4 (r : Bool) : strongF r 4 = 1 := rfl
def lvT (base : Int) (L : List Int) (i : Nat) : Nat → Int := fun j => if j < i then levAt base L j else nth L j
theorem lvT_zero (base : Int) (L : List Int) : lvT base L 0 = nth L := by funext j; unfold lvT; rw [if_neg (by omega)]
theorem lvT_own {base : Int} {L : List Int} {i : Nat} (h : i < L.length → gpL L i = false) : tab L.length (cI (lvT base L i)) = tab L.length (cI (lvT base L (i + 1))) := tab_ext fun j hj => by
 unfold cI
 congr 1
 show (if j < i then levAt base L j else nth L j) = (if j < i + 1 then levAt base L j else nth L j)
 by_cases e : j = i
 ·subst e; rw [if_neg (by omega), if_pos (by omega), lev_own hj (h hj)]
 ·by_cases h1 : j < i
  ·rw [if_pos h1, if_pos (by omega)]
  ·rw [if_neg h1, if_neg (by omega)]
theorem lvT_set {base N : Int} {L : List Int} {i : Nat} (h : levAt base L i = N) : updI (lvT base L i) i N = lvT base L (i + 1) := by
 funext j
 show (if j = i then N else if j < i then levAt base L j else nth L j) = (if j < i + 1 then levAt base L j else nth L j)
 by_cases e : j = i
 ·subst e; rw [if_pos rfl, if_pos (by omega), h]
 ·rw [if_neg e]
  by_cases h1 : j < i
  ·rw [if_pos h1, if_pos (by omega)]
  ·rw [if_neg h1, if_neg (by omega)]
theorem rows_nth' (L : List Int) : rows eI L = tab L.length (cI (nth L)) := by
 rw [← rowF_cI]
 congr 1
 exact ext_nth (by simp) (fun i hi => by rw [nth_rowF hi])
theorem lvT_all {base : Int} {L : List Int} {i : Nat} (h : L.length ≤ i) : tab L.length (cI (lvT base L i)) = rows eI (lvL base L) := by
 rw [rows_nth', lvL_len]
 exact tab_ext fun j hj => by
  unfold cI
  congr 1
  rw [lvL_nth hj]
  show (if j < i then levAt base L j else nth L j) = _
  rw [if_pos (by omega)]
theorem eqV_tk {P : Program} {α : Type} {E : α → List V} {t : TypeId} {b : Bool} {l : List α} {k : Nat} (h : slcD (P.underlying t) = true) : eqV P b t (R (false, false, some k) E l) (.row true true [] 0 none) = some false := by
 unfold R
 rw [eqV_rn h]
 simp
theorem Cgap (n : Int) (h : Heap) : Ci cfg (.func (.func 135) [] []) [.int .i64 n] h = some (.ret (.bool (n == -1)), h) := by
 refine Ci_fun_wp (fn := Tryz.f135) rfl Tryz.func135 rfl (by simp [Tryz.f135]) ?_
 simp (disch := first | assumption | omega | (simp; done) | (simp; omega)) [-getElem?_pos, gZ, gS, Tryz.f135]
theorem raw_neg {right : Bool} {l : List Int} {i : Nat} (hi : i < l.length) : (nth (rawL right l) i == -1) = gpL (rawL right l) i := by
 unfold gpL
 rw [rawL_nth hi]
 rcases strong_range right (kindG (nth l i)).1 with h | h | h | h <;> rw [h] <;> rfl
end Go.Ab
