/- A part of the proof. -/
import Derived.Test.YtlmhbemgaikmaaaGreatDoorU
import Derived.Test.YtlmhbemgaikmaaaGreatDoorGr4
import Derived.Test.YtlmhbemgaikmaaaGreatDoorT10
import Derived.Test.YtlmhbemgaikmaaaGreatDoorAbsD
set_option linter.unusedVariables false
set_option linter.unusedSimpArgs false
set_option linter.unusedSectionVars false
set_option linter.deprecated false
namespace Go.Ab
structure Run (p : Nat → Bool) (n a b : Nat) : Prop where
 lt : a < b
 le : b ≤ n
 all : ∀ j, a ≤ j → j < b → p j = true
 lo : a = 0 ∨ p (a - 1) = false
 hi : b = n ∨ p b = false
def fromP (p : Nat → Bool) : Nat → Nat
 | 0 => 0
 | i + 1 => if p i = true then fromP p i else i + 1
def untP (p : Nat → Bool) : Nat → Nat → Nat
 | 0, j => j
 | k + 1, j => if p j = true then untP p k (j + 1) else j
def untilP (p : Nat → Bool) (n i : Nat) : Nat := untP p (n - i) i
def revF (p : Nat → Bool) (n i : Nat) : Nat := if p i = true then fromP p i + untilP p n i - 1 - i else i
section
variable {p : Nat → Bool} {n : Nat}
theorem fromP_spec : ∀ {i : Nat}, fromP p i ≤ i ∧ (∀ j, fromP p i ≤ j → j < i → p j = true) ∧ (fromP p i = 0 ∨ p (fromP p i - 1) = false)
 | 0 => ⟨Nat.le_refl _, fun j _ h => by omega, .inl rfl⟩
 | i + 1 => by
  unfold fromP
  by_cases h : p i = true
  ·rw [if_pos h]
   obtain ⟨h1, h2, h3⟩ := fromP_spec (i := i)
   refine ⟨by omega, fun j hj hl => ?_, h3⟩
   by_cases e : j = i
   ·subst e; exact h
   ·exact h2 j hj (by omega)
  ·rw [if_neg h]
   exact ⟨Nat.le_refl _, fun j hj hl => by omega, .inr (by simpa using h)⟩
theorem untP_spec : ∀ {k j : Nat}, j ≤ untP p k j ∧ untP p k j ≤ j + k ∧ (∀ i, j ≤ i → i < untP p k j → p i = true) ∧ (untP p k j = j + k ∨ p (untP p k j) = false)
 | 0, j => ⟨Nat.le_refl _, Nat.le_refl _, fun i h h2 => by simp only [untP] at h2; omega, .inl rfl⟩
 | k + 1, j => by
  unfold untP
  by_cases h : p j = true
  ·rw [if_pos h]
   obtain ⟨h1, h2, h3, h4⟩ := untP_spec (k := k) (j := j + 1)
   refine ⟨by omega, by omega, fun i hi hl => ?_, by rcases h4 with h4 | h4; exact .inl (by omega); exact .inr h4⟩
   by_cases e : i = j
   ·subst e; exact h
   ·exact h3 i (by omega) hl
  ·rw [if_neg h]
   exact ⟨Nat.le_refl _, by omega, fun i hi hl => by omega, .inr (by simpa using h)⟩
theorem run_at {i : Nat} (hi : i < n) (h : p i = true) : Run p n (fromP p i) (untilP p n i) ∧ fromP p i ≤ i ∧ i < untilP p n i := by
 obtain ⟨h1, h2, h3⟩ := fromP_spec (p := p) (i := i)
 obtain ⟨k, hk⟩ : ∃ k, n - i = k + 1 := ⟨n - i - 1, by omega⟩
 obtain ⟨h4, h5, h6, h7⟩ := untP_spec (p := p) (k := n - i) (j := i)
 have hlt : i < untilP p n i := by
  unfold untilP
  rcases h7 with h7 | h7
  ·omega
  ·rcases Nat.eq_or_lt_of_le h4 with e | e
   ·rw [← e, h] at h7; cases h7
   ·exact e
 unfold untilP at hlt ⊢
 refine ⟨⟨by omega, by omega, fun j hj hl => ?_, h3, ?_⟩, h1, hlt⟩
 ·by_cases e : j < i
  ·exact h2 j hj e
  ·exact h6 j (by omega) hl
 ·rcases h7 with h7 | h7
  ·exact .inl (by omega)
  ·exact .inr h7
theorem run_uniq {a b c d i : Nat} (r : Run p n a b) (s : Run p n c d) (h1 : a ≤ i) (h2 : i < b) (h3 : c ≤ i) (h4 : i < d) : a = c ∧ b = d := by
 have key : ∀ {a b c d : Nat}, Run p n a b → Run p n c d → a ≤ i → i < b → c ≤ i → i < d → ¬ a < c ∧ ¬ b < d := by
  intro a b c d r s h1 h2 h3 h4
  constructor
  ·intro hac
   have := r.all (c - 1) (by omega) (by omega)
   rcases s.lo with e | e
   ·omega
   ·rw [this] at e; cases e
  ·intro hbd
   have := s.all b (by omega) hbd
   rcases r.hi with e | e
   ·have := s.le; omega
   ·rw [this] at e; cases e
 have k1 := key r s h1 h2 h3 h4
 have k2 := key s r h3 h4 h1 h2
 omega
theorem revF_run {a b i : Nat} (r : Run p n a b) (h1 : a ≤ i) (h2 : i < b) : revF p n i = a + b - 1 - i := by
 have hp := r.all i h1 h2
 obtain ⟨s, h3, h4⟩ := run_at (p := p) (n := n) (i := i) (by have := r.le; omega) hp
 obtain ⟨e1, e2⟩ := run_uniq r s h1 h2 h3 h4
 unfold revF
 rw [if_pos hp, ← e1, ← e2]
theorem revF_no {i : Nat} (h : p i = false) : revF p n i = i := by unfold revF; rw [h]; rfl
theorem revF_in {i : Nat} (hi : i < n) (h : p i = true) : ∃ a b, Run p n a b ∧ a ≤ i ∧ i < b ∧ revF p n i = a + b - 1 - i ∧ a ≤ revF p n i ∧ revF p n i < b ∧ revF p n (revF p n i) = i := by
 obtain ⟨s, h3, h4⟩ := run_at hi h
 have e := revF_run s h3 h4
 refine ⟨_, _, s, h3, h4, e, by omega, by omega, ?_⟩
 rw [revF_run s (by omega) (by omega), e]; omega
theorem revF_lt {i : Nat} (hi : i < n) : revF p n i < n := by
 cases h : p i with
 | false => rw [revF_no h]; exact hi
 | true =>
  obtain ⟨a, b, s, _, _, _, _, h2, _⟩ := revF_in hi h
  have := s.le; omega
theorem revF_revF {i : Nat} (hi : i < n) : revF p n (revF p n i) = i := by
 cases h : p i with
 | false => rw [revF_no h, revF_no h]
 | true =>
  obtain ⟨a, b, s, _, _, _, _, _, h2⟩ := revF_in hi h
  exact h2
end
def geL (L : List Int) (k : Int) (i : Nat) : Bool := decide (k ≤ nth L i)
def ordF (L : List Int) (i : Nat) : Nat := revF (geL L 2) L.length (revF (geL L 1) L.length i)
def atF (L : List Int) (i : Nat) : Nat := revF (geL L 1) L.length (revF (geL L 2) L.length i)
section
variable {L : List Int}
theorem ordF_lt {i : Nat} (hi : i < L.length) : ordF L i < L.length := revF_lt (revF_lt hi)
theorem atF_lt {i : Nat} (hi : i < L.length) : atF L i < L.length := revF_lt (revF_lt hi)
theorem ord_at {i : Nat} (hi : i < L.length) : ordF L (atF L i) = i := by
 unfold ordF atF; rw [revF_revF (revF_lt hi), revF_revF hi]
theorem at_ord {i : Nat} (hi : i < L.length) : atF L (ordF L i) = i := by
 unfold ordF atF; rw [revF_revF (revF_lt hi), revF_revF hi]
theorem ordF_inj {i j : Nat} (hi : i < L.length) (hj : j < L.length) (h : ordF L i = ordF L j) : i = j := by
 rw [← at_ord hi, ← at_ord hj, h]
end
end Go.Ab
namespace Go.Ab
def strongF (right : Bool) (k : Int) : Int := if k = 4 then 1 else if k = 3 ∨ k = 2 then (if right then 2 else 0) else -1
def baseF (right : Bool) : Int := if right then 1 else 0
def okK (l : List Int) : Bool := l.all fun r => decide ((kindG r).2 = 0)
def rawL (right : Bool) (l : List Int) : List Int := l.map fun r => strongF right (kindG r).1
def gpL (L : List Int) (i : Nat) : Bool := decide (nth L i < 0)
def levAt (base : Int) (L : List Int) (i : Nat) : Int :=
 if 0 < fromP (gpL L) (i + 1) ∧ untilP (gpL L) L.length i < L.length ∧ nth L (fromP (gpL L) (i + 1) - 1) = nth L (untilP (gpL L) L.length i) then nth L (fromP (gpL L) (i + 1) - 1) else base
def lvL (base : Int) (L : List Int) : List Int := (List.range L.length).map (levAt base L)
def levS (l : List Int) (right : Bool) : List Int × Int := if 4096 < l.length then ([], 2) else if okK l = true then (lvL (baseF right) (rawL right l), 0) else ([], 90)
theorem kind_range {r : Int} (h : (kindG r).2 = 0) : (kindG r).1 = 0 ∨ (kindG r).1 = 1 ∨ (kindG r).1 = 2 ∨ (kindG r).1 = 3 ∨ (kindG r).1 = 4 := by
 unfold kindG kindR at *
 split at h
 ·rename_i hp
  rw [if_pos hp]
  simp only
  split
  ·omega
  ·split
   ·omega
   ·split
    ·omega
    ·split <;> omega
 ·simp at h
theorem kind_err {r : Int} (h : ¬ (kindG r).2 = 0) : (kindG r).2 = 90 := by
 unfold kindG at *
 split at h
 ·simp at h
 ·rename_i hp; rw [if_neg hp]
theorem fromP_step {p : Nat → Bool} {q : Nat} (h : p q = true) : fromP p (q + 1) = fromP p q := by rw [fromP, if_pos h]
theorem fromP_stop {p : Nat → Bool} {q : Nat} (h : p q = false) : fromP p (q + 1) = q + 1 := by rw [fromP, if_neg (by simp [h])]
theorem untP_stop {p : Nat → Bool} {n j : Nat} (h : n ≤ j ∨ p j = false) : untP p (n - j) j = j := by
 rcases h with h | h
 ·rw [show n - j = 0 by omega]; rfl
 ·cases n - j with
  | zero => rfl
  | succ k => rw [untP, if_neg (by simp [h])]
section
variable {L : List Int} {base : Int}
theorem lev_own {i : Nat} (hi : i < L.length) (h : gpL L i = false) : levAt base L i = nth L i := by
 unfold levAt untilP
 rw [fromP_stop h, untP_stop (.inr h)]
 simp [hi]
theorem lev_gap {i a b : Nat} (r : Run (gpL L) L.length a b) (h1 : a ≤ i) (h2 : i < b) : levAt base L i = if 0 < a ∧ b < L.length ∧ nth L (a - 1) = nth L b then nth L b else base := by
 have hp := r.all i h1 h2
 obtain ⟨s, h3, h4⟩ := run_at (p := gpL L) (n := L.length) (i := i) (by have := r.le; omega) hp
 obtain ⟨e1, e2⟩ := run_uniq r s h1 h2 h3 h4
 unfold levAt
 rw [fromP_step hp, ← e1, ← e2]
 by_cases c : 0 < a ∧ b < L.length ∧ nth L (a - 1) = nth L b
 ·rw [if_pos c, if_pos c]; exact c.2.2
 ·rw [if_neg c, if_neg c]
end
theorem strong_range (right : Bool) (k : Int) : strongF right k = -1 ∨ strongF right k = 0 ∨ strongF right k = 1 ∨ strongF right k = 2 := by
 unfold strongF
 split
 ·omega
 ·split
  ·split <;> omega
  ·omega
theorem rawL_len (right : Bool) (l : List Int) : (rawL right l).length = l.length := by simp [rawL]
theorem rawL_nth {right : Bool} {l : List Int} {i : Nat} (h : i < l.length) : nth (rawL right l) i = strongF right (kindG (nth l i)).1 := by
 rw [nth_eq (by simpa [rawL] using h)]
 simp [rawL, nth_eq h]
theorem lvL_len (base : Int) (L : List Int) : (lvL base L).length = L.length := by simp [lvL]
theorem lvL_nth {base : Int} {L : List Int} {i : Nat} (h : i < L.length) : nth (lvL base L) i = levAt base L i := by
 rw [nth_eq (by simpa [lvL] using h)]; simp [lvL]
theorem levS_range {l : List Int} {right : Bool} : ∀ x ∈ (levS l right).1, 0 ≤ x ∧ x ≤ 2 := by
 unfold levS
 split
 ·simp
 ·split
  ·intro x hx
   simp only [lvL, List.mem_map, List.mem_range] at hx
   obtain ⟨i, hi, rfl⟩ := hx
   rw [rawL_len] at hi
   have hb : 0 ≤ baseF right ∧ baseF right ≤ 1 := by unfold baseF; split <;> omega
   cases hg : gpL (rawL right l) i with
   | false =>
    rw [lev_own (by rw [rawL_len]; exact hi) hg]
    unfold gpL at hg
    simp only [decide_eq_false_iff_not] at hg
    rw [rawL_nth hi] at hg ⊢
    have := strong_range right (kindG (nth l i)).1
    omega
   | true =>
    obtain ⟨r, h1, h2⟩ := run_at (p := gpL (rawL right l)) (n := (rawL right l).length) (i := i) (by rw [rawL_len]; exact hi) hg
    rw [lev_gap r h1 h2]
    split
    ·rename_i c
     have hl := c.2.1
     have hi2 := r.hi
     generalize untilP (gpL (rawL right l)) (rawL right l).length i = b at *
     rcases hi2 with h | h
     ·omega
     ·unfold gpL at h
      simp only [decide_eq_false_iff_not] at h
      rw [rawL_len] at hl
      rw [rawL_nth hl] at h ⊢
      have := strong_range right (kindG (nth l b)).1
      omega
    ·omega
  ·simp
end Go.Ab
namespace Go.Ab
open Go.Proofs
set_option maxRecDepth 100000
set_option maxHeartbeats 4000000
theorem okK_false {l : List Int} {i : Nat} (hi : i < l.length) (h : ¬ (kindG (nth l i)).2 = 0) : okK l = false := by
 unfold okK
 rw [← Bool.not_eq_true, List.all_eq_true]
 intro hx; exact h (of_decide_eq_true (hx _ (nth_mem hi)))
theorem okK_true {l : List Int} (h : ∀ i, i < l.length → (kindG (nth l i)).2 = 0) : okK l = true := by
 unfold okK
 rw [List.all_eq_true]
 intro x hx
 obtain ⟨i, hi, rfl⟩ := List.mem_iff_getElem.1 hx
 rw [← nth_eq hi]; exact decide_eq_true (h i hi)
theorem rawL_take {right : Bool} {l : List Int} {i : Nat} (h : i < l.length) : rawL right (l.take (i + 1)) = rawL right (l.take i) ++ [strongF right (kindG (nth l i)).1] := by unfold rawL; rw [nth_take h]; simp
end Go.Ab
namespace Go.Ab
open Go.Proofs
set_option maxRecDepth 100000
set_option maxHeartbeats 8000000
def twoF (right : Bool) : Int := if right then 2 else 0
theorem C72 (right : Bool) : Kc cfg 72 [.bool right] (.ret (.agg [.int .i64 (-1), .int .i64 (-1), .int .i64 (twoF right), .int .i64 (twoF right), .int .i64 1])) := by
 cases right with
 | true =>
  refine outS_of_wp cfg (fn := Tryz.f72) Tryz.func72 rfl (by simp [Tryz.f72]) ?_
  simp (disch := first|exact DD|fail) [-getElem?_pos, gZ, gS, Tryz.f72]
  repeat' (first|((first|refine wA ?_ ?_|refine wB ?_ ?_)<;>intro hc<;>try simp at hc)|refine wF ?_|refine wY ?_|refine wL ?_|refine owe ?_ fun ho=>?_|(simp (disch := first|exact DD|fail) [-getElem?_pos, gZ, gS]))
  all_goals rfl
 | false =>
  refine outS_of_wp cfg (fn := Tryz.f72) Tryz.func72 rfl (by simp [Tryz.f72]) ?_
  simp (disch := first|exact DD|fail) [-getElem?_pos, gZ, gS, Tryz.f72]
  repeat' (first|((first|refine wA ?_ ?_|refine wB ?_ ?_)<;>intro hc<;>try simp at hc)|refine wF ?_|refine wY ?_|refine wL ?_|refine owe ?_ fun ho=>?_|(simp (disch := first|exact DD|fail) [-getElem?_pos, gZ, gS]))
  all_goals rfl
@[simp] theorem S72 (right : Bool) (hh : Heap) : Ci cfg (.func (.func 72) [] []) [.bool right] hh = some (.ret (.agg [.int .i64 (-1), .int .i64 (-1), .int .i64 (twoF right), .int .i64 (twoF right), .int .i64 1]), hh) :=
 Ci_K cfg rfl rfl (by simp) (by simp) (C72 right)
theorem strong_0 (r : Bool) : strongF r 0 = -1 := rfl
theorem strong_1 (r : Bool) : strongF r 1 = -1 := rfl
theorem strong_2 (r : Bool) : strongF r 2 = twoF r := rfl
theorem strong_3 (r : Bool) : strongF r 3 = twoF r := rfl
theorem strong_4 (r : Bool) : strongF r 4 = 1 := rfl
def lvT (base : Int) (L : List Int) (i : Nat) : Nat → Int := fun j => if j < i then levAt base L j else nth L j
theorem lvT_zero (base : Int) (L : List Int) : lvT base L 0 = nth L := by funext j; unfold lvT; rw [if_neg (by omega)]
theorem lvT_own {base : Int} {L : List Int} {i : Nat} (h : i < L.length → gpL L i = false) : tab L.length (cI (lvT base L i)) = tab L.length (cI (lvT base L (i + 1))) := tab_ext fun j hj => by
 unfold cI
 congr 1
 show (if j < i then levAt base L j else nth L j) = (if j < i + 1 then levAt base L j else nth L j)
 by_cases e : j = i
 ·subst e; rw [if_neg (by omega), if_pos (by omega), lev_own hj (h hj)]
 ·by_cases h1 : j < i
  ·rw [if_pos h1, if_pos (by omega)]
  ·rw [if_neg h1, if_neg (by omega)]
theorem lvT_set {base N : Int} {L : List Int} {i : Nat} (h : levAt base L i = N) : updI (lvT base L i) i N = lvT base L (i + 1) := by
 funext j
 show (if j = i then N else if j < i then levAt base L j else nth L j) = (if j < i + 1 then levAt base L j else nth L j)
 by_cases e : j = i
 ·subst e; rw [if_pos rfl, if_pos (by omega), h]
 ·rw [if_neg e]
  by_cases h1 : j < i
  ·rw [if_pos h1, if_pos (by omega)]
  ·rw [if_neg h1, if_neg (by omega)]
theorem rows_nth' (L : List Int) : rows eI L = tab L.length (cI (nth L)) := by
 rw [← rowF_cI]
 congr 1
 exact ext_nth (by simp) (fun i hi => by rw [nth_rowF hi])
theorem lvT_all {base : Int} {L : List Int} {i : Nat} (h : L.length ≤ i) : tab L.length (cI (lvT base L i)) = rows eI (lvL base L) := by
 rw [rows_nth', lvL_len]
 exact tab_ext fun j hj => by
  unfold cI
  congr 1
  rw [lvL_nth hj]
  show (if j < i then levAt base L j else nth L j) = _
  rw [if_pos (by omega)]
theorem eqV_tk {P : Program} {α : Type} {E : α → List V} {t : TypeId} {b : Bool} {l : List α} {k : Nat} (h : slcD (P.underlying t) = true) : eqV P b t (R (false, false, some k) E l) (.row true true [] 0 none) = some false := by
 unfold R
 rw [eqV_rn h]
 simp
theorem Cgap (n : Int) (h : Heap) : Ci cfg (.func (.func 75) [] []) [.int .i64 n] h = some (.ret (.bool (n == -1)), h) := by
 refine Ci_fun_wp (fn := Tryz.f75) rfl Tryz.func75 rfl (by simp [Tryz.f75]) ?_
 simp (disch := first|exact DD|fail) [-getElem?_pos, gZ, gS, Tryz.f75]
theorem raw_neg {right : Bool} {l : List Int} {i : Nat} (hi : i < l.length) : (nth (rawL right l) i == -1) = gpL (rawL right l) i := by
 unfold gpL
 rw [rawL_nth hi]
 rcases strong_range right (kindG (nth l i)).1 with h | h | h | h <;> rw [h] <;> rfl
end Go.Ab
