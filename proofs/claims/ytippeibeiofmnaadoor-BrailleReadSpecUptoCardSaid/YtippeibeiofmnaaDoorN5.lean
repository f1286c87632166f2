
import Derived.Test.YtippeibeiofmnaaDoorGr10
set_option linter.unusedVariables false
set_option linter.unusedSimpArgs false
set_option linter.unusedSectionVars false
set_option linter.deprecated false
namespace Go.Ab
open Go.Proofs
set_option maxRecDepth 100000
def swZ (a : Bool) (p : List Int × List Int) : List Int × List Int := if a then p else (p.2, p.1)
def addZ (a : Bool) (k : Int) (q : List Int × List Int) : List Int × List Int := if a then (q.1, k :: q.2) else (k :: q.1, q.2)
def onWay (t : List Sgn) (c : List Int → Int) (w : List Int) (k : Nat) : Bool := (stepZ w (nth t k).cells).2.2.2 && decide ((stepZ w (nth t k).cells).2.1 + c (stepZ w (nth t k).cells).1 = c w)
def bestF (t : List Sgn) (c : List Int → Int) (f : Nat) (w : List Int) (a : Bool) : Nat → Option (List Int × List Int)
 | 0 => none
 | k + 1 => if onWay t c w k = true then pickZ (bestF t c f w a k) (addZ a k (finF t c f (stepZ w (nth t k).cells).1 (a != (stepZ w (nth t k).cells).2.2.1))) else bestF t c f w a k
theorem finF_nil (t : List Sgn) (c : List Int → Int) (f : Nat) (a : Bool) : finF t c f [] a = ([], []) := by
 cases f <;> simp [finF]
theorem finF_best (t : List Sgn) (c : List Int → Int) (f : Nat) {w : List Int} (hw : w ≠ []) (a : Bool) : finF t c (f + 1) w a = (bestF t c f w a t.length).getD ([], []) := by
 rw [finF, if_neg hw]
 congr 1
 have key : ∀ m, (List.range m).foldl (fun b (k : Nat) =>
   if (stepZ w (nth t k).cells).2.2.2 = true ∧ (stepZ w (nth t k).cells).2.1 + c (stepZ w (nth t k).cells).1 = c w then
    pickZ b (if a then ((finF t c f (stepZ w (nth t k).cells).1 (a != (stepZ w (nth t k).cells).2.2.1)).1, (k : Int) :: (finF t c f (stepZ w (nth t k).cells).1 (a != (stepZ w (nth t k).cells).2.2.1)).2)
     else ((k : Int) :: (finF t c f (stepZ w (nth t k).cells).1 (a != (stepZ w (nth t k).cells).2.2.1)).1, (finF t c f (stepZ w (nth t k).cells).1 (a != (stepZ w (nth t k).cells).2.2.1)).2))
   else b) none = bestF t c f w a m := by
  intro m
  induction m with
  | zero => rfl
  | succ m ih =>
   rw [List.range_succ, List.foldl_append, List.foldl_cons, List.foldl_nil, ih, bestF]
   unfold onWay addZ
   simp only [Bool.and_eq_true, decide_eq_true_eq]
 exact key t.length
theorem onWay_of {t : List Sgn} {c : List Int → Int} {w : List Int} {k : Nat} (h : onWay t c w k = true) : (stepZ w (nth t k).cells).2.2.2 = true ∧ (stepZ w (nth t k).cells).2.1 + c (stepZ w (nth t k).cells).1 = c w := by
 unfold onWay at h
 rw [Bool.and_eq_true, decide_eq_true_eq] at h
 exact h
theorem phi_step {t : List Sgn} {c : List Int → Int} {w : List Int} {k : Nat} (hw : w ≠ []) (hc : 0 ≤ c (stepZ w (nth t k).cells).1) (hx : 1 ≤ (nth t k).cells.length) (h : onWay t c w k = true) : phiZ c (stepZ w (nth t k).cells).1 < phiZ c w := by
 obtain ⟨h1, h2⟩ := onWay_of h
 have hw1 : 1 ≤ w.length := by
  cases w with
  | nil => exact absurd rfl hw
  | cons x l => simp
 unfold phiZ
 unfold stepZ at h1 h2 hc ⊢
 split
 ·rename_i h3
  rw [if_pos h3] at h2 hc
  simp only [List.length_drop] at h2 hc ⊢
  omega
 ·rename_i h3
  rw [if_neg h3] at h1 h2 hc
  split
  ·rename_i h4
   rw [if_pos h4] at h2 hc
   have hl := (of_decide_eq_true h4 : w <+: _).length_le
   have hne : ¬ w.length = (nth t k).cells.length := fun e => h3 (by
    unfold preI at h4 ⊢
    have := (of_decide_eq_true h4 : w <+: (nth t k).cells)
    rw [List.IsPrefix.eq_of_length this e]
    exact decide_eq_true (List.prefix_refl _))
   simp only [List.length_drop] at h2 hc ⊢
   omega
  ·rename_i h4
   rw [if_neg h4] at h1
   simp at h1
theorem len_pick {b : Option (List Int × List Int)} {p : List Int × List Int} {n : Nat} (hb : ∀ q, b = some q → q.1.length ≤ n ∧ q.2.length ≤ n) (hp : p.1.length ≤ n ∧ p.2.length ≤ n) : ∀ q, pickZ b p = some q → q.1.length ≤ n ∧ q.2.length ≤ n := by
 intro q h
 unfold pickZ at h
 split at h
 ·simp only [Option.some.injEq] at h; subst h; exact hp
 ·split at h
  ·simp only [Option.some.injEq] at h; subst h; exact hp
  ·simp only [Option.some.injEq] at h; subst h; exact hb _ rfl
theorem len_best {t : List Sgn} {c : List Int → Int} {f : Nat} {w : List Int} {a : Bool} (ih : ∀ w a, (finF t c f w a).1.length ≤ f ∧ (finF t c f w a).2.length ≤ f) : ∀ m, ∀ q, bestF t c f w a m = some q → q.1.length ≤ f + 1 ∧ q.2.length ≤ f + 1
 | 0, q, h => by simp [bestF] at h
 | m + 1, q, h => by
  rw [bestF] at h
  split at h
  ·refine len_pick (len_best ih m) ?_ q h
   have := ih (stepZ w (nth t m).cells).1 (a != (stepZ w (nth t m).cells).2.2.1)
   unfold addZ
   split <;> simp only [List.length_cons] <;> omega
  ·exact len_best ih m q h
theorem len_fin (t : List Sgn) (c : List Int → Int) : ∀ (f : Nat) (w : List Int) (a : Bool), (finF t c f w a).1.length ≤ f ∧ (finF t c f w a).2.length ≤ f
 | 0, w, a => by simp [finF]
 | f + 1, w, a => by
  by_cases hw : w = []
  ·subst hw; rw [finF_nil]; simp
  ·rw [finF_best t c f hw]
   cases h : bestF t c f w a t.length with
   | none => simp
   | some q => exact len_best (fun w a => len_fin t c f w a) _ _ h
end Go.Ab
