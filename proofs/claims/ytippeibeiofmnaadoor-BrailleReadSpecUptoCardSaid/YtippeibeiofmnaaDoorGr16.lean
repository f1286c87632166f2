/- A part of the proof. -/
import Derived.Test.YtippeibeiofmnaaDoorN5
import Derived.Test.YtippeibeiofmnaaDoorGr13
import Derived.Test.YtippeibeiofmnaaDoorGr8
import Derived.Test.YtippeibeiofmnaaDoorAbsD
import Derived.Test.YtippeibeiofmnaaDoorGr9
import Derived.Test.YtippeibeiofmnaaDoorGr12
import Derived.Test.YtippeibeiofmnaaDoorGr15
set_option linter.unusedVariables false
set_option linter.unusedSimpArgs false
set_option linter.unusedSectionVars false
set_option linter.deprecated false
namespace Go.Ab
open Go.Proofs
set_option maxRecDepth 100000
theorem befZ_irr : ∀ l : List Int, befZ l l = false
 | [] => rfl
 | x :: l => by rw [befZ, if_pos rfl, befZ_irr l]
theorem befZ_trans : ∀ {a b c : List Int}, befZ a b = true → befZ b c = true → befZ a c = true
 | [], [], _, h, _ => by simp [befZ] at h
 | [], _ :: _, [], _, h => by simp [befZ] at h
 | [], _ :: _, _ :: _, _, _ => rfl
 | _ :: _, [], _, h, _ => by simp [befZ] at h
 | _ :: _, _ :: _, [], _, h => by simp [befZ] at h
 | x :: a, y :: b, z :: c, h, k => by
  rw [befZ] at h k ⊢
  by_cases e : x = y
  ·rw [if_pos e] at h
   by_cases e2 : y = z
   ·rw [if_pos e2] at k
    rw [if_pos (e.trans e2)]
    exact befZ_trans h k
   ·rw [if_neg e2] at k
    rw [if_neg (fun e3 => e2 (e.symm.trans e3)), e]; exact k
  ·rw [if_neg e, decide_eq_true_eq] at h
   by_cases e2 : y = z
   ·rw [if_neg (fun e3 => e (e3.trans e2.symm)), ← e2]; exact decide_eq_true h
   ·rw [if_neg e2, decide_eq_true_eq] at k
    rw [if_neg (by omega)]
    exact decide_eq_true (by omega)
theorem befZ_tri : ∀ {a b : List Int}, a ≠ b → befZ a b = true ∨ befZ b a = true
 | [], [], h => absurd rfl h
 | [], _ :: _, _ => .inl rfl
 | _ :: _, [], _ => .inr rfl
 | x :: a, y :: b, h => by
  rw [befZ, befZ]
  by_cases e : x = y
  ·rw [if_pos e, if_pos e.symm]
   exact befZ_tri (fun e2 => h (by rw [e, e2]))
  ·rw [if_neg e, if_neg (fun e2 => e e2.symm), decide_eq_true_eq, decide_eq_true_eq]
   omega
theorem lessZ_irr (p : List Int × List Int) : lessZ p p = false := by
 unfold lessZ; rw [befZ_irr, befZ_irr]; simp
theorem lessZ_iff {p q : List Int × List Int} : lessZ p q = true ↔ befZ p.1 q.1 = true ∨ (p.1 = q.1 ∧ befZ p.2 q.2 = true) := by
 unfold lessZ
 rw [Bool.or_eq_true, Bool.and_eq_true, decide_eq_true_eq]
theorem lessZ_trans {p q r : List Int × List Int} (h : lessZ p q = true) (k : lessZ q r = true) : lessZ p r = true := by
 rw [lessZ_iff] at h k ⊢
 rcases h with h | ⟨h1, h2⟩
 ·rcases k with k | ⟨k1, k2⟩
  ·exact .inl (befZ_trans h k)
  ·rw [← k1]; exact .inl h
 ·rcases k with k | ⟨k1, k2⟩
  ·rw [h1]; exact .inl k
  ·exact .inr ⟨h1.trans k1, befZ_trans h2 k2⟩
theorem lessZ_tri {p q : List Int × List Int} (h : p ≠ q) : lessZ p q = true ∨ lessZ q p = true := by
 rw [lessZ_iff, lessZ_iff]
 by_cases e : p.1 = q.1
 ·have e2 : p.2 ≠ q.2 := fun e2 => h (Prod.ext e e2)
  rcases befZ_tri e2 with h | h
  ·exact .inl (.inr ⟨e, h⟩)
  ·exact .inr (.inr ⟨e.symm, h⟩)
 ·rcases befZ_tri e with h | h
  ·exact .inl (.inl h)
  ·exact .inr (.inl h)
def leZ (p q : List Int × List Int) : Prop := lessZ q p = false
theorem leZ_refl (p : List Int × List Int) : leZ p p := lessZ_irr p
theorem leZ_iff {p q : List Int × List Int} : leZ p q ↔ p = q ∨ lessZ p q = true := by
 unfold leZ
 constructor
 ·intro h
  by_cases e : p = q
  ·exact .inl e
  ·rcases lessZ_tri e with h2 | h2
   ·exact .inr h2
   ·rw [h2] at h; cases h
 ·rintro (rfl | h)
  ·exact lessZ_irr p
  ·cases h2 : lessZ q p with
   | false => rfl
   | true => have := lessZ_trans h h2; rw [lessZ_irr] at this; cases this
theorem leZ_trans {p q r : List Int × List Int} (h : leZ p q) (k : leZ q r) : leZ p r := by
 rw [leZ_iff] at h k ⊢
 rcases h with rfl | h
 ·exact k
 ·rcases k with rfl | k
  ·exact .inr h
  ·exact .inr (lessZ_trans h k)
theorem leZ_add {a : Bool} {k : Int} {p q : List Int × List Int} (h : leZ p q) : leZ (addZ a k p) (addZ a k q) := by
 unfold leZ lessZ addZ at *
 cases a
 ·simp only [befZ, if_true, List.cons.injEq, true_and, Bool.false_eq_true, if_false] at h ⊢
  exact h
 ·simp only [befZ, if_true] at h ⊢
  exact h
theorem pick_le {b : Option (List Int × List Int)} {p q : List Int × List Int} (h : pickZ b p = some q) : leZ q p ∧ (∀ r, b = some r → leZ q r) ∧ (q = p ∨ b = some q) := by
 unfold pickZ at h
 split at h
 ·simp only [Option.some.injEq] at h
  subst h
  exact ⟨leZ_refl _, fun r hr => (by cases hr), .inl rfl⟩
 ·rename_i r
  split at h
  ·rename_i hl
   simp only [Option.some.injEq] at h
   subst h
   exact ⟨leZ_refl _, fun r' hr => by simp only [Option.some.injEq] at hr; subst hr; exact leZ_iff.2 (.inr hl), .inl rfl⟩
  ·rename_i hl
   simp only [Option.some.injEq] at h
   subst h
   exact ⟨by unfold leZ; simpa using hl, fun r' hr => by simp only [Option.some.injEq] at hr; subst hr; exact leZ_refl _, .inr rfl⟩
theorem pick_some (b : Option (List Int × List Int)) (p : List Int × List Int) : ∃ q, pickZ b p = some q := by
 unfold pickZ
 split
 ·exact ⟨_, rfl⟩
 ·split <;> exact ⟨_, rfl⟩
theorem best_le {t : List Sgn} {c : List Int → Int} {f : Nat} {w : List Int} {a : Bool} : ∀ m, (bestF t c f w a m = none → ∀ k, k < m → onWay t c w k = false) ∧
  ∀ p, bestF t c f w a m = some p → (∃ k, k < m ∧ onWay t c w k = true ∧ p = addZ a k (finF t c f (stepZ w (nth t k).cells).1 (a != (stepZ w (nth t k).cells).2.2.1))) ∧
   ∀ k, k < m → onWay t c w k = true → leZ p (addZ a k (finF t c f (stepZ w (nth t k).cells).1 (a != (stepZ w (nth t k).cells).2.2.1)))
 | 0 => ⟨fun _ k hk => by omega, fun p h => by simp [bestF] at h⟩
 | m + 1 => by
  obtain ⟨i1, i2⟩ := best_le (t := t) (c := c) (f := f) (w := w) (a := a) m
  rw [bestF]
  cases ho : onWay t c w m with
  | false =>
   rw [if_neg (by simp)]
   refine ⟨fun h k hk => ?_, fun p h => ?_⟩
   ·by_cases e : k = m
    ·subst e; exact ho
    ·exact i1 h k (by omega)
   ·obtain ⟨⟨k, k1, k2, k3⟩, h2⟩ := i2 p h
    refine ⟨⟨k, by omega, k2, k3⟩, fun k' hk' ho' => ?_⟩
    by_cases e : k' = m
    ·subst e; rw [ho] at ho'; cases ho'
    ·exact h2 k' (by omega) ho'
  | true =>
   rw [if_pos rfl]
   refine ⟨fun h => ?_, fun p h => ?_⟩
   ·obtain ⟨q, hq⟩ := pick_some (bestF t c f w a m) (addZ a m (finF t c f (stepZ w (nth t m).cells).1 (a != (stepZ w (nth t m).cells).2.2.1)))
    rw [hq] at h; cases h
   ·obtain ⟨p1, p2, p3⟩ := pick_le h
    constructor
    ·rcases p3 with p3 | p3
     ·exact ⟨m, by omega, ho, p3⟩
     ·obtain ⟨⟨k, k1, k2, k3⟩, _⟩ := i2 p p3
      exact ⟨k, by omega, k2, k3⟩
    ·intro k hk hok
     by_cases e : k = m
     ·subst e; exact p1
     ·cases hb : bestF t c f w a m with
      | none => have := i1 hb k (by omega); rw [hok] at this; cases this
      | some r => exact leZ_trans (p2 r hb) ((i2 r hb).2 k (by omega) hok)
def castL (l : List Nat) : List Int := l.map fun (k : Nat) => (k : Int)
structure EndUV (t : List Sgn) (w : List Int) (u v : List Nat) : Prop where
 hu : ∀ k ∈ u, k < t.length
 hv : ∀ k ∈ v, k < t.length
 he : w ++ cellsZ t u = cellsZ t v
def swN (a : Bool) (u v : List Nat) : List Int × List Int := if a then (castL u, castL v) else (castL v, castL u)
theorem pre_app {a b : List Int} (h : a <+: b) : b = a ++ b.drop a.length := by
 obtain ⟨r, rfl⟩ := h
 rw [List.drop_left]
theorem cells_ne {t : List Sgn} (h1 : ∀ k, k < t.length → 1 ≤ (nth t k).cells.length) {l : List Nat} (hl : ∀ k ∈ l, k < t.length) (h : cellsZ t l = []) : l = [] := by
 cases l with
 | nil => rfl
 | cons k l =>
  have h3 := congrArg List.length h
  rw [cellsZ_cons, List.length_append, List.length_nil] at h3
  have h2 := h1 k (hl k List.mem_cons_self)
  omega
theorem EndUV.step {t : List Sgn} {w : List Int} {u v : List Nat} (h : EndUV t w u v) (hw : w ≠ []) : ∃ k v', v = k :: v' ∧ k < t.length ∧ (stepZ w (nth t k).cells).2.2.2 = true ∧
  EndUV t (stepZ w (nth t k).cells).1 (if (stepZ w (nth t k).cells).2.2.1 then v' else u) (if (stepZ w (nth t k).cells).2.2.1 then u else v') ∧
  ((cellsZ t u).length : Int) = (stepZ w (nth t k).cells).2.1 + (cellsZ t (if (stepZ w (nth t k).cells).2.2.1 then v' else u)).length := by
 cases v with
 | nil =>
  have := congrArg List.length h.he
  rw [List.length_append] at this
  have h2 : (cellsZ t []).length = 0 := rfl
  cases w with
  | nil => exact absurd rfl hw
  | cons x l => simp only [List.length_cons] at this; omega
 | cons k v' =>
  have hk := h.hv k List.mem_cons_self
  have hv : ∀ x ∈ v', x < t.length := fun x hx => h.hv x (List.mem_cons_of_mem _ hx)
  refine ⟨k, v', rfl, hk, ?_⟩
  have he := h.he
  rw [cellsZ_cons] at he
  generalize hx : (nth t k).cells = x at *
  by_cases hp : x <+: w
  ·have hpi : preI x w = true := decide_eq_true hp
   have hs : stepZ w x = (w.drop x.length, 0, false, true) := by unfold stepZ; rw [if_pos hpi]
   rw [hs]
   refine ⟨rfl, ⟨h.hu, hv, ?_⟩, by simp⟩
   have h2 := pre_app hp
   rw [h2, List.append_assoc] at he
   exact List.append_cancel_left he
  ·have hpi : ¬ preI x w = true := by simpa [preI] using hp
   have hq : w <+: x := by
    rcases List.prefix_or_prefix_of_prefix (⟨_, he⟩ : w <+: x ++ cellsZ t v') (List.prefix_append x _) with h2 | h2
    ·exact h2
    ·exact absurd h2 hp
   have hqi : preI w x = true := decide_eq_true hq
   have hs : stepZ w x = (x.drop w.length, (x.length : Int) - w.length, true, true) := by unfold stepZ; rw [if_neg hpi, if_pos hqi]
   rw [hs]
   have h2 := pre_app hq
   have h3 : cellsZ t u = x.drop w.length ++ cellsZ t v' := by
    rw [h2, List.append_assoc] at he
    exact List.append_cancel_left he
   refine ⟨rfl, ⟨hv, h.hu, h3.symm⟩, ?_⟩
   have h4 := congrArg List.length h3
   rw [List.length_append, List.length_drop] at h4
   have := hq.length_le
   simp only [if_true]
   omega
theorem EndUV.ends {t : List Sgn} : ∀ (n : Nat) {w : List Int} {u v : List Nat}, u.length + v.length ≤ n → EndUV t w u v → ∃ m : Int, m ≤ (cellsZ t u).length ∧ Ends t w m
 | n, w, u, v, hn, h => by
  by_cases hw : w = []
  ·subst hw
   exact ⟨0, by omega, .nil⟩
  ·obtain ⟨k, v', rfl, hk, ho, h2, h3⟩ := h.step hw
   cases n with
   | zero => simp at hn
   | succ n =>
    have hl : (if (stepZ w (nth t k).cells).2.2.1 then v' else u).length + (if (stepZ w (nth t k).cells).2.2.1 then u else v').length ≤ n := by
     simp only [List.length_cons] at hn
     split <;> omega
    obtain ⟨m, m1, m2⟩ := EndUV.ends n hl h2
    exact ⟨_, by omega, .step hw hk ho m2⟩
theorem EndUV.cost {t : List Sgn} {w : List Int} {u v : List Nat} (h : EndUV t w u v) : costZ t w ≤ (cellsZ t u).length := by
 obtain ⟨m, m1, m2⟩ := h.ends _ (Nat.le_refl _)
 have := (costZ_is t w).2.2 m m2
 omega
theorem EndUV.back {t : List Sgn} {w : List Int} {k : Nat} {u v : List Nat} (hk : k < t.length) (ho : (stepZ w (nth t k).cells).2.2.2 = true) (h : EndUV t (stepZ w (nth t k).cells).1 u v) :
  EndUV t w (if (stepZ w (nth t k).cells).2.2.1 then v else u) (k :: (if (stepZ w (nth t k).cells).2.2.1 then u else v)) ∧
  ((cellsZ t (if (stepZ w (nth t k).cells).2.2.1 then v else u)).length : Int) = (stepZ w (nth t k).cells).2.1 + (cellsZ t u).length := by
 have hcons : ∀ {l : List Nat}, (∀ x ∈ l, x < t.length) → ∀ x ∈ k :: l, x < t.length := fun hl x hx => by
  rcases List.mem_cons.1 hx with rfl | hx
  ·exact hk
  ·exact hl x hx
 generalize hx : (nth t k).cells = x at *
 unfold stepZ at ho h ⊢
 by_cases hp : preI x w = true
 ·rw [if_pos hp] at ho h ⊢
  simp only [Bool.false_eq_true, if_false] at h ⊢
  refine ⟨⟨h.hu, hcons h.hv, ?_⟩, by simp⟩
  rw [cellsZ_cons, hx, ← h.he, ← List.append_assoc, ← pre_app (of_decide_eq_true hp)]
 ·rw [if_neg hp] at ho h ⊢
  by_cases hq : preI w x = true
  ·rw [if_pos hq] at ho h ⊢
   simp only [if_true] at h ⊢
   have h2 := pre_app (of_decide_eq_true hq : w <+: x)
   have hl := (of_decide_eq_true hq : w <+: x).length_le
   refine ⟨⟨h.hv, hcons h.hu, ?_⟩, ?_⟩
   ·rw [cellsZ_cons, hx, ← h.he, ← List.append_assoc, ← h2]
   ·rw [← h.he, List.length_append, List.length_drop]; omega
  ·rw [if_neg hq] at ho
   simp at ho
theorem add_sw (a tu : Bool) (k : Nat) (u v : List Nat) : addZ a k (swN (a != tu) u v) = swN a (if tu then v else u) (k :: (if tu then u else v)) := by
 cases a <;> cases tu <;> rfl
theorem fin_best {t : List Sgn} (ht : ∀ k, k < t.length → 1 ≤ (nth t k).cells.length) : ∀ (f : Nat) (w : List Int) (a : Bool), costZ t w < neverZ → phiZ (costZ t) w < f →
  (∃ u v, EndUV t w u v ∧ ((cellsZ t u).length : Int) = costZ t w ∧ finF t (costZ t) f w a = swN a u v) ∧
  ∀ u v, EndUV t w u v → ((cellsZ t u).length : Int) = costZ t w → leZ (finF t (costZ t) f w a) (swN a u v)
 | 0, w, a, _, h => by omega
 | f + 1, w, a, hc, hf => by
  by_cases hw : w = []
  ·subst hw
   rw [finF_nil]
   refine ⟨⟨[], [], ⟨fun k hk => (by cases hk), fun k hk => (by cases hk), rfl⟩, by rw [costZ_nil]; rfl, by cases a <;> rfl⟩, fun u v h hl => ?_⟩
   rw [costZ_nil] at hl
   have hu : u = [] := cells_ne ht h.hu (List.eq_nil_of_length_eq_zero (by omega))
   subst hu
   have hv : v = [] := cells_ne ht h.hv h.he.symm
   subst hv
   have : swN a [] [] = ([], []) := by cases a <;> rfl
   rw [this]; exact leZ_refl _
  ·rw [finF_best t (costZ t) f hw a]
   obtain ⟨b1, b2⟩ := best_le (t := t) (c := costZ t) (f := f) (w := w) (a := a) t.length
   have hnn := fun w => (costZ_nn t w).1
   have hsub : ∀ k, k < t.length → onWay t (costZ t) w k = true → costZ t (stepZ w (nth t k).cells).1 < neverZ ∧ phiZ (costZ t) (stepZ w (nth t k).cells).1 < f := fun k hk ho => by
    obtain ⟨o1, o2⟩ := onWay_of ho
    have h1 := stepZ_nn w (nth t k).cells
    have h2 := phi_step (c := costZ t) hw (hnn _) (ht k hk) ho
    exact ⟨by omega, by omega⟩
   have hway : ∃ k, k < t.length ∧ onWay t (costZ t) w k = true := by
    rcases (costZ_is t w).2.1 with h | h
    ·omega
    ·generalize hcw : costZ t w = cw at h
     cases h with
     | nil => exact absurd rfl hw
     | @step _ k m _ hk ho hm =>
      refine ⟨k, hk, ?_⟩
      have h1 := costZ_step hk hw ho
      have h2 := (costZ_is t (stepZ w (nth t k).cells).1).2.2 m hm
      unfold onWay
      rw [ho, Bool.true_and]
      exact decide_eq_true (by omega)
   cases hb : bestF t (costZ t) f w a t.length with
   | none =>
    obtain ⟨k, hk, ho⟩ := hway
    rw [b1 hb k hk] at ho; cases ho
   | some p =>
    obtain ⟨⟨k, hk, ho, hp⟩, hmin⟩ := b2 p hb
    rw [Option.getD_some]
    constructor
    ·obtain ⟨s1, s2⟩ := hsub k hk ho
     obtain ⟨u, v, h1, h2, h3⟩ := (fin_best ht f _ (a != (stepZ w (nth t k).cells).2.2.1) s1 s2).1
     obtain ⟨o1, o2⟩ := onWay_of ho
     obtain ⟨g1, g2⟩ := h1.back hk o1
     refine ⟨_, _, g1, by omega, ?_⟩
     rw [hp, h3, add_sw]
    ·intro u v h hl
     obtain ⟨k', v', rfl, hk', ho', h2, h3⟩ := h.step hw
     have hc2 := h2.cost
     have hc3 := costZ_step hk' hw ho'
     have hon : onWay t (costZ t) w k' = true := by
      unfold onWay
      rw [ho', Bool.true_and]
      exact decide_eq_true (by omega)
     obtain ⟨s1, s2⟩ := hsub k' hk' hon
     have h4 := (fin_best ht f _ (a != (stepZ w (nth t k').cells).2.2.1) s1 s2).2 _ _ h2 (by omega)
     have h5 := leZ_add (a := a) (k := (k' : Int)) h4
     rw [add_sw] at h5
     have h6 : swN a (if (stepZ w (nth t k').cells).2.2.1 then (if (stepZ w (nth t k').cells).2.2.1 then u else v') else (if (stepZ w (nth t k').cells).2.2.1 then v' else u)) (k' :: (if (stepZ w (nth t k').cells).2.2.1 then (if (stepZ w (nth t k').cells).2.2.1 then v' else u) else (if (stepZ w (nth t k').cells).2.2.1 then u else v'))) = swN a u (k' :: v') := by
      cases (stepZ w (nth t k').cells).2.2.1 <;> rfl
     rw [h6] at h5
     exact leZ_trans (hmin k' hk' hon) h5
end Go.Ab
namespace Go.Ab
open Go.Proofs
set_option maxRecDepth 100000
noncomputable def nnT (t : List Sgn) (i k : Nat) : Int := ((nth t i).cells.length : Int) + (stepZ (nth t i).cells (nth t k).cells).2.1 + costZ t (stepZ (nth t i).cells (nth t k).cells).1
noncomputable def prT (t : List Sgn) (i k : Nat) : List Int × List Int := ((i : Int) :: (finZ t (costZ t) (stepZ (nth t i).cells (nth t k).cells).1 (!(stepZ (nth t i).cells (nth t k).cells).2.2.1)).1, (k : Int) :: (finZ t (costZ t) (stepZ (nth t i).cells (nth t k).cells).1 (!(stepZ (nth t i).cells (nth t k).cells).2.2.1)).2)
def okT (t : List Sgn) (i k : Nat) : Prop := (stepZ (nth t i).cells (nth t k).cells).2.2.2 = true ∧ nnT t i k < neverZ
theorem trySt_T (t : List Sgn) (i k : Nat) (b : Int × List Int × List Int) : trySt t (costZ t) i k b =
  if (stepZ (nth t i).cells (nth t k).cells).2.2.2 = false ∨ neverZ ≤ nnT t i k ∨ b.1 < nnT t i k then b else if nnT t i k < b.1 ∨ lessZ (prT t i k) (b.2.1, b.2.2) = true then (nnT t i k, (prT t i k).1, (prT t i k).2) else b := rfl
structure TwI (t : List Sgn) (P : Nat → Nat → Prop) (b : Int × List Int × List Int) : Prop where
 st : b = (neverZ, [], []) ∨ ∃ i k, P i k ∧ okT t i k ∧ b = (nnT t i k, (prT t i k).1, (prT t i k).2)
 mn : ∀ i k, P i k → okT t i k → b.1 < nnT t i k ∨ (b.1 = nnT t i k ∧ leZ (b.2.1, b.2.2) (prT t i k))
theorem TwI.try {t : List Sgn} {P Q : Nat → Nat → Prop} {b : Int × List Int × List Int} {i k : Nat} (h : TwI t P b) (hQ : ∀ x y, Q x y ↔ P x y ∨ (x = i ∧ y = k)) : TwI t Q (trySt t (costZ t) i k b) := by
 rw [trySt_T]
 split
 ·rename_i hc
  refine ⟨?_, fun x y hq ho => ?_⟩
  ·rcases h.st with h1 | ⟨x, y, h1, h2, h3⟩
   ·exact .inl h1
   ·exact .inr ⟨x, y, (hQ x y).2 (.inl h1), h2, h3⟩
  ·rcases (hQ x y).1 hq with h1 | ⟨rfl, rfl⟩
   ·exact h.mn x y h1 ho
   ·rcases hc with hc | hc | hc
    ·rw [ho.1] at hc; cases hc
    ·have := ho.2; omega
    ·exact .inl hc
 ·rename_i hc
  have hok : okT t i k := by
   refine ⟨?_, ?_⟩
   ·cases e : (stepZ (nth t i).cells (nth t k).cells).2.2.2 with
    | true => rfl
    | false => exact absurd (.inl e) hc
   ·rcases Int.lt_or_le (nnT t i k) neverZ with h1 | h1
    ·exact h1
    ·exact absurd (.inr (.inl h1)) hc
  have hle : nnT t i k ≤ b.1 := by
   rcases Int.lt_or_le b.1 (nnT t i k) with h1 | h1
   ·exact absurd (.inr (.inr h1)) hc
   ·exact h1
  split
  ·rename_i hl
   refine ⟨.inr ⟨i, k, (hQ i k).2 (.inr ⟨rfl, rfl⟩), hok, rfl⟩, fun x y hq ho => ?_⟩
   rcases (hQ x y).1 hq with h1 | ⟨rfl, rfl⟩
   ·rcases h.mn x y h1 ho with h2 | ⟨h2, h3⟩
    ·left; simp only; omega
    ·rcases hl with hl | hl
     ·left; simp only; omega
     ·by_cases e : nnT t i k = nnT t x y
      ·exact .inr ⟨e, leZ_trans (leZ_iff.2 (.inr hl)) h3⟩
      ·left; simp only; omega
   ·exact .inr ⟨rfl, leZ_refl _⟩
  ·rename_i hl
   refine ⟨?_, fun x y hq ho => ?_⟩
   ·rcases h.st with h1 | ⟨x, y, h1, h2, h3⟩
    ·exact .inl h1
    ·exact .inr ⟨x, y, (hQ x y).2 (.inl h1), h2, h3⟩
   ·rcases (hQ x y).1 hq with h1 | ⟨rfl, rfl⟩
    ·exact h.mn x y h1 ho
    ·right
     refine ⟨?_, ?_⟩
     ·rcases Int.lt_or_le (nnT t x y) b.1 with h1 | h1
      ·exact absurd (.inl h1) hl
      ·omega
     ·unfold leZ
      cases e : lessZ (prT t x y) (b.2.1, b.2.2) with
      | false => rfl
      | true => exact absurd (.inr e) hl
theorem TwI.row {t : List Sgn} {P : Nat → Nat → Prop} {b : Int × List Int × List Int} {i : Nat} (h : TwI t P b) : ∀ m, TwI t (fun x y => P x y ∨ (x = i ∧ i < y ∧ y ≤ i + m)) (rowSt t (costZ t) i m b)
 | 0 => by
  have e : (fun x y => P x y ∨ (x = i ∧ i < y ∧ y ≤ i + 0)) = P := by
   funext x y
   refine propext ⟨?_, .inl⟩
   rintro (h | ⟨_, h1, h2⟩)
   ·exact h
   ·omega
  rw [e]; exact h
 | m + 1 => by
  have e : rowSt t (costZ t) i (m + 1) b = trySt t (costZ t) i (i + 1 + m) (rowSt t (costZ t) i m b) := by unfold rowSt; rw [List.range_succ, List.foldl_append]; rfl
  rw [e]
  refine (TwI.row h m).try (fun x y => ?_)
  constructor
  ·rintro (h | ⟨h1, h2, h3⟩)
   ·exact .inl (.inl h)
   ·by_cases e : y = i + 1 + m
    ·exact .inr ⟨h1, e⟩
    ·exact .inl (.inr ⟨h1, h2, by omega⟩)
  ·rintro ((h | ⟨h1, h2, h3⟩) | ⟨h1, h2⟩)
   ·exact .inl h
   ·exact .inr ⟨h1, h2, by omega⟩
   ·exact .inr ⟨h1, by omega, by omega⟩
theorem TwI.all (t : List Sgn) : ∀ m, m ≤ t.length → TwI t (fun x y => x < m ∧ x < y ∧ y < t.length) (allSt t (costZ t) m)
 | 0, _ => ⟨.inl rfl, fun x y h => by omega⟩
 | m + 1, hm => by
  have e : allSt t (costZ t) (m + 1) = rowSt t (costZ t) m (t.length - (m + 1)) (allSt t (costZ t) m) := by unfold allSt; rw [List.range_succ, List.foldl_append]; rfl
  rw [e]
  have h := (TwI.all t m (by omega)).row (i := m) (t.length - (m + 1))
  have e2 : (fun x y => (x < m ∧ x < y ∧ y < t.length) ∨ (x = m ∧ m < y ∧ y ≤ m + (t.length - (m + 1)))) = fun x y => x < m + 1 ∧ x < y ∧ y < t.length := by
   funext x y
   refine propext ?_
   omega
  rw [e2] at h
  exact h
theorem allSt_I (t : List Sgn) : TwI t (fun x y => x < y ∧ y < t.length) (allSt t (costZ t) t.length) := by
 have h := TwI.all t t.length (Nat.le_refl _)
 have e : (fun x y => x < t.length ∧ x < y ∧ y < t.length) = fun x y => x < y ∧ y < t.length := by
  funext x y
  refine propext ?_
  omega
 rw [e] at h
 exact h
theorem pair_ends {t : List Sgn} {i k : Nat} {x y : List Nat} (hi : i < t.length) (hk : k < t.length) (hx : ∀ j ∈ x, j < t.length) (hy : ∀ j ∈ y, j < t.length) (hne : (nth t i).cells ≠ []) (he : cellsZ t (i :: x) = cellsZ t (k :: y)) :
  (stepZ (nth t i).cells (nth t k).cells).2.2.2 = true ∧ EndUV t (stepZ (nth t i).cells (nth t k).cells).1 (if (stepZ (nth t i).cells (nth t k).cells).2.2.1 then y else x) (if (stepZ (nth t i).cells (nth t k).cells).2.2.1 then x else y) ∧
  ((cellsZ t (i :: x)).length : Int) = (nth t i).cells.length + (stepZ (nth t i).cells (nth t k).cells).2.1 + (cellsZ t (if (stepZ (nth t i).cells (nth t k).cells).2.2.1 then y else x)).length := by
 have h : EndUV t (nth t i).cells x (k :: y) := ⟨hx, fun j hj => by
  rcases List.mem_cons.1 hj with rfl | hj
  ·exact hk
  ·exact hy j hj, by rw [← he, cellsZ_cons]⟩
 obtain ⟨k', v', e, _, ho, h2, h3⟩ := h.step hne
 obtain ⟨rfl, rfl⟩ := List.cons.inj e
 refine ⟨ho, h2, ?_⟩
 rw [cellsZ_cons, List.length_append]
 omega
theorem phi_lt (c : List Int → Int) (w : List Int) : phiZ c w < phiZ c w + 1 := Nat.lt_succ_self _
theorem prT_pair {t : List Sgn} (ht : ∀ k, k < t.length → 1 ≤ (nth t k).cells.length) {i k : Nat} (hi : i < t.length) (hk : k < t.length) (ho : okT t i k) :
  ∃ x y : List Nat, prT t i k = (castL (i :: x), castL (k :: y)) ∧ (∀ j ∈ i :: x, j < t.length) ∧ (∀ j ∈ k :: y, j < t.length) ∧ cellsZ t (i :: x) = cellsZ t (k :: y) ∧ ((cellsZ t (i :: x)).length : Int) = nnT t i k := by
 obtain ⟨h1, h2⟩ := ho
 have hs := stepZ_nn (nth t i).cells (nth t k).cells
 have hc : costZ t (stepZ (nth t i).cells (nth t k).cells).1 < neverZ := by unfold nnT at h2; omega
 obtain ⟨⟨u, v, g1, g2, g3⟩, _⟩ := fin_best ht _ (stepZ (nth t i).cells (nth t k).cells).1 (!(stepZ (nth t i).cells (nth t k).cells).2.2.1) hc (phi_lt _ _)
 obtain ⟨b1, b2⟩ := g1.back hk h1
 unfold prT nnT finZ
 rw [g3]
 have hcons : ∀ {j : Nat} {l : List Nat}, j < t.length → (∀ x ∈ l, x < t.length) → ∀ x ∈ j :: l, x < t.length := fun hj hl x hx => by
  rcases List.mem_cons.1 hx with rfl | hx
  ·exact hj
  ·exact hl x hx
 have he := b1.he
 have hl := congrArg List.length he
 rw [List.length_append] at hl
 generalize (stepZ (nth t i).cells (nth t k).cells).2.2.1 = tu at *
 cases tu with
 | false =>
  simp only [Bool.false_eq_true, if_false] at b1 b2 he
  exact ⟨u, v, rfl, hcons hi g1.hu, hcons hk g1.hv, by rw [cellsZ_cons]; exact he, by rw [cellsZ_cons, List.length_append]; omega⟩
 | true =>
  simp only [if_true] at b1 b2 he
  exact ⟨v, u, rfl, hcons hi g1.hv, hcons hk g1.hu, by rw [cellsZ_cons]; exact he, by rw [cellsZ_cons, List.length_append]; omega⟩
theorem prT_least {t : List Sgn} (ht : ∀ k, k < t.length → 1 ≤ (nth t k).cells.length) {i k : Nat} {x y : List Nat} (hi : i < t.length) (hk : k < t.length) (hx : ∀ j ∈ x, j < t.length) (hy : ∀ j ∈ y, j < t.length) (he : cellsZ t (i :: x) = cellsZ t (k :: y)) (hl : ((cellsZ t (i :: x)).length : Int) < neverZ) :
  okT t i k ∧ nnT t i k ≤ (cellsZ t (i :: x)).length ∧ (nnT t i k = (cellsZ t (i :: x)).length → leZ (prT t i k) (castL (i :: x), castL (k :: y))) := by
 have hne : (nth t i).cells ≠ [] := fun e => by have := ht i hi; rw [e] at this; simp at this
 obtain ⟨h1, h2, h3⟩ := pair_ends hi hk hx hy hne he
 have hc := h2.cost
 have hn : nnT t i k ≤ (cellsZ t (i :: x)).length := by unfold nnT; omega
 refine ⟨⟨h1, by omega⟩, hn, fun hq => ?_⟩
 have hs := stepZ_nn (nth t i).cells (nth t k).cells
 have hc2 : costZ t (stepZ (nth t i).cells (nth t k).cells).1 < neverZ := by unfold nnT at hn; omega
 have h4 := (fin_best ht _ (stepZ (nth t i).cells (nth t k).cells).1 (!(stepZ (nth t i).cells (nth t k).cells).2.2.1) hc2 (phi_lt _ _)).2 _ _ h2 (by unfold nnT at hq; omega)
 have h5 := leZ_add (a := false) (k := (i : Int)) (leZ_add (a := true) (k := (k : Int)) h4)
 have e1 : addZ false (i : Int) (addZ true (k : Int) (finF t (costZ t) (phiZ (costZ t) (stepZ (nth t i).cells (nth t k).cells).1 + 1) (stepZ (nth t i).cells (nth t k).cells).1 (!(stepZ (nth t i).cells (nth t k).cells).2.2.1))) = prT t i k := rfl
 rw [e1] at h5
 have e2 : addZ false (i : Int) (addZ true (k : Int) (swN (!(stepZ (nth t i).cells (nth t k).cells).2.2.1) (if (stepZ (nth t i).cells (nth t k).cells).2.2.1 then y else x) (if (stepZ (nth t i).cells (nth t k).cells).2.2.1 then x else y))) = (castL (i :: x), castL (k :: y)) := by
  cases (stepZ (nth t i).cells (nth t k).cells).2.2.1 <;> rfl
 rw [e2] at h5
 exact h5
end Go.Ab
namespace Go.Ab
open Go.Proofs
set_option maxRecDepth 100000
theorem castL_inj : ∀ {a b : List Nat}, castL a = castL b → a = b
 | [], [], _ => rfl
 | [], _ :: _, h => by simp [castL] at h
 | _ :: _, [], h => by simp [castL] at h
 | x :: a, y :: b, h => by
  simp only [castL, List.map_cons, List.cons.injEq] at h
  rw [castL_inj (a := a) (b := b) h.2, show x = y by omega]
theorem tw_pos {t : List Sgn} (ht : sTab t) : ∀ k, k < t.length → 1 ≤ (nth t k).cells.length := fun k hk => (ht.2 k hk).1
theorem twice_least {t : List Sgn} (ht : sTab t) : ∀ (p q : List Nat), (∀ j ∈ p, j < t.length) → (∀ j ∈ q, j < t.length) → befZ (castL p) (castL q) = true → cellsZ t p = cellsZ t q → ((cellsZ t p).length : Int) < neverZ →
  (allSt t (costZ t) t.length).1 ≤ (cellsZ t p).length ∧ ((allSt t (costZ t) t.length).1 = (cellsZ t p).length → leZ ((allSt t (costZ t) t.length).2.1, (allSt t (costZ t) t.length).2.2) (castL p, castL q)) := by
 intro p
 induction p with
 | nil =>
  intro q hp hq hb he hl
  cases q with
  | nil => rw [befZ_irr] at hb; cases hb
  | cons k q =>
   have := cells_ne (tw_pos ht) hq (by rw [← he]; rfl)
   cases this
 | cons i p ih =>
  intro q hp hq hb he hl
  cases q with
  | nil =>
   have := cells_ne (tw_pos ht) hp (by rw [he]; rfl)
   cases this
  | cons k q =>
   have hi := hp i List.mem_cons_self
   have hk := hq k List.mem_cons_self
   have hp' : ∀ j ∈ p, j < t.length := fun j hj => hp j (List.mem_cons_of_mem _ hj)
   have hq' : ∀ j ∈ q, j < t.length := fun j hj => hq j (List.mem_cons_of_mem _ hj)
   have hb2 : befZ ((i : Int) :: castL p) ((k : Int) :: castL q) = true := hb
   rw [befZ] at hb2
   by_cases e : i = k
   ·subst e
    rw [if_pos rfl] at hb2
    have he2 := he
    rw [cellsZ_cons, cellsZ_cons] at he2
    have he3 := List.append_cancel_left he2
    have hlen : (cellsZ t (i :: p)).length = (nth t i).cells.length + (cellsZ t p).length := by rw [cellsZ_cons, List.length_append]
    have h1 := tw_pos ht i hi
    obtain ⟨g1, _⟩ := ih q hp' hq' hb2 he3 (by omega)
    exact ⟨by omega, fun h => by omega⟩
   ·rw [if_neg (by omega), decide_eq_true_eq] at hb2
    obtain ⟨g1, g2, g3⟩ := prT_least (tw_pos ht) hi hk hp' hq' he hl
    rcases (allSt_I t).mn i k ⟨by omega, hk⟩ g1 with h | ⟨h1, h2⟩
    ·exact ⟨by omega, fun h3 => by omega⟩
    ·exact ⟨by omega, fun h3 => leZ_trans h2 (g3 (by omega))⟩
theorem twice_found {t : List Sgn} (ht : sTab t) (h : (allSt t (costZ t) t.length).1 < neverZ) : ∃ a b : List Nat, (allSt t (costZ t) t.length).2 = (castL a, castL b) ∧ (∀ j ∈ a, j < t.length) ∧ (∀ j ∈ b, j < t.length) ∧ befZ (castL a) (castL b) = true ∧
  cellsZ t a = cellsZ t b ∧ ((cellsZ t a).length : Int) = (allSt t (costZ t) t.length).1 ∧ ∃ i k, i < t.length ∧ k < t.length ∧ okT t i k ∧ (allSt t (costZ t) t.length).1 = nnT t i k := by
 rcases (allSt_I t).st with h1 | ⟨i, k, ⟨h1, h2⟩, h3, h4⟩
 ·rw [h1] at h; exact absurd h (by decide)
 ·obtain ⟨x, y, g1, g2, g3, g4, g5⟩ := prT_pair (tw_pos ht) (by omega) h2 h3
  rw [h4]
  refine ⟨i :: x, k :: y, by rw [g1], g2, g3, ?_, g4, g5, i, k, by omega, h2, h3, rfl⟩
  show befZ ((i : Int) :: castL x) ((k : Int) :: castL y) = true
  rw [befZ, if_neg (by omega)]
  exact decide_eq_true (by omega)
theorem twice_none {t : List Sgn} (h : ¬ (allSt t (costZ t) t.length).1 < neverZ) : (allSt t (costZ t) t.length).2 = ([], []) := by
 rcases (allSt_I t).st with h1 | ⟨i, k, _, h3, h4⟩
 ·rw [h1]
 ·rw [h4] at h; exact absurd h3.2 h
theorem filter_lt {α : Type} {P Q : α → Bool} : ∀ {l : List α} {w : α}, (∀ x, P x = true → Q x = true) → w ∈ l → Q w = true → P w = false → (l.filter P).length < (l.filter Q).length
 | [], w, _, h, _, _ => by cases h
 | x :: l, w, h, hw, hq, hp => by
  have hle : ∀ l : List α, (l.filter P).length ≤ (l.filter Q).length := fun l => by
   induction l with
   | nil => simp
   | cons y l ih =>
    rw [List.filter_cons, List.filter_cons]
    cases hy : P y with
    | true => rw [if_pos rfl, if_pos (h y hy)]; simp only [List.length_cons]; omega
    | false =>
     rw [if_neg (by simp)]
     split
     ·simp only [List.length_cons]; omega
     ·exact ih
  rw [List.filter_cons, List.filter_cons]
  rcases List.mem_cons.1 hw with rfl | hw
  ·rw [if_neg (by simp [hp]), if_pos hq]
   have := hle l
   simp only [List.length_cons]; omega
  ·have ih := filter_lt (P := P) (Q := Q) h hw hq hp
   cases hy : P x with
   | true => rw [if_pos rfl, if_pos (h x hy)]; simp only [List.length_cons]; omega
   | false =>
    rw [if_neg (by simp)]
    split
    ·simp only [List.length_cons]; omega
    ·exact ih
def keysL (t : List Sgn) : List (List Int) := (List.range t.length).flatMap fun k => (List.range 3).map fun a => (nth t k).cells.drop (a + 1)
theorem keysL_len (t : List Sgn) : (keysL t).length = 3 * t.length := by
 unfold keysL
 have : ∀ n, ((List.range n).flatMap fun k => (List.range 3).map fun a => (nth t k).cells.drop (a + 1)).length = 3 * n := fun n => by
  induction n with
  | zero => rfl
  | succ n ih =>
   rw [show List.range (n + 1) = List.range n ++ [n] from List.range_succ, List.flatMap_append, List.length_append, ih]
   simp; omega
 exact this _
theorem keysL_mem {t : List Sgn} (ht : sTab t) {w : List Int} (h : KeyZ t w) (hw : w ≠ []) : w ∈ keysL t := by
 rcases h with h | ⟨k, a, hk, ha, hl, rfl⟩
 ·exact absurd h hw
 ·unfold keysL
  rw [List.mem_flatMap]
  refine ⟨k, List.mem_range.2 hk, List.mem_map.2 ⟨a - 1, List.mem_range.2 ?_, ?_⟩⟩
  ·have := (ht.2 k hk).2.1; omega
  ·rw [show a - 1 + 1 = a by omega]
theorem way_ex {t : List Sgn} {w : List Int} (hw : w ≠ []) (hc : costZ t w < neverZ) : ∃ k, k < t.length ∧ onWay t (costZ t) w k = true := by
 rcases (costZ_is t w).2.1 with h | h
 ·omega
 ·generalize hcw : costZ t w = cw at h
  cases h with
  | nil => exact absurd rfl hw
  | @step _ k m _ hk ho hm =>
   refine ⟨k, hk, ?_⟩
   have h1 := costZ_step hk hw ho
   have h2 := (costZ_is t (stepZ w (nth t k).cells).1).2.2 m hm
   unfold onWay
   rw [ho, Bool.true_and]
   exact decide_eq_true (by omega)
theorem step_le3 {t : List Sgn} (ht : sTab t) {w : List Int} (hw : w ≠ []) {k : Nat} (hk : k < t.length) : (stepZ w (nth t k).cells).2.1 ≤ 3 := by
 have h1 := (ht.2 k hk).2.1
 have h2 : 1 ≤ w.length := by
  cases w with
  | nil => exact absurd rfl hw
  | cons x l => simp
 unfold stepZ
 split
 ·simp
 ·split
  ·simp only; omega
  ·simp
noncomputable def rankZ (t : List Sgn) (w : List Int) : Nat := ((keysL t).filter fun v => decide (phiZ (costZ t) v ≤ phiZ (costZ t) w)).length
theorem rank_step {t : List Sgn} (ht : sTab t) {w : List Int} (hw : KeyZ t w) (hne : w ≠ []) {k : Nat} (hk : k < t.length) (ho : onWay t (costZ t) w k = true) : rankZ t (stepZ w (nth t k).cells).1 < rankZ t w := by
 have h := phi_step (c := costZ t) hne (costZ_nn t _).1 (ht.2 k hk).1 ho
 exact filter_lt (fun x hx => by
  rw [decide_eq_true_eq] at hx ⊢; omega) (keysL_mem ht hw hne) (by simp) (by simp; omega)
theorem cost_bound {t : List Sgn} (ht : sTab t) : ∀ (n : Nat) (w : List Int), KeyZ t w → costZ t w < neverZ → phiZ (costZ t) w ≤ n → costZ t w ≤ 3 * rankZ t w
 | n, w, hw, hc, hn => by
  by_cases hne : w = []
  ·subst hne; rw [costZ_nil]; omega
  ·obtain ⟨k, hk, ho⟩ := way_ex hne hc
   have h1 := rank_step ht hw hne hk ho
   have h2 := phi_step (c := costZ t) hne (costZ_nn t _).1 (ht.2 k hk).1 ho
   have h3 := step_le3 ht hne hk
   have h4 := stepZ_nn w (nth t k).cells
   obtain ⟨o1, o2⟩ := onWay_of ho
   cases n with
   | zero => omega
   | succ n =>
    have h5 := cost_bound ht n _ (hw.step ht hne hk o1) (by omega) (by omega)
    omega
theorem rank_le (t : List Sgn) (w : List Int) : rankZ t w ≤ 3 * t.length := by
 unfold rankZ
 rw [← keysL_len t]
 exact List.length_filter_le _ _
theorem nnT_bound {t : List Sgn} (ht : sTab t) {i k : Nat} (hi : i < t.length) (hk : k < t.length) (h : okT t i k) : nnT t i k ≤ 600 := by
 obtain ⟨_, h2⟩ := h
 have h3 := stepZ_nn (nth t i).cells (nth t k).cells
 have hne : (nth t i).cells ≠ [] := fun e => by have := tw_pos ht i hi; rw [e] at this; simp at this
 have h4 := step_le3 ht hne hk
 have h5 := (ht.2 i hi).2.1
 have h6 := ht.1
 unfold nnT at h2 ⊢
 have h7 := cost_bound ht _ _ (KeyZ.pair ht hi hk) (by omega) (Nat.le_refl _)
 have h8 := rank_le t (stepZ (nth t i).cells (nth t k).cells).1
 omega
theorem cells_dots {t : List Sgn} (ht : sTab t) : ∀ l : List Nat, (∀ k ∈ l, k < t.length) → dotsL (cellsZ t l) = true
 | [], _ => rfl
 | k :: l, h => by
  have h1 := (ht.2 k (h k List.mem_cons_self)).2.2
  have h2 := cells_dots ht l (fun x hx => h x (List.mem_cons_of_mem _ hx))
  unfold dotsL at *
  rw [cellsZ_cons, List.all_append, h1, h2]; rfl
theorem cnt_at {t : List Sgn} (ht : sTab t) (s : List Int) : Cnt (nth (manyL t s) 0) (Fac t s) := by
 have := many_fac (t := t) (s := s) (fun j hj => tw_pos ht j hj) s.length 0 (Nat.zero_le _) (by omega)
 rwa [List.drop_zero] at this
theorem read_back {t : List Sgn} (hc : checkZ t = 0) (hn : ¬ (allSt t (costZ t) t.length).1 < neverZ) {l : List Nat} (hl : ∀ k ∈ l, k < t.length) (h4 : (cellsZ t l).length ≤ 4096) (h5 : (textZ t l).length ≤ 4096) : decodeZ t (cellsZ t l) = (textZ t l, true, 0) := by
 have ht := sTab_of hc
 have hcnt := cnt_at ht (cellsZ t l)
 have hf : Fac t (cellsZ t l) l := ⟨hl, rfl⟩
 have h1 : nth (manyL t (cellsZ t l)) 0 = 1 := by
  rcases hcnt with ⟨_, k⟩ | ⟨e, _⟩ | ⟨_, a, b, hab, ha, hb⟩
  ·exact absurd hf (k l)
  ·exact e
  ·exfalso
   have hne : castL a ≠ castL b := fun e => hab (castL_inj e)
   rcases befZ_tri hne with h | h
   ·have := (twice_least ht a b ha.1 hb.1 h (ha.2.trans hb.2.symm) (by rw [ha.2]; unfold neverZ; omega)).1
    rw [ha.2] at this; unfold neverZ at hn; omega
   ·have := (twice_least ht b a hb.1 ha.1 h (hb.2.trans ha.2.symm) (by rw [hb.2]; unfold neverZ; omega)).1
    rw [hb.2] at this; unfold neverZ at hn; omega
 have hp : pathD t (cellsZ t l) (cellsZ t l).length 0 = l := by
  have h2 := read_all (t := t) (s := cellsZ t l) (fun j hj => tw_pos ht j hj) (cellsZ t l).length 0 (by omega) (Nat.zero_le _) h1
  rw [List.drop_zero] at h2
  rcases hcnt with ⟨e, _⟩ | ⟨_, u, hu, huu⟩ | ⟨e, _⟩
  ·omega
  ·rw [huu _ h2, huu _ hf]
  ·omega
 unfold decodeZ
 rw [if_neg (by simp [hc]), if_neg (by omega), if_neg (by rw [cells_dots ht l hl]; simp), if_neg (by simp [h1]), hp, if_neg (by omega)]
theorem read_twice {t : List Sgn} (hc : checkZ t = 0) {a b : List Nat} (ha : ∀ k ∈ a, k < t.length) (hb : ∀ k ∈ b, k < t.length) (hne : a ≠ b) (he : cellsZ t a = cellsZ t b) (h4 : (cellsZ t a).length ≤ 4096) : decodeZ t (cellsZ t a) = ([], false, 0) := by
 have ht := sTab_of hc
 have fa : Fac t (cellsZ t a) a := ⟨ha, rfl⟩
 have fb : Fac t (cellsZ t a) b := ⟨hb, he.symm⟩
 have h1 : ¬ nth (manyL t (cellsZ t a)) 0 = 1 := fun e => by
  rcases cnt_at ht (cellsZ t a) with ⟨e2, _⟩ | ⟨_, u, hu, huu⟩ | ⟨e2, _⟩
  ·omega
  ·exact hne ((huu a fa).trans (huu b fb).symm)
  ·omega
 unfold decodeZ
 rw [if_neg (by simp [hc]), if_neg (by omega), if_neg (by rw [cells_dots ht a ha]; simp), if_pos h1]
end Go.Ab
namespace Go.Ab
open Go.Proofs
set_option maxRecDepth 100000
def restK (x : List Int) (n : Nat) : List (List Int) := (List.range n).map fun a => x.drop (a + 1)
theorem restK_succ (x : List Int) (n : Nat) : restK x (n + 1) = restK x n ++ [x.drop (n + 1)] := by simp [restK, List.range_succ]
theorem restK_len (x : List Int) (n : Nat) : (restK x n).length = n := by simp [restK]
def restsN (t : List Sgn) : Nat → List (List Int)
 | 0 => []
 | k + 1 => restsN t k ++ restK (nth t k).cells ((nth t k).cells.length - 1)
def restsZ (t : List Sgn) : List (List Int) := restsN t t.length
theorem mem_restsN {t : List Sgn} {w : List Int} : ∀ {n : Nat}, w ∈ restsN t n ↔ ∃ k a, k < n ∧ 1 ≤ a ∧ a < (nth t k).cells.length ∧ w = (nth t k).cells.drop a
 | 0 => by simp [restsN]
 | n + 1 => by
  rw [restsN, List.mem_append, mem_restsN]
  constructor
  ·rintro (⟨k, a, h1, h2⟩ | h)
   ·exact ⟨k, a, by omega, h2⟩
   ·unfold restK at h
    obtain ⟨a, ha, rfl⟩ := List.mem_map.1 h
    have := List.mem_range.1 ha
    exact ⟨n, a + 1, by omega, by omega, by omega, rfl⟩
  ·rintro ⟨k, a, h1, h2, h3, h4⟩
   by_cases e : k = n
   ·subst e
    refine .inr (List.mem_map.2 ⟨a - 1, List.mem_range.2 (by omega), ?_⟩)
    rw [h4, show a - 1 + 1 = a by omega]
   ·exact .inl ⟨k, a, by omega, h2, h3, h4⟩
theorem mem_rests {t : List Sgn} {w : List Int} (hw : w ≠ []) : w ∈ restsZ t ↔ KeyZ t w := by
 unfold restsZ KeyZ
 rw [mem_restsN]
 constructor
 ·exact fun h => .inr h
 ·rintro (h | h)
  ·exact absurd h hw
  ·exact h
theorem rests_ne {t : List Sgn} {w : List Int} (h : w ∈ restsZ t) : w ≠ [] := by
 obtain ⟨k, a, _, _, h3, rfl⟩ := mem_restsN.1 h
 intro e
 have := congrArg List.length e
 rw [List.length_drop] at this
 simp only [List.length_nil] at this
 omega
theorem restsN_len {t : List Sgn} (ht : sTab t) : ∀ n, n ≤ t.length → (restsN t n).length ≤ 3 * n
 | 0, _ => by simp [restsN]
 | n + 1, h => by
  have := restsN_len ht n (by omega)
  have := (ht.2 n (by omega)).2.1
  rw [restsN, List.length_append, restK_len]
  omega
theorem rests_len {t : List Sgn} (ht : sTab t) : (restsZ t).length ≤ 192 := by
 have := restsN_len ht t.length (Nat.le_refl _)
 have := ht.1
 unfold restsZ; omega
def lookL : List (List Int) → (Nat → Int) → List Int → Int
 | [], _, _ => neverZ
 | x :: l, f, w => if x = w then f 0 else lookL l (fun i => f (i + 1)) w
def costL (l : List (List Int)) (f : Nat → Int) (w : List Int) : Int := if w = [] then 0 else lookL l f w
theorem look_at : ∀ {l : List (List Int)} {f : Nat → Int} {w : List Int} {i : Nat}, i < l.length → nth l i = w → (∀ j, j < i → nth l j ≠ w) → lookL l f w = f i
 | x :: l, f, w, 0, _, h, _ => by rw [nth_zero] at h; rw [lookL, if_pos h]
 | x :: l, f, w, i + 1, h1, h, h2 => by
  rw [nth_succ] at h
  have h3 : x ≠ w := h2 0 (by omega)
  rw [lookL, if_neg h3, look_at (f := fun i => f (i + 1)) (by simpa using h1) h fun j hj => by
   have := h2 (j + 1) (by omega)
   rwa [nth_succ] at this]
theorem look_no : ∀ {l : List (List Int)} {f : Nat → Int} {w : List Int}, (∀ j, j < l.length → nth l j ≠ w) → lookL l f w = neverZ
 | [], _, _, _ => rfl
 | x :: l, f, w, h => by
  have h3 : x ≠ w := h 0 (by simp)
  rw [lookL, if_neg h3]
  refine look_no fun j hj => ?_
  have := h (j + 1) (by simpa using hj)
  rwa [nth_succ] at this
theorem look_ex : ∀ (l : List (List Int)) (f : Nat → Int) (w : List Int), (∃ i, i < l.length ∧ nth l i = w ∧ lookL l f w = f i) ∨ (w ∉ l ∧ lookL l f w = neverZ)
 | [], _, _ => .inr ⟨by simp, rfl⟩
 | x :: l, f, w => by
  by_cases h : x = w
  ·exact .inl ⟨0, by simp, h, by rw [lookL, if_pos h]⟩
  ·rcases look_ex l (fun i => f (i + 1)) w with ⟨i, h1, h2, h3⟩ | ⟨h1, h2⟩
   ·exact .inl ⟨i + 1, by simpa using h1, by rw [nth_succ]; exact h2, by rw [lookL, if_neg h, h3]⟩
   ·refine .inr ⟨?_, by rw [lookL, if_neg h, h2]⟩
    rw [List.mem_cons, not_or]
    exact ⟨fun e => h e.symm, h1⟩
noncomputable def rankC (t : List Sgn) (w : List Int) : Nat := ((restsZ t).filter fun v => decide (phiZ (costZ t) v < phiZ (costZ t) w)).length
theorem rankC_lt {t : List Sgn} {w : List Int} (h : w ∈ restsZ t) : rankC t w < (restsZ t).length := by
 have := filter_lt (P := fun v => decide (phiZ (costZ t) v < phiZ (costZ t) w)) (Q := fun _ => true) (l := restsZ t) (w := w) (fun _ _ => rfl) h rfl (by simp)
 have h2 : (restsZ t).filter (fun _ => true) = restsZ t := List.filter_eq_self.2 fun _ _ => rfl
 rw [h2] at this
 exact this
theorem rankC_step {t : List Sgn} (ht : sTab t) {w : List Int} (hne : w ≠ []) {k : Nat} (hk : k < t.length) (ho : onWay t (costZ t) w k = true) (hm : (stepZ w (nth t k).cells).1 ∈ restsZ t) : rankC t (stepZ w (nth t k).cells).1 < rankC t w := by
 have h := phi_step (c := costZ t) hne (costZ_nn t _).1 (ht.2 k hk).1 ho
 exact filter_lt (fun x hx => by
  rw [decide_eq_true_eq] at hx ⊢; omega) hm (by simp; omega) (by simp)
def CosI (t : List Sgn) (f : Nat → Int) : Prop := ∀ j, j < (restsZ t).length → costZ t (nth (restsZ t) j) ≤ f j ∧ f j ≤ neverZ
def CosG (t : List Sgn) (r i : Nat) (f : Nat → Int) : Prop := CosI t f ∧ ∀ j, j < (restsZ t).length → (rankC t (nth (restsZ t) j) < r ∨ (j < i ∧ rankC t (nth (restsZ t) j) ≤ r)) → f j = costZ t (nth (restsZ t) j)
def CosH (t : List Sgn) (r i k : Nat) (f : Nat → Int) : Prop := CosG t r i f ∧ ∀ k', k' < k → k' < t.length → onWay t (costZ t) (nth (restsZ t) i) k' = true → rankC t (nth (restsZ t) i) ≤ r → f i = costZ t (nth (restsZ t) i)
theorem CosG.start (t : List Sgn) : CosG t 0 0 fun _ => neverZ := ⟨fun j hj => ⟨(costZ_nn t _).2, Int.le_refl _⟩, fun j hj h => by omega⟩
theorem CosG.low {t : List Sgn} {f : Nat → Int} (h : CosI t f) (w : List Int) : costZ t w ≤ costL (restsZ t) f w ∧ costL (restsZ t) f w ≤ neverZ := by
 unfold costL
 split
 ·rename_i e; rw [e, costZ_nil]; exact ⟨by omega, by decide⟩
 ·rcases look_ex (restsZ t) f w with ⟨i, h1, h2, h3⟩ | ⟨h1, h2⟩
  ·rw [h3, ← h2]; exact h i h1
  ·rw [h2]; exact ⟨(costZ_nn t w).2, Int.le_refl _⟩
theorem CosG.get {t : List Sgn} {f : Nat → Int} {r i : Nat} (h : CosG t r i f) {w : List Int} (hw : w = [] ∨ (w ∈ restsZ t ∧ rankC t w < r)) : costL (restsZ t) f w = costZ t w := by
 unfold costL
 rcases hw with hw | ⟨h1, h2⟩
 ·rw [if_pos hw, hw, costZ_nil]
 ·rw [if_neg (rests_ne h1)]
  rcases look_ex (restsZ t) f w with ⟨i, g1, g2, g3⟩ | ⟨g1, g2⟩
  ·rw [g3, h.2 i g1 (.inl (by rw [g2]; exact h2)), g2]
  ·exact absurd h1 g1
theorem CosH.skip {t : List Sgn} {r i k : Nat} {f : Nat → Int} (h : CosH t r i k f) (ho : (stepZ (nth (restsZ t) i) (nth t k).cells).2.2.2 = false) : CosH t r i (k + 1) f := by
 refine ⟨h.1, fun k' h1 h2 h3 h4 => ?_⟩
 by_cases e : k' = k
 ·subst e
  have := (onWay_of h3).1
  rw [ho] at this; cases this
 ·exact h.2 k' (by omega) h2 h3 h4
theorem CosH.next {t : List Sgn} (ht : sTab t) {r i k : Nat} {f : Nat → Int} (h : CosH t r i k f) (hi : i < (restsZ t).length) (hk : k < t.length) (ho : (stepZ (nth (restsZ t) i) (nth t k).cells).2.2.2 = true) :
  CosH t r i (k + 1) (updI f i (min (f i) ((stepZ (nth (restsZ t) i) (nth t k).cells).2.1 + costL (restsZ t) f (stepZ (nth (restsZ t) i) (nth t k).cells).1))) := by
 obtain ⟨⟨h1, h2⟩, h3⟩ := h
 have hmem := nth_mem hi
 have hne := rests_ne hmem
 have hkey := (mem_rests hne).1 hmem
 have hst := costZ_step hk hne ho
 obtain ⟨l1, l2⟩ := CosG.low h1 (stepZ (nth (restsZ t) i) (nth t k).cells).1
 obtain ⟨i1, i2⟩ := h1 i hi
 have hlo : costZ t (nth (restsZ t) i) ≤ min (f i) ((stepZ (nth (restsZ t) i) (nth t k).cells).2.1 + costL (restsZ t) f (stepZ (nth (restsZ t) i) (nth t k).cells).1) := by
  rw [Int.min_def]; split <;> omega
 have hle : min (f i) ((stepZ (nth (restsZ t) i) (nth t k).cells).2.1 + costL (restsZ t) f (stepZ (nth (restsZ t) i) (nth t k).cells).1) ≤ f i := by
  rw [Int.min_def]; split <;> omega
 have hfin : f i = costZ t (nth (restsZ t) i) → min (f i) ((stepZ (nth (restsZ t) i) (nth t k).cells).2.1 + costL (restsZ t) f (stepZ (nth (restsZ t) i) (nth t k).cells).1) = costZ t (nth (restsZ t) i) := fun e => by omega
 have hI : CosI t (updI f i (min (f i) ((stepZ (nth (restsZ t) i) (nth t k).cells).2.1 + costL (restsZ t) f (stepZ (nth (restsZ t) i) (nth t k).cells).1))) := fun j hj => by
  unfold updI
  split
  ·rename_i e; subst e; exact ⟨hlo, by omega⟩
  ·exact h1 j hj
 refine ⟨⟨hI, fun j hj hr => ?_⟩, fun k' g1 g2 g3 g4 => ?_⟩
 ·unfold updI
  split
  ·rename_i e; subst e; exact hfin (h2 j hj hr)
  ·exact h2 j hj hr
 ·rw [updI_same]
  by_cases e : k' = k
  ·subst e
   have hg : costL (restsZ t) f (stepZ (nth (restsZ t) i) (nth t k').cells).1 = costZ t (stepZ (nth (restsZ t) i) (nth t k').cells).1 := by
    refine CosG.get (i := i) ⟨h1, h2⟩ ?_
    by_cases hn : (stepZ (nth (restsZ t) i) (nth t k').cells).1 = []
    ·exact .inl hn
    ·have hm := (mem_rests hn).2 (hkey.step ht hne hk ho)
     have := rankC_step ht hne hk g3 hm
     exact .inr ⟨hm, by omega⟩
   have := (onWay_of g3).2
   rw [hg] at hlo ⊢
   rw [Int.min_def] at hlo ⊢
   split at hlo <;> split <;> omega
  ·exact hfin (h3 k' (by omega) g2 g3 g4)
theorem CosH.row {t : List Sgn} {r i : Nat} {f : Nat → Int} (h : CosH t r i t.length f) : CosG t r (i + 1) f := by
 refine ⟨h.1.1, fun j hj hr => ?_⟩
 by_cases e : j = i ∧ rankC t (nth (restsZ t) j) ≤ r
 ·obtain ⟨rfl, hr2⟩ := e
  have hmem := nth_mem hj
  have hne := rests_ne hmem
  by_cases hc : costZ t (nth (restsZ t) j) < neverZ
  ·obtain ⟨k, hk, ho⟩ := way_ex hne hc
   exact h.2 k hk hk ho hr2
  ·obtain ⟨i1, i2⟩ := h.1.1 j hj
   have := (costZ_nn t (nth (restsZ t) j)).2
   omega
 ·exact h.1.2 j hj (by omega)
theorem CosG.row {t : List Sgn} {r i : Nat} {f : Nat → Int} (h : CosG t r i f) : CosH t r i 0 f := ⟨h, fun k' h1 => by omega⟩
theorem CosG.round {t : List Sgn} {r : Nat} {f : Nat → Int} (h : CosG t r (restsZ t).length f) : CosG t (r + 1) 0 f := ⟨h.1, fun j hj hr => h.2 j hj (by omega)⟩
theorem CosG.all {t : List Sgn} {r i : Nat} {f : Nat → Int} (h : CosG t r i f) (hr : (restsZ t).length ≤ r) : ∀ j, j < (restsZ t).length → f j = costZ t (nth (restsZ t) j) := fun j hj => by
 have := rankC_lt (nth_mem hj)
 exact h.2 j hj (.inl (by omega))
theorem costL_Z {t : List Sgn} {f : Nat → Int} (h : ∀ j, j < (restsZ t).length → f j = costZ t (nth (restsZ t) j)) {w : List Int} (hw : KeyZ t w) : costL (restsZ t) f w = costZ t w := by
 unfold costL
 split
 ·rename_i e; rw [e, costZ_nil]
 ·rename_i e
  have hm := (mem_rests e).2 hw
  rcases look_ex (restsZ t) f w with ⟨i, g1, g2, g3⟩ | ⟨g1, g2⟩
  ·rw [g3, h i g1, g2]
  ·exact absurd hm g1
end Go.Ab
namespace Go.Ab
open Go.Proofs
set_option maxRecDepth 100000
set_option maxHeartbeats 4000000
theorem C51 (w x : List Int) (hs : w.length < 1099511627776 ∧ x.length < 1099511627776) : Kc cfg 51 [R fl0 eI w, R fl0 eI x] (.ret (.tuple [R fl0 eI (stepZ w x).1, .int .i64 (stepZ w x).2.1, .bool (stepZ w x).2.2.1, .bool (stepZ w x).2.2.2])) := by
 obtain ⟨h1, h2⟩ := hs
 cases ha : preI x w with
 | true =>
  have hE : stepZ w x = (w.drop x.length, 0, false, true) := by unfold stepZ; rw [if_pos ha]
  have hl := (of_decide_eq_true ha : x <+: w).length_le
  rw [hE]
  refine outS_of_wp cfg (fn := Tryd.f51) Tryd.func51 rfl (by simp [Tryd.f51]) ?_
  simp (disch := first | assumption | omega | (simp; done) | (simp; omega)) [-getElem?_pos, gZ, gS, Tryd.f51, ha]
  repeat' (first | ((first | refine wpc_split _ ?_ ?_ | refine ww_split _ ?_ ?_) <;> intro hc <;> try simp at hc) | (refine wp_drawF (by kernel_rfl) ?_) | refine wk_yldW _ ?_ | refine layOwe _ (by kernel_rfl) ?_ | refine owe ?_ (fun ho => ?_) | (simp (disch := first | assumption | omega | (simp; done) | (simp; omega)) [ha, hl, -getElem?_pos, gZ, gS]))
  all_goals try (exfalso; omega)
 | false =>
  cases hb : preI w x with
  | true =>
   have hE : stepZ w x = (x.drop w.length, (x.length : Int) - w.length, true, true) := by unfold stepZ; rw [if_neg (by simp [ha]), if_pos hb]
   have hl := (of_decide_eq_true hb : w <+: x).length_le
   rw [hE]
   refine outS_of_wp cfg (fn := Tryd.f51) Tryd.func51 rfl (by simp [Tryd.f51]) ?_
   simp (disch := first | assumption | omega | (simp; done) | (simp; omega)) [-getElem?_pos, gZ, gS, Tryd.f51, ha, hb]
   repeat' (first | ((first | refine wpc_split _ ?_ ?_ | refine ww_split _ ?_ ?_) <;> intro hc <;> try simp at hc) | (refine wp_drawF (by kernel_rfl) ?_) | refine wk_yldW _ ?_ | refine layOwe _ (by kernel_rfl) ?_ | refine owe ?_ (fun ho => ?_) | (simp (disch := first | assumption | omega | (simp; done) | (simp; omega)) [ha, hb, hl, -getElem?_pos, gZ, gS]))
   all_goals try (exfalso; omega)
  | false =>
   have hE : stepZ w x = ([], 0, false, false) := by unfold stepZ; rw [if_neg (by simp [ha]), if_neg (by simp [hb])]
   rw [hE]
   refine outS_of_wp cfg (fn := Tryd.f51) Tryd.func51 rfl (by simp [Tryd.f51]) ?_
   simp (disch := first | assumption | omega | (simp; done) | (simp; omega)) [-getElem?_pos, gZ, gS, Tryd.f51, ha, hb]
   repeat' (first | ((first | refine wpc_split _ ?_ ?_ | refine ww_split _ ?_ ?_) <;> intro hc <;> try simp at hc) | (refine wp_drawF (by kernel_rfl) ?_) | refine wk_yldW _ ?_ | refine layOwe _ (by kernel_rfl) ?_ | refine owe ?_ (fun ho => ?_) | (simp (disch := first | assumption | omega | (simp; done) | (simp; omega)) [ha, hb, -getElem?_pos, gZ, gS]))
   all_goals try (exfalso; omega)
   all_goals rfl
@[simp] theorem S51 (w x : List Int) (hs : w.length < 1099511627776 ∧ x.length < 1099511627776) (q1 q2 : Fl) (hh : Heap) : Ci cfg (.func (.func 51) [] []) [R  q1 eI w, R  q2 eI x] hh = some (.ret (.tuple [R fl0 eI (stepZ w x).1, .int .i64 (stepZ w x).2.1, .bool (stepZ w x).2.2.1, .bool (stepZ w x).2.2.2]), hh) :=
 Ci_K cfg rfl rfl (by simp) (by simp) (C51 w x hs)
theorem C54 (a b c d : List Int) (hs : a.length < 1099511627776 ∧ b.length < 1099511627776) (hs2 : c.length < 1099511627776 ∧ d.length < 1099511627776) : Kc cfg 54 [R fl0 eI a, R fl0 eI b, R fl0 eI c, R fl0 eI d] (.ret (.bool (lessZ (a, b) (c, d)))) := by
 obtain ⟨h1, h2⟩ := hs
 obtain ⟨h3, h4⟩ := hs2
 have hE : lessZ (a, b) (c, d) = (befZ a c || (decide (a = c) && befZ b d)) := rfl
 rw [hE]
 cases ha : befZ a c with
 | true =>
  refine outS_of_wp cfg (fn := Tryd.f54) Tryd.func54 rfl (by simp [Tryd.f54]) ?_
  simp (disch := first | assumption | omega | (simp; done) | (simp; omega)) [-getElem?_pos, gZ, gS, Tryd.f54, ha]
  repeat' (first | ((first | refine wpc_split _ ?_ ?_ | refine ww_split _ ?_ ?_) <;> intro hc <;> try simp at hc) | (refine wp_drawF (by kernel_rfl) ?_) | refine wk_yldW _ ?_ | refine layOwe _ (by kernel_rfl) ?_ | refine owe ?_ (fun ho => ?_) | (simp (disch := first | assumption | omega | (simp; done) | (simp; omega)) [ha, -getElem?_pos, gZ, gS]))
  all_goals try (exfalso; omega)
 | false =>
  by_cases hb : a = c
  ·skip
   refine outS_of_wp cfg (fn := Tryd.f54) Tryd.func54 rfl (by simp [Tryd.f54]) ?_
   simp (disch := first | assumption | omega | (simp; done) | (simp; omega)) [-getElem?_pos, gZ, gS, Tryd.f54, ha, hb]
   repeat' (first | ((first | refine wpc_split _ ?_ ?_ | refine ww_split _ ?_ ?_) <;> intro hc <;> try simp at hc) | (refine wp_drawF (by kernel_rfl) ?_) | refine wk_yldW _ ?_ | refine layOwe _ (by kernel_rfl) ?_ | refine owe ?_ (fun ho => ?_) | (simp (disch := first | assumption | omega | (simp; done) | (simp; omega)) [ha, hb, -getElem?_pos, gZ, gS]))
   all_goals try (exfalso; omega)
   all_goals subst hb
   all_goals try (exfalso; rw [ha] at hc; cases hc; done)
   all_goals simp
  ·skip
   refine outS_of_wp cfg (fn := Tryd.f54) Tryd.func54 rfl (by simp [Tryd.f54]) ?_
   simp (disch := first | assumption | omega | (simp; done) | (simp; omega)) [-getElem?_pos, gZ, gS, Tryd.f54, ha, hb]
   repeat' (first | ((first | refine wpc_split _ ?_ ?_ | refine ww_split _ ?_ ?_) <;> intro hc <;> try simp at hc) | (refine wp_drawF (by kernel_rfl) ?_) | refine wk_yldW _ ?_ | refine layOwe _ (by kernel_rfl) ?_ | refine owe ?_ (fun ho => ?_) | (simp (disch := first | assumption | omega | (simp; done) | (simp; omega)) [ha, hb, -getElem?_pos, gZ, gS]))
   all_goals try (exfalso; omega)
   all_goals try simp [hb]
@[simp] theorem S54 (a b c d : List Int) (hs : a.length < 1099511627776 ∧ b.length < 1099511627776) (hs2 : c.length < 1099511627776 ∧ d.length < 1099511627776) (q1 q2 q3 q4 : Fl) (hh : Heap) : Ci cfg (.func (.func 54) [] []) [R  q1 eI a, R  q2 eI b, R  q3 eI c, R  q4 eI d] hh = some (.ret (.bool (lessZ (a, b) (c, d))), hh) :=
 Ci_K cfg rfl rfl (by simp) (by simp) (C54 a b c d hs hs2)
theorem C49 (t : List Sgn) (hs : smZs t) (hx : sTab t) : Kc cfg 49 [R fl0 eZ t] (.ret (R fl0 (eR eI) (restsZ t))) := by
 have hs1 := hs.1
 refine outS_of_wp cfg (fn := Tryd.f49) Tryd.func49 rfl (by simp [Tryd.f49]) ?_
 simp (disch := first | assumption | omega | (simp; done) | (simp; omega)) [-getElem?_pos, gZ, gS, Tryd.f49, ]
 repeat' (first | ((first | refine wpc_split _ ?_ ?_ | refine ww_split _ ?_ ?_) <;> intro hc <;> try simp at hc) | (refine wp_drawF (by kernel_rfl) ?_) | refine wk_yldW _ ?_ | refine layOwe _ (by kernel_rfl) ?_ | refine owe ?_ (fun ho => ?_) | (simp (disch := first | assumption | omega | (simp; done) | (simp; omega)) [-getElem?_pos, gZ, gS]))
 refine wp_loopE cfg rfl (fun f0 h0 m fr h => ∃ k : Nat, ∃ q : Fl, fr 0 = f0 0 ∧ fr 4 = .int .i64 k ∧ fr 3 = R q (eR eI) (restsN t k) ∧ (App h.ts 1 q) ∧ (k + m = t.length) ∧ ((restsN t k).length ≤ 3 * k)) (t.length) _ _ ⟨0, (false, true, none), rfl, by first | rfl | (simp; done) | (simp [R]; done) | simp [R], by simp [R, restsN], App.full _ _ _, by first | rfl | (simp; done) | omega, Nat.zero_le _⟩ ?_
 rintro Am Af Ah ⟨k, q, A0, A4, A3, ha, hm, hl⟩ Aih
 try simp at A0
 by_cases hk : k < t.length
 ·obtain ⟨x1, x2, x3⟩ := hx.2 k hk
  have hl2 := restsN_len hx (k + 1) (by omega)
  have hx1 := hx.1
  repeat' (first | ((first | refine wpc_split _ ?_ ?_ | refine ww_split _ ?_ ?_) <;> intro hc <;> try simp at hc) | (refine wp_drawF (by kernel_rfl) ?_) | refine wk_yldW _ ?_ | refine layOwe _ (by kernel_rfl) ?_ | refine owe ?_ (fun ho => ?_) | (simp (disch := first | assumption | omega | (simp; done) | (simp; omega)) [A0, A4, A3, hk, -getElem?_pos, gZ, gS]))
  all_goals try (exfalso; omega)
  refine wp_loopE cfg rfl (fun f0 h0 m fr h => ∃ i : Nat, ∃ p : Fl, fr 0 = f0 0 ∧ fr 4 = f0 4 ∧ fr 5 = .int .i64 (i + 1) ∧ fr 3 = R p (eR eI) (restsN t k ++ restK (nth t k).cells i) ∧ (App h.ts 1 p) ∧ (i + 1 + m = (nth t k).cells.length)) ((nth t k).cells.length - 1) _ _ ⟨0, q, rfl, rfl, by first | rfl | (simp; done) | (simp [R]; done) | simp [R], by simp [restK, A3], ha, by first | rfl | (simp; done) | omega⟩ ?_
  rintro Bm Bf Bh ⟨i, p, B0, B4, B5, B3, hb, hm2⟩ Bih
  try simp [A0, A4, A3] at B0 B4
  by_cases hi : i + 1 < (nth t k).cells.length
  ·have hst := restK_succ (nth t k).cells i
   have hrl := restK_len (nth t k).cells i
   have hlit : V.row false true [R (slf fl0 (i + 1) (nth t k).cells.length (nth t k).cells.length) eI (List.drop (i + 1) (nth t k).cells)] 1 none = R (false, true, none) (eR eI) [List.drop (i + 1) (nth t k).cells] := by
    have : slf fl0 (i + 1) (nth t k).cells.length (nth t k).cells.length = fl0 := by simp [slf]
    rw [this]; rfl
   repeat' (first | ((first | refine wpc_split _ ?_ ?_ | refine ww_split _ ?_ ?_) <;> intro hc <;> try simp at hc) | (refine wp_drawF (by kernel_rfl) ?_) | refine wk_yldW _ ?_ | refine layOwe _ (by kernel_rfl) ?_ | refine owe ?_ (fun ho => ?_) | (simp (disch := first | assumption | omega | (simp; done) | (simp; omega)) [B0, B4, B5, B3, A0, A4, A3, hk, hi, append_R1, hlit, hrl, -getElem?_pos, gZ, gS]))
   all_goals try (exfalso; omega)
   exact Bih (Bm - 1) _ _ (by omega) ⟨i + 1, _, by simp [B0, B4, B5, B3, A0, A4, A3, hst], by simp [B0, B4, B5, B3, A0, A4, A3, hst], by simp [B0, B4, B5, B3, A0, A4, A3, hst], by simp [B0, B4, B5, B3, A0, A4, A3, hst], App.new _ _ _, by omega⟩
  ·obtain rfl : i = (nth t k).cells.length - 1 := by omega
   have hst : restsN t (k + 1) = restsN t k ++ restK (nth t k).cells ((nth t k).cells.length - 1) := rfl
   repeat' (first | ((first | refine wpc_split _ ?_ ?_ | refine ww_split _ ?_ ?_) <;> intro hc <;> try simp at hc) | (refine wp_drawF (by kernel_rfl) ?_) | refine wk_yldW _ ?_ | refine layOwe _ (by kernel_rfl) ?_ | refine owe ?_ (fun ho => ?_) | (simp (disch := first | assumption | omega | (simp; done) | (simp; omega)) [B0, B4, B5, B3, A0, A4, A3, hk, -getElem?_pos, gZ, gS]))
   all_goals try (exfalso; omega)
   exact Aih (Am - 1) _ _ (by omega) ⟨k + 1, _, by simp [B0, B4, B5, B3, A0, A4, A3, hst], by simp [B0, B4, B5, B3, A0, A4, A3, hst], by simp [B0, B4, B5, B3, A0, A4, A3, hst], hb, by omega, hl2⟩
 ·obtain rfl : k = t.length := by omega
  repeat' (first | ((first | refine wpc_split _ ?_ ?_ | refine ww_split _ ?_ ?_) <;> intro hc <;> try simp at hc) | (refine wp_drawF (by kernel_rfl) ?_) | refine wk_yldW _ ?_ | refine layOwe _ (by kernel_rfl) ?_ | refine owe ?_ (fun ho => ?_) | (simp (disch := first | assumption | omega | (simp; done) | (simp; omega)) [A0, A4, A3, -getElem?_pos, gZ, gS]))
  all_goals try (exfalso; omega)
  all_goals rfl
@[simp] theorem S49 (t : List Sgn) (hs : smZs t) (hx : sTab t) (q1 : Fl) (hh : Heap) : Ci cfg (.func (.func 49) [] []) [R  q1 eZ t] hh = some (.ret (R fl0 (eR eI) (restsZ t)), hh) :=
 Ci_K cfg rfl rfl (by simp) (by simp) (C49 t hs hx)
end Go.Ab
namespace Go.Ab
open Go.Proofs
set_option maxRecDepth 100000
set_option maxHeartbeats 4000000
theorem costR {l : List (List Int)} {w : List Int} {c : List Int} {q1 q2 q3 : Fl} {h : Heap} (hcl : c.length = l.length) (hl : l.length < 1099511627776) (hw : w.length < 1099511627776) (hx : ∀ x ∈ l, x.length < 1099511627776) :
  Ci cfg (.func (.func 52) [] []) [R q1 (eR eI) l, R q2 eI c, R q3 eI w] h = some (.ret (.int .i64 (costL l (nth c) w)), h) := by
 refine Ci_fun_wp (c := cfg) (fn := Tryd.f52) rfl Tryd.func52 rfl (by simp [Tryd.f52]) ?_
 simp (disch := first | assumption | omega | (simp; done) | (simp; omega)) [-getElem?_pos, gZ, gS, Tryd.f52]
 by_cases hw0 : w = []
 ·have hE : costL l (nth c) w = 0 := by unfold costL; rw [if_pos hw0]
  rw [hE]
  subst hw0
  repeat' (first | ((first | refine wpc_split _ ?_ ?_ | refine ww_split _ ?_ ?_) <;> intro hc <;> try simp at hc) | (refine wp_drawF (by kernel_rfl) ?_) | refine wk_yldW _ ?_ | refine layOwe _ (by kernel_rfl) ?_ | refine owe ?_ (fun ho => ?_) | (simp (disch := first | assumption | omega | (simp; done) | (simp; omega)) [-getElem?_pos, gZ, gS]))
 ·have hE : costL l (nth c) w = lookL l (nth c) w := by unfold costL; rw [if_neg hw0]
  rw [hE]
  repeat' (first | ((first | refine wpc_split _ ?_ ?_ | refine ww_split _ ?_ ?_) <;> intro hc <;> try simp at hc) | (refine wp_drawF (by kernel_rfl) ?_) | refine wk_yldW _ ?_ | refine layOwe _ (by kernel_rfl) ?_ | refine owe ?_ (fun ho => ?_) | (simp (disch := first | assumption | omega | (simp; done) | (simp; omega)) [hw0, -getElem?_pos, gZ, gS]))
  ·exact absurd hc hw0
  refine wp_loopE cfg rfl (fun f0 h0 m fr h => ∃ i : Nat, fr 0 = f0 0 ∧ fr 1 = f0 1 ∧ fr 2 = f0 2 ∧ fr 7 = .int .i64 i ∧ (h = h0) ∧ (i + m = l.length) ∧ (∀ j, j < i → nth l j ≠ w)) (l.length) _ _ ⟨0, rfl, rfl, rfl, by first | rfl | (simp; done) | (simp [R]; done) | simp [R], by first | rfl | (simp; done) | omega, by first | rfl | (simp; done) | omega, fun j hj => absurd hj (Nat.not_lt_zero j)⟩ ?_
  rintro Am Af Ah ⟨i, A0, A1, A2, A7, hh, hm, hn⟩ Aih
  try simp at A0 A1 A2
  subst hh
  by_cases hi : i < l.length
  ·have hxi := hx _ (nth_mem hi)
   have hic : i < c.length := by omega
   by_cases he : nth l i = w
   ·have hE2 := look_at (f := (nth c)) hi he hn
    rw [hE2]
    repeat' (first | ((first | refine wpc_split _ ?_ ?_ | refine ww_split _ ?_ ?_) <;> intro hc <;> try simp at hc) | (refine wp_drawF (by kernel_rfl) ?_) | refine wk_yldW _ ?_ | refine layOwe _ (by kernel_rfl) ?_ | refine owe ?_ (fun ho => ?_) | (simp (disch := first | assumption | omega | (simp; done) | (simp; omega)) [A0, A1, A2, A7, hi, he, eR, eI, hic, -getElem?_pos, gZ, gS]))
    all_goals try (exfalso; omega)
   ·repeat' (first | ((first | refine wpc_split _ ?_ ?_ | refine ww_split _ ?_ ?_) <;> intro hc <;> try simp at hc) | (refine wp_drawF (by kernel_rfl) ?_) | refine wk_yldW _ ?_ | refine layOwe _ (by kernel_rfl) ?_ | refine owe ?_ (fun ho => ?_) | (simp (disch := first | assumption | omega | (simp; done) | (simp; omega)) [A0, A1, A2, A7, hi, he, eR, eI, hic, -getElem?_pos, gZ, gS]))
    all_goals try (exfalso; omega)
    exact Aih (Am - 1) _ _ (by omega) ⟨i + 1, by simp [A0, A1, A2, A7], by simp [A0, A1, A2, A7], by simp [A0, A1, A2, A7], by simp [A0, A1, A2, A7], rfl, by omega, fun j hj => by (by_cases e : j = i; (rw [e]; exact he); exact hn j (by omega))⟩
  ·have hE2 := look_no (f := (nth c)) (l := l) (w := w) fun j hj => hn j (by omega)
   rw [hE2]
   repeat' (first | ((first | refine wpc_split _ ?_ ?_ | refine ww_split _ ?_ ?_) <;> intro hc <;> try simp at hc) | (refine wp_drawF (by kernel_rfl) ?_) | refine wk_yldW _ ?_ | refine layOwe _ (by kernel_rfl) ?_ | refine owe ?_ (fun ho => ?_) | (simp (disch := first | assumption | omega | (simp; done) | (simp; omega)) [A0, A1, A2, A7, hi, -getElem?_pos, gZ, gS]))
   all_goals try (exfalso; omega)
   all_goals try rfl
theorem costS {l : List (List Int)} {w : List Int} {f : Nat → Int} {a : Nat} {q1 q3 : Fl} {h : Heap} (hb : h.bs[a]? = some (.cells (tab l.length (cI f)))) (hl : l.length < 1099511627776) (hw : w.length < 1099511627776) (hx : ∀ x ∈ l, x.length < 1099511627776) :
  Ci cfg (.func (.func 52) [] []) [R q1 (eR eI) l, .slice a 0 l.length 1, R q3 eI w] h = some (.ret (.int .i64 (costL l f w)), h) := by
 refine Ci_fun_wp (c := cfg) (fn := Tryd.f52) rfl Tryd.func52 rfl (by simp [Tryd.f52]) ?_
 simp (disch := first | assumption | omega | (simp; done) | (simp; omega)) [-getElem?_pos, gZ, gS, Tryd.f52]
 by_cases hw0 : w = []
 ·have hE : costL l f w = 0 := by unfold costL; rw [if_pos hw0]
  rw [hE]
  subst hw0
  repeat' (first | ((first | refine wpc_split _ ?_ ?_ | refine ww_split _ ?_ ?_) <;> intro hc <;> try simp at hc) | (refine wp_drawF (by kernel_rfl) ?_) | refine wk_yldW _ ?_ | refine layOwe _ (by kernel_rfl) ?_ | refine owe ?_ (fun ho => ?_) | (simp (disch := first | assumption | omega | (simp; done) | (simp; omega)) [-getElem?_pos, gZ, gS]))
 ·have hE : costL l f w = lookL l f w := by unfold costL; rw [if_neg hw0]
  rw [hE]
  repeat' (first | ((first | refine wpc_split _ ?_ ?_ | refine ww_split _ ?_ ?_) <;> intro hc <;> try simp at hc) | (refine wp_drawF (by kernel_rfl) ?_) | refine wk_yldW _ ?_ | refine layOwe _ (by kernel_rfl) ?_ | refine owe ?_ (fun ho => ?_) | (simp (disch := first | assumption | omega | (simp; done) | (simp; omega)) [hw0, -getElem?_pos, gZ, gS]))
  ·exact absurd hc hw0
  refine wp_loopE cfg rfl (fun f0 h0 m fr h => ∃ i : Nat, fr 0 = f0 0 ∧ fr 1 = f0 1 ∧ fr 2 = f0 2 ∧ fr 7 = .int .i64 i ∧ (h = h0) ∧ (i + m = l.length) ∧ (∀ j, j < i → nth l j ≠ w)) (l.length) _ _ ⟨0, rfl, rfl, rfl, by first | rfl | (simp; done) | (simp [R]; done) | simp [R], by first | rfl | (simp; done) | omega, by first | rfl | (simp; done) | omega, fun j hj => absurd hj (Nat.not_lt_zero j)⟩ ?_
  rintro Am Af Ah ⟨i, A0, A1, A2, A7, hh, hm, hn⟩ Aih
  try simp at A0 A1 A2
  subst hh
  by_cases hi : i < l.length
  ·have hxi := hx _ (nth_mem hi)
   have hic : i < l.length := hi
   by_cases he : nth l i = w
   ·have hE2 := look_at (f := f) hi he hn
    rw [hE2]
    repeat' (first | ((first | refine wpc_split _ ?_ ?_ | refine ww_split _ ?_ ?_) <;> intro hc <;> try simp at hc) | (refine wp_drawF (by kernel_rfl) ?_) | refine wk_yldW _ ?_ | refine layOwe _ (by kernel_rfl) ?_ | refine owe ?_ (fun ho => ?_) | (simp (disch := first | assumption | omega | (simp; done) | (simp; omega)) [A0, A1, A2, A7, hi, he, eR, eI, hb, tab_get1, -getElem?_pos, gZ, gS]))
    all_goals try (exfalso; omega)
   ·repeat' (first | ((first | refine wpc_split _ ?_ ?_ | refine ww_split _ ?_ ?_) <;> intro hc <;> try simp at hc) | (refine wp_drawF (by kernel_rfl) ?_) | refine wk_yldW _ ?_ | refine layOwe _ (by kernel_rfl) ?_ | refine owe ?_ (fun ho => ?_) | (simp (disch := first | assumption | omega | (simp; done) | (simp; omega)) [A0, A1, A2, A7, hi, he, eR, eI, hb, tab_get1, -getElem?_pos, gZ, gS]))
    all_goals try (exfalso; omega)
    exact Aih (Am - 1) _ _ (by omega) ⟨i + 1, by simp [A0, A1, A2, A7], by simp [A0, A1, A2, A7], by simp [A0, A1, A2, A7], by simp [A0, A1, A2, A7], rfl, by omega, fun j hj => by (by_cases e : j = i; (rw [e]; exact he); exact hn j (by omega))⟩
  ·have hE2 := look_no (f := f) (l := l) (w := w) fun j hj => hn j (by omega)
   rw [hE2]
   repeat' (first | ((first | refine wpc_split _ ?_ ?_ | refine ww_split _ ?_ ?_) <;> intro hc <;> try simp at hc) | (refine wp_drawF (by kernel_rfl) ?_) | refine wk_yldW _ ?_ | refine layOwe _ (by kernel_rfl) ?_ | refine owe ?_ (fun ho => ?_) | (simp (disch := first | assumption | omega | (simp; done) | (simp; omega)) [A0, A1, A2, A7, hi, -getElem?_pos, gZ, gS]))
   all_goals try (exfalso; omega)
   all_goals try rfl
end Go.Ab
namespace Go.Ab
open Go.Proofs
set_option maxRecDepth 100000
set_option maxHeartbeats 4000000
def valC (a N i : Nat) (x n co : Int) (L : List (List Int)) (w : List Int) (m : Nat) : V := match m with
 | 0 => .slice a 0 N 1 | 1 => .int .i64 i | 2 => .slice a 0 N 1 | 3 => .int .i64 i | 4 => .ptr a i | 5 => .int .i64 x | 6 => .int .i64 n | 7 => R fl0 (eR eI) L | 8 => .slice a 0 N 1 | 9 => R fl0 eI w | 10 => .int .i64 co | 11 => .int .i64 (n + co) | 12 => .int .i64 (min x (n + co)) | 13 => .ptr a i | _ => .tuple []
def hpC (X : List Blk) (N i : Nat) (e : Nat → Int) (v : Int) (ts : List (Option Nat)) (S : Nat → Bool) : Heap :=
 ⟨X ++ [if S 14 = true then .cells (tab N (cI (updI e i v))) else .cells (tab N (cI e))], ts⟩
theorem regC_wp {X : List Blk} {i : Nat} {n : Int} {l : List (List Int)} {w : List Int} {e : Nat → Int} {f : Nat → V} {h : Heap} {d : List Def} {p : Pan} {ro : Option Nat} {K : List Fr} {Q : Ax → St → Prop} {id : Nat} (hb : h.bs = X ++ [.cells (tab l.length (cI e))]) (hl : l.length < 1099511627776) (hw : w.length < 1099511627776) (hx : ∀ x ∈ l, x.length < 1099511627776) (hi : i < l.length)
  (hc1 : 0 ≤ costL l e w) (hc2 : costL l e w ≤ 1048576) (hn1 : 0 ≤ n) (hn2 : n ≤ 4)
  (h5 : f 5 = .slice X.length 0 l.length 1) (h8 : f 8 = .int .i64 i) (h11 : f 11 = .int .i64 n) (h1 : f 1 = R fl0 (eR eI) l) (h10 : f 10 = R fl0 eI w)
  (kk : ∀ f', (∀ j, j < 58 ∨ 71 < j → f' j = f j) → dn cfg .normal ⟨tab 73 f', ⟨X ++ [.cells (tab l.length (cI (updI e i (min (e i) (n + costL l e w)))))], h.ts⟩, d, p, ro⟩ K Q) :
  wp cfg (.region id (drawAt Tryd.f50 1) true) ⟨tab 73 f, h, d, p, ro⟩ K Q := by
 obtain ⟨bs, ts⟩ := h
 simp only at hb kk
 subst hb
 have hlc : lcBad cfg (drawAt Tryd.f50 1) = true := by kernel_rfl
 have cs := fun (ts : List (Option Nat)) => costS (l := l) (w := w) (f := e) (a := X.length) (q1 := fl0) (q3 := fl0) (h := ⟨X ++ [.cells (tab l.length (cI e))], ts⟩) (by simp) hl hw hx
 generalize hco : costL l e w = co at *
 refine wp_sem (by simp [drawOk, drawOkT, hlc]) (semOk_list (valC X.length l.length i (e i) n co l w) (hpC X l.length i e (min (e i) (n + co)) ts) (by kernel_rfl) (by kernel_rfl) (by kernel_rfl) rfl ?_ ?_) ?_
 ·refine ⟨?_, ?_, ?_, ?_, ?_, ?_, ?_, ?_, ?_, ?_, ?_, ?_, ?_, ?_, ?_, trivial⟩
  all_goals intro S ev hcl haf hS he
  ·have x0 : ev (.tmp 5) = .slice X.length 0 l.length 1 := by rw [ev_old he 5 (by kernel_rfl), ← h5]; rfl
   simp [eff, opR, x0, hpC, valC]
  ·have x0 : ev (.tmp 8) = .int .i64 i := by rw [ev_old he 8 (by kernel_rfl), ← h8]; rfl
   simp [eff, opR, x0, hpC, valC]
  ·have x0 : ev (.tmp 5) = .slice X.length 0 l.length 1 := by rw [ev_old he 5 (by kernel_rfl), ← h5]; rfl
   simp [eff, opR, x0, hpC, valC]
  ·have x0 : ev (.tmp 8) = .int .i64 i := by rw [ev_old he 8 (by kernel_rfl), ← h8]; rfl
   simp [eff, opR, x0, hpC, valC]
  ·have x0 : ev (.tmp 60) = .slice X.length 0 l.length 1 := ev_by he haf 2 60 (by kernel_rfl) (by simp)
   have x1 : ev (.tmp 61) = .int .i64 i := ev_by he haf 3 61 (by kernel_rfl) (by simp)
   simp (disch := first | assumption | omega | (simp; done) | (simp; omega)) [-getElem?_pos, gZ, gS, eff, opR, x0, x1, hpC, valC, hi]
  ·have x0 : ev (.tmp 62) = .ptr X.length i := ev_by he haf 4 62 (by kernel_rfl) (by simp)
   have h14 : S 14 = false := clo_false hcl [5] 14 (by kernel_rfl) hS
   simp (disch := first | assumption | omega | (simp; done) | (simp; omega)) [-getElem?_pos, gZ, gS, eff, opR, x0, hpC, valC, hi, h14, tab_get1]
  ·have x0 : ev (.tmp 11) = .int .i64 n := by rw [ev_old he 11 (by kernel_rfl), ← h11]; rfl
   simp [eff, opR, x0, hpC, valC]
  ·have x0 : ev (.tmp 1) = R fl0 (eR eI) l := by rw [ev_old he 1 (by kernel_rfl), ← h1]; rfl
   simp [eff, opR, x0, hpC, valC]
  ·have x0 : ev (.tmp 5) = .slice X.length 0 l.length 1 := by rw [ev_old he 5 (by kernel_rfl), ← h5]; rfl
   simp [eff, opR, x0, hpC, valC]
  ·have x0 : ev (.tmp 10) = R fl0 eI w := by rw [ev_old he 10 (by kernel_rfl), ← h10]; rfl
   simp [eff, opR, x0, hpC, valC]
  ·have x0 : ev (.tmp 65) = R fl0 (eR eI) l := ev_by he haf 7 65 (by kernel_rfl) (by simp)
   have x1 : ev (.tmp 66) = .slice X.length 0 l.length 1 := ev_by he haf 8 66 (by kernel_rfl) (by simp)
   have x2 : ev (.tmp 67) = R fl0 eI w := ev_by he haf 9 67 (by kernel_rfl) (by simp)
   have xf := he.func 52
   have h14 : S 14 = false := clo_false hcl [10] 14 (by kernel_rfl) hS
   simp (disch := first | assumption | omega | (simp; done) | (simp; omega)) [-getElem?_pos, gZ, gS, eff, opR, x0, x1, x2, xf, hpC, valC, h14, cs]
  ·have x0 : ev (.tmp 64) = .int .i64 n := ev_by he haf 6 64 (by kernel_rfl) (by simp)
   have x1 : ev (.tmp 68) = .int .i64 co := ev_by he haf 10 68 (by kernel_rfl) (by simp)
   simp (disch := first | assumption | omega | (simp; done) | (simp; omega)) [-getElem?_pos, gZ, gS, eff, opR, x0, x1, hpC, valC]
   all_goals omega
  ·have x0 : ev (.tmp 63) = .int .i64 (e i) := ev_by he haf 5 63 (by kernel_rfl) (by simp)
   have x1 : ev (.tmp 69) = .int .i64 (n + co) := ev_by he haf 11 69 (by kernel_rfl) (by simp)
   simp (disch := first | assumption | omega | (simp; done) | (simp; omega)) [-getElem?_pos, gZ, gS, eff, opR, x0, x1, hpC, valC]
  ·have x0 : ev (.tmp 58) = .slice X.length 0 l.length 1 := ev_by he haf 0 58 (by kernel_rfl) (by simp)
   have x1 : ev (.tmp 59) = .int .i64 i := ev_by he haf 1 59 (by kernel_rfl) (by simp)
   simp (disch := first | assumption | omega | (simp; done) | (simp; omega)) [-getElem?_pos, gZ, gS, eff, opR, x0, x1, hpC, valC, hi]
  ·have x0 : ev (.tmp 71) = .ptr X.length i := ev_by he haf 13 71 (by kernel_rfl) (by simp)
   have x1 : ev (.tmp 70) = .int .i64 (min (e i) (n + co)) := ev_by he haf 12 70 (by kernel_rfl) (by simp)
   simp (disch := first | assumption | omega | (simp; done) | (simp; omega)) [-getElem?_pos, gZ, gS, eff, opR, x0, x1, hpC, valC, hS, tab_set, hi]
 ·intro S S' h
  have hsz : (drawAt Tryd.f50 1).size = 15 := by kernel_rfl
  rw [hsz] at h
  unfold hpC
  rw [h 14 (by omega)]
 ·simp only [Tryd.f50, drawAt, drawsOf, codeOf, Option.getD, List.append, List.nil_append, List.cons_append, List.append_nil, List.getD, gZ, gS]
  repeat' (first | ((first | refine wpc_split _ ?_ ?_ | refine ww_split _ ?_ ?_) <;> intro hc <;> try simp at hc) | (refine wp_drawF (by kernel_rfl) ?_) | refine wk_yldW _ ?_ | refine layOwe _ (by kernel_rfl) ?_ | refine owe ?_ (fun ho => ?_) | (simp (disch := first | assumption | omega | (simp; done) | (simp; omega)) [h5, h8, h11, h1, h10, hi, tab_set, tab_get1, cs, -getElem?_pos, gZ, gS]))
  all_goals try (exfalso; omega)
  exact kk _ (fun j hj => by simp only [upd]; repeat rw [if_neg (by omega)])
end Go.Ab
namespace Go.Ab
open Go.Proofs
set_option maxRecDepth 100000
set_option maxHeartbeats 4000000
def nevL (i : Nat) : List Int := rowF i fun _ => neverZ
theorem nevL_len (i : Nat) : (nevL i).length = i := rowF_len _ _
theorem nevL_succ (i : Nat) : nevL (i + 1) = nevL i ++ [1048576] := by unfold nevL rowF; rw [List.range_succ, List.map_append]; rfl
theorem app_nev (X : List Blk) (ts : List (Option Nat)) (fl2 : Fl) (i : Nat) (hi : i < 1048576) : appendV Tryd.prog ⟨X ++ [.cells (rows eI (nevL i))], ts⟩ true #[25, 25] (.slice X.length 0 i 1) (R fl2 eI [1048576]) = some (.slice (X.length + 1) 0 (i + 1) 1, ⟨X ++ [.dead, .cells (rows eI (nevL (i + 1)))], ts⟩) := by
 obtain ⟨b, hb1, hb2⟩ := apok_apz (P := Tryd.prog) (ts := #[25, 25]) (sz := 1) (by kernel_rfl)
 have := appendB_sl (P := Tryd.prog) (E := eI) (h := ⟨X ++ [.cells (rows eI (nevL i))], ts⟩) (l := nevL i) (m := [1048576]) (a := X.length) (fl2 := fl2) hb1 (by simp) (by simp) (by simp [nevL_len]; omega) hb2
 rw [nevL_len, ← nevL_succ] at this
 rw [this]
 simp [app_set0]
theorem nev_at (i : Nat) : rows eI (nevL i) = tab i (cI fun _ => neverZ) := by unfold nevL; rw [rowF_rows]; rfl
theorem C50 (t : List Sgn) (hs : smZs t) (hx : sTab t) : Kc cfg 50 [R fl0 eZ t, R fl0 (eR eI) (restsZ t)] (.ret (R fl0 eI ((restsZ t).map (costZ t)))) := by
 have hrl := rests_len hx
 have hs1 := hs.1
 have hap0 : ∀ h fl2 x, appendV Tryd.prog h true #[25, 25] (.row false true [] 0 none) (R fl2 eI [x]) = some (.slice h.bs.length 0 1 1, newB h (.cells (rows eI [x]))) := fun h fl2 x => by
  have := append_Bn (P := Tryd.prog) (E := eI) (h := h) (fl := (false, true, none)) (l := ([] : List Int)) (m := [x]) (ts := #[25, 25]) (fl2 := fl2) (by kernel_rfl) (by simp) rfl (by simp)
  exact this
 refine outS_of_wp cfg (fn := Tryd.f50) Tryd.func50 rfl (by simp [Tryd.f50]) ?_
 simp (disch := first | assumption | omega | (simp; done) | (simp; omega)) [-getElem?_pos, gZ, gS, Tryd.f50, emptyH]
 repeat' (first | ((first | refine wpc_split _ ?_ ?_ | refine ww_split _ ?_ ?_) <;> intro hc <;> try simp at hc) | (refine wp_drawF (by kernel_rfl) ?_) | refine wk_yldW _ ?_ | refine layOwe _ (by kernel_rfl) ?_ | refine owe ?_ (fun ho => ?_) | (simp (disch := first | assumption | omega | (simp; done) | (simp; omega)) [emptyH, -getElem?_pos, gZ, gS]))
 refine wp_loopE cfg rfl (fun f0 h0 m fr h => ∃ i : Nat, fr 0 = f0 0 ∧ fr 1 = f0 1 ∧ fr 6 = .int .i64 i ∧ ((i = 0 ∧ h.bs = [] ∧ fr 5 = .row false true [] 0 none) ∨ (0 < i ∧ ∃ X : List Blk, fr 5 = .slice X.length 0 i 1 ∧ h.bs = X ++ [.cells (rows eI (nevL i))])) ∧ (i + m = (restsZ t).length)) ((restsZ t).length) _ _ ⟨0, rfl, rfl, by first | rfl | (simp; done) | (simp [R]; done) | simp [R], .inl ⟨rfl, rfl, rfl⟩, by first | rfl | (simp; done) | omega⟩ ?_
 rintro Am Af Ah ⟨i, A0, A1, A6, hb, hm⟩ Aih
 try simp at A0 A1
 by_cases hi : i < (restsZ t).length
 ·rcases hb with ⟨h0, hb, A5⟩ | ⟨h0, X, A5, hb⟩
  ·subst h0
   repeat' (first | ((first | refine wpc_split _ ?_ ?_ | refine ww_split _ ?_ ?_) <;> intro hc <;> try simp at hc) | (refine wp_drawF (by kernel_rfl) ?_) | refine wk_yldW _ ?_ | refine layOwe _ (by kernel_rfl) ?_ | refine owe ?_ (fun ho => ?_) | (simp (disch := first | assumption | omega | (simp; done) | (simp; omega)) [A0, A1, A6, A5, fold_I1, hap0, -getElem?_pos, gZ, gS]))
   all_goals try (exfalso; omega)
   exact Aih (Am - 1) _ _ (by omega) ⟨0 + 1, by simp [A0, A1, A6], by simp [A0, A1, A6], by simp [A0, A1, A6], .inr ⟨by omega, [], by simp [hb], by (simp [hb, nevL, rowF]; rfl)⟩, by omega⟩
  ·have hap : ∀ fl2, appendV Tryd.prog Ah true #[25, 25] (.slice X.length 0 i 1) (R fl2 eI [1048576]) = some (.slice (X.length + 1) 0 (i + 1) 1, ⟨X ++ [.dead, .cells (rows eI (nevL (i + 1)))], Ah.ts⟩) := fun fl2 => by
    have := app_nev X Ah.ts fl2 i (by omega)
    rw [← hb] at this
    exact this
   repeat' (first | ((first | refine wpc_split _ ?_ ?_ | refine ww_split _ ?_ ?_) <;> intro hc <;> try simp at hc) | (refine wp_drawF (by kernel_rfl) ?_) | refine wk_yldW _ ?_ | refine layOwe _ (by kernel_rfl) ?_ | refine owe ?_ (fun ho => ?_) | (simp (disch := first | assumption | omega | (simp; done) | (simp; omega)) [A0, A1, A6, A5, fold_I1, hap, -getElem?_pos, gZ, gS]))
   all_goals try (exfalso; omega)
   exact Aih (Am - 1) _ _ (by omega) ⟨i + 1, by simp [A0, A1, A6], by simp [A0, A1, A6], by simp [A0, A1, A6], .inr ⟨by omega, X ++ [.dead], by simp, by simp⟩, by omega⟩
 ·obtain rfl : i = (restsZ t).length := by omega
  clear Aih hap0
  rcases hb with ⟨h0, hb, A5⟩ | ⟨h0, X, A5, hb⟩
  ·have hE : (restsZ t).map (costZ t) = [] := by rw [List.length_eq_zero_iff.1 h0]; rfl
   rw [hE]
   repeat' (first | ((first | refine wpc_split _ ?_ ?_ | refine ww_split _ ?_ ?_) <;> intro hc <;> try simp at hc) | (refine wp_drawF (by kernel_rfl) ?_) | refine wk_yldW _ ?_ | refine layOwe _ (by kernel_rfl) ?_ | refine owe ?_ (fun ho => ?_) | (simp (disch := first | assumption | omega | (simp; done) | (simp; omega)) [A0, A1, A6, A5, h0, -getElem?_pos, gZ, gS]))
   refine wp_loopE cfg rfl (fun f0 h0 m fr h => ∃ r : Nat, fr 0 = f0 0 ∧ fr 1 = f0 1 ∧ fr 5 = f0 5 ∧ fr 7 = .int .i64 r ∧ (h.bs = []) ∧ (r + m = 1)) (1) _ _ ⟨0, rfl, rfl, rfl, by first | rfl | (simp; done) | (simp [R]; done) | simp [R], by first | rfl | (simp; done) | omega, by first | rfl | (simp; done) | omega⟩ ?_
   rintro Cm Cf Ch ⟨r, C0, C1, C5, C7, hb, hm⟩ Cih
   try simp at C0 C1 C5
   by_cases hr : r < 1
   ·repeat' (first | ((first | refine wpc_split _ ?_ ?_ | refine ww_split _ ?_ ?_) <;> intro hc <;> try simp at hc) | (refine wp_drawF (by kernel_rfl) ?_) | refine wk_yldW _ ?_ | refine layOwe _ (by kernel_rfl) ?_ | refine owe ?_ (fun ho => ?_) | (simp (disch := first | assumption | omega | (simp; done) | (simp; omega)) [C0, C1, C5, C7, A0, A1, A6, A5, h0, hr, -getElem?_pos, gZ, gS]))
    all_goals try (exfalso; omega)
    refine wp_loopE cfg rfl (fun f0 h0 m fr h => fr 0 = f0 0 ∧ fr 1 = f0 1 ∧ fr 5 = f0 5 ∧ fr 7 = f0 7 ∧ fr 8 = .int .i64 0 ∧ (h.bs = []) ∧ (m = 0)) (0) _ _ ⟨rfl, rfl, rfl, rfl, by first | rfl | (simp; done) | (simp [R]; done) | simp [R], hb, by first | rfl | (simp; done) | omega⟩ ?_
    rintro Dm Df Dh ⟨D0, D1, D5, D7, D8, hb2, hm2⟩ Dih
    try simp [C0, C1, C5, C7] at D0 D1 D5 D7
    repeat' (first | ((first | refine wpc_split _ ?_ ?_ | refine ww_split _ ?_ ?_) <;> intro hc <;> try simp at hc) | (refine wp_drawF (by kernel_rfl) ?_) | refine wk_yldW _ ?_ | refine layOwe _ (by kernel_rfl) ?_ | refine owe ?_ (fun ho => ?_) | (simp (disch := first | assumption | omega | (simp; done) | (simp; omega)) [D0, D1, D5, D7, D8, C0, C1, C5, C7, A0, A1, A6, A5, h0, hr, -getElem?_pos, gZ, gS]))
    all_goals try (exfalso; omega)
    exact Cih (Cm - 1) _ _ (by omega) ⟨r + 1, by simp [D0, D1, D5, D7, D8, C0, C1, C5, C7], by simp [D0, D1, D5, D7, D8, C0, C1, C5, C7], by simp [D0, D1, D5, D7, D8, C0, C1, C5, C7], by simp [D0, D1, D5, D7, D8, C0, C1, C5, C7], hb2, by omega⟩
   ·repeat' (first | ((first | refine wpc_split _ ?_ ?_ | refine ww_split _ ?_ ?_) <;> intro hc <;> try simp at hc) | (refine wp_drawF (by kernel_rfl) ?_) | refine wk_yldW _ ?_ | refine layOwe _ (by kernel_rfl) ?_ | refine owe ?_ (fun ho => ?_) | (simp (disch := first | assumption | omega | (simp; done) | (simp; omega)) [C0, C1, C5, C7, A0, A1, A6, A5, h0, hr, -getElem?_pos, gZ, gS]))
    all_goals try (exfalso; omega)
    all_goals rfl
  ·rw [nev_at] at hb
   repeat' (first | ((first | refine wpc_split _ ?_ ?_ | refine ww_split _ ?_ ?_) <;> intro hc <;> try simp at hc) | (refine wp_drawF (by kernel_rfl) ?_) | refine wk_yldW _ ?_ | refine layOwe _ (by kernel_rfl) ?_ | refine owe ?_ (fun ho => ?_) | (simp (disch := first | assumption | omega | (simp; done) | (simp; omega)) [A0, A1, A6, A5, -getElem?_pos, gZ, gS]))
   refine wp_loopE cfg rfl (fun f0 h0 m fr h => ∃ r : Nat, ∃ f : Nat → Int, fr 0 = f0 0 ∧ fr 1 = f0 1 ∧ fr 5 = f0 5 ∧ fr 7 = .int .i64 r ∧ (h.bs = X ++ [.cells (tab (restsZ t).length (cI f))]) ∧ (CosG t r 0 f) ∧ (r + m = (restsZ t).length + 1)) ((restsZ t).length + 1) _ _ ⟨0, fun _ => neverZ, rfl, rfl, rfl, by first | rfl | (simp; done) | (simp [R]; done) | simp [R], hb, CosG.start t, by first | rfl | (simp; done) | omega⟩ ?_
   rintro Cm Cf Ch ⟨r, f, C0, C1, C5, C7, hb, hg, hm⟩ Cih
   try simp at C0 C1 C5
   by_cases hr : r < (restsZ t).length + 1
   ·repeat' (first | ((first | refine wpc_split _ ?_ ?_ | refine ww_split _ ?_ ?_) <;> intro hc <;> try simp at hc) | (refine wp_drawF (by kernel_rfl) ?_) | refine wk_yldW _ ?_ | refine layOwe _ (by kernel_rfl) ?_ | refine owe ?_ (fun ho => ?_) | (simp (disch := first | assumption | omega | (simp; done) | (simp; omega)) [C0, C1, C5, C7, A0, A1, A6, A5, hr, -getElem?_pos, gZ, gS]))
    all_goals try (exfalso; omega)
    refine wp_loopE cfg rfl (fun f0 h0 m fr h => ∃ i : Nat, ∃ g : Nat → Int, fr 0 = f0 0 ∧ fr 1 = f0 1 ∧ fr 5 = f0 5 ∧ fr 7 = f0 7 ∧ fr 8 = .int .i64 i ∧ (h.bs = X ++ [.cells (tab (restsZ t).length (cI g))]) ∧ (CosG t r i g) ∧ (i + m = (restsZ t).length)) ((restsZ t).length) _ _ ⟨0, f, rfl, rfl, rfl, rfl, by first | rfl | (simp; done) | (simp [R]; done) | simp [R], hb, hg, by first | rfl | (simp; done) | omega⟩ ?_
    rintro Dm Df Dh ⟨i, g, D0, D1, D5, D7, D8, hb2, hg2, hm2⟩ Dih
    try simp [C0, C1, C5, C7] at D0 D1 D5 D7
    by_cases hi : i < (restsZ t).length
    ·repeat' (first | ((first | refine wpc_split _ ?_ ?_ | refine ww_split _ ?_ ?_) <;> intro hc <;> try simp at hc) | (refine wp_drawF (by kernel_rfl) ?_) | refine wk_yldW _ ?_ | refine layOwe _ (by kernel_rfl) ?_ | refine owe ?_ (fun ho => ?_) | (simp (disch := first | assumption | omega | (simp; done) | (simp; omega)) [D0, D1, D5, D7, D8, C0, C1, C5, C7, A0, A1, A6, A5, hi, -getElem?_pos, gZ, gS]))
     all_goals try (exfalso; omega)
     refine wp_loopE cfg rfl (fun f0 h0 m fr h => ∃ k : Nat, ∃ e : Nat → Int, fr 0 = f0 0 ∧ fr 1 = f0 1 ∧ fr 5 = f0 5 ∧ fr 7 = f0 7 ∧ fr 8 = f0 8 ∧ fr 9 = .int .i64 k ∧ (h.bs = X ++ [.cells (tab (restsZ t).length (cI e))]) ∧ (CosH t r i k e) ∧ (k + m = t.length)) (t.length) _ _ ⟨0, g, rfl, rfl, rfl, rfl, rfl, by first | rfl | (simp; done) | (simp [R]; done) | simp [R], hb2, hg2.row, by first | rfl | (simp; done) | omega⟩ ?_
     rintro Em Ef Eh ⟨k, e, E0, E1, E5, E7, E8, E9, hb3, hg3, hm3⟩ Eih
     try simp [D0, D1, D5, D7, D8, C0, C1, C5, C7] at E0 E1 E5 E7 E8
     by_cases hk : k < t.length
     ·have hwm := nth_mem hi
      have hwl := ((((mem_rests (rests_ne hwm)).1 hwm).dots hx).2)
      obtain ⟨x1, x2, x3⟩ := hx.2 k hk
      have hxl : ∀ x ∈ restsZ t, x.length < 1099511627776 := fun x hm => by
       have := ((((mem_rests (rests_ne hm)).1 hm).dots hx).2)
       omega
      have hbx : Eh.bs[X.length]? = some (.cells (tab (restsZ t).length (cI e))) := by rw [hb3]; simp
      cases ho : (stepZ (nth (restsZ t) i) (nth t k).cells).2.2.2 with
      | false =>
       have hg4 := hg3.skip ho
       repeat' (first | ((first | refine wpc_split _ ?_ ?_ | refine ww_split _ ?_ ?_) <;> intro hc <;> try simp at hc) | (refine wp_drawF (by decide +kernel) ?_) | refine wk_yldW _ ?_ | refine layOwe _ (by kernel_rfl) ?_ | refine owe ?_ (fun ho => ?_) | (simp (disch := first | assumption | omega | (simp; done) | (simp; omega)) [E0, E1, E5, E7, E8, E9, D0, D1, D5, D7, D8, C0, C1, C5, C7, A0, A1, A6, A5, hi, hk, ho, eR, eI, -getElem?_pos, gZ, gS]))
       all_goals try (exfalso; omega)
       exact Eih (Em - 1) _ _ (by omega) ⟨k + 1, e, by simp [E0, E1, E5, E7, E8, E9, D0, D1, D5, D7, D8, C0, C1, C5, C7], by simp [E0, E1, E5, E7, E8, E9, D0, D1, D5, D7, D8, C0, C1, C5, C7], by simp [E0, E1, E5, E7, E8, E9, D0, D1, D5, D7, D8, C0, C1, C5, C7], by simp [E0, E1, E5, E7, E8, E9, D0, D1, D5, D7, D8, C0, C1, C5, C7], by simp [E0, E1, E5, E7, E8, E9, D0, D1, D5, D7, D8, C0, C1, C5, C7], by simp [E0, E1, E5, E7, E8, E9, D0, D1, D5, D7, D8, C0, C1, C5, C7], hb3, hg4, by omega⟩
      | true =>
       have hg4 := hg3.next hx hi hk ho
       have hkz := (((mem_rests (rests_ne hwm)).1 hwm)).step hx (rests_ne hwm) hk ho
       have hrl2 := (hkz.dots hx).2
       have cs := costS (l := restsZ t) (w := (stepZ (nth (restsZ t) i) (nth t k).cells).1) (f := e) (a := X.length) (q1 := fl0) (q3 := fl0) hbx (by omega) (by omega) hxl
       have hnn := stepZ_nn (nth (restsZ t) i) (nth t k).cells
       obtain ⟨l1, l2⟩ := CosG.low hg3.1.1 (stepZ (nth (restsZ t) i) (nth t k).cells).1
       obtain ⟨c1, c2⟩ := costZ_nn t (stepZ (nth (restsZ t) i) (nth t k).cells).1
       have hs3 := step_le3 hx (rests_ne hwm) hk
       unfold neverZ at l2 c2
       generalize hst : stepZ (nth (restsZ t) i) (nth t k).cells = st at *
       repeat' (first | ((first | refine wpc_split _ ?_ ?_ | refine ww_split _ ?_ ?_) <;> intro hc <;> try simp at hc) | (refine wp_drawF (by decide +kernel) ?_) | refine wk_yldW _ ?_ | refine layOwe _ (by kernel_rfl) ?_ | refine owe ?_ (fun ho => ?_) | (simp (disch := first | assumption | omega | (simp; done) | (simp; omega)) [E0, E1, E5, E7, E8, E9, D0, D1, D5, D7, D8, C0, C1, C5, C7, A0, A1, A6, A5, hi, hk, hst, ho, eR, eI, -getElem?_pos, gZ, gS]))
       all_goals try (exfalso; omega)
       refine regC_wp (X := X) (i := i) (n := st.2.1) (w := st.1) (e := e) (l := restsZ t) hb3 (by omega) (by omega) hxl hi (by omega) (by omega) hnn (by omega) (by simp [E5, D5, C5, A5]) (by simp [E8]) (by simp) (by simp [E1, D1, C1, A1]) (by simp) (fun f' hf' => ?_)
       repeat' (first | ((first | refine wpc_split _ ?_ ?_ | refine ww_split _ ?_ ?_) <;> intro hc <;> try simp at hc) | (refine wp_drawF (by kernel_rfl) ?_) | refine wk_yldW _ ?_ | refine layOwe _ (by kernel_rfl) ?_ | refine owe ?_ (fun ho => ?_) | (simp (disch := first | assumption | omega | (simp; done) | (simp; omega)) [E0, E1, E5, E7, E8, E9, D0, D1, D5, D7, D8, C0, C1, C5, C7, A0, A1, A6, A5, hf', -getElem?_pos, gZ, gS]))
       all_goals try (exfalso; omega)
       exact Eih (Em - 1) _ _ (by omega) ⟨k + 1, updI e i (min (e i) (st.2.1 + costL (restsZ t) e st.1)), by simp [E0, E1, E5, E7, E8, E9, D0, D1, D5, D7, D8, C0, C1, C5, C7, hf'], by simp [E0, E1, E5, E7, E8, E9, D0, D1, D5, D7, D8, C0, C1, C5, C7, hf'], by simp [E0, E1, E5, E7, E8, E9, D0, D1, D5, D7, D8, C0, C1, C5, C7, hf'], by simp [E0, E1, E5, E7, E8, E9, D0, D1, D5, D7, D8, C0, C1, C5, C7, hf'], by simp [E0, E1, E5, E7, E8, E9, D0, D1, D5, D7, D8, C0, C1, C5, C7, hf'], by simp [E0, E1, E5, E7, E8, E9, D0, D1, D5, D7, D8, C0, C1, C5, C7, hf'], rfl, hg4, by omega⟩
     ·obtain rfl : k = t.length := by omega
      repeat' (first | ((first | refine wpc_split _ ?_ ?_ | refine ww_split _ ?_ ?_) <;> intro hc <;> try simp at hc) | (refine wp_drawF (by kernel_rfl) ?_) | refine wk_yldW _ ?_ | refine layOwe _ (by kernel_rfl) ?_ | refine owe ?_ (fun ho => ?_) | (simp (disch := first | assumption | omega | (simp; done) | (simp; omega)) [E0, E1, E5, E7, E8, E9, D0, D1, D5, D7, D8, C0, C1, C5, C7, A0, A1, A6, A5, -getElem?_pos, gZ, gS]))
      all_goals try (exfalso; omega)
      exact Dih (Dm - 1) _ _ (by omega) ⟨i + 1, e, by simp [E0, E1, E5, E7, E8, E9, D0, D1, D5, D7, D8, C0, C1, C5, C7], by simp [E0, E1, E5, E7, E8, E9, D0, D1, D5, D7, D8, C0, C1, C5, C7], by simp [E0, E1, E5, E7, E8, E9, D0, D1, D5, D7, D8, C0, C1, C5, C7], by simp [E0, E1, E5, E7, E8, E9, D0, D1, D5, D7, D8, C0, C1, C5, C7], by simp [E0, E1, E5, E7, E8, E9, D0, D1, D5, D7, D8, C0, C1, C5, C7], hb3, hg3.row, by omega⟩
    ·obtain rfl : i = (restsZ t).length := by omega
     repeat' (first | ((first | refine wpc_split _ ?_ ?_ | refine ww_split _ ?_ ?_) <;> intro hc <;> try simp at hc) | (refine wp_drawF (by kernel_rfl) ?_) | refine wk_yldW _ ?_ | refine layOwe _ (by kernel_rfl) ?_ | refine owe ?_ (fun ho => ?_) | (simp (disch := first | assumption | omega | (simp; done) | (simp; omega)) [D0, D1, D5, D7, D8, C0, C1, C5, C7, A0, A1, A6, A5, -getElem?_pos, gZ, gS]))
     all_goals try (exfalso; omega)
     exact Cih (Cm - 1) _ _ (by omega) ⟨r + 1, g, by simp [D0, D1, D5, D7, D8, C0, C1, C5, C7], by simp [D0, D1, D5, D7, D8, C0, C1, C5, C7], by simp [D0, D1, D5, D7, D8, C0, C1, C5, C7], by simp [D0, D1, D5, D7, D8, C0, C1, C5, C7], hb2, hg2.round, by omega⟩
   ·have hfin := hg.all (r := r) (by omega)
    repeat' (first | ((first | refine wpc_split _ ?_ ?_ | refine ww_split _ ?_ ?_) <;> intro hc <;> try simp at hc) | (refine wp_drawF (by kernel_rfl) ?_) | refine wk_yldW _ ?_ | refine layOwe _ (by kernel_rfl) ?_ | refine owe ?_ (fun ho => ?_) | (simp (disch := first | assumption | omega | (simp; done) | (simp; omega)) [C0, C1, C5, C7, A0, A1, A6, A5, hr, -getElem?_pos, gZ, gS]))
    all_goals try (exfalso; omega)
    have hml : ((restsZ t).map (costZ t)).length = (restsZ t).length := List.length_map ..
    have hrw : (restsZ t).map (costZ t) = rowF (restsZ t).length f := ext_nth (by simp) fun j hj => by
     rw [hml] at hj
     rw [nth_rowF hj, hfin j hj, nth_eq (by rw [hml]; exact hj), nth_eq hj, List.getElem_map]
    have htb : tab (restsZ t).length (cI f) = rows eI ((restsZ t).map (costZ t)) := by rw [hrw, rowF_rows]; rfl
    have ho := outS_sl (E := eI) (sz := 1) (h := Ch) (a := X.length) (n := (restsZ t).length) (L := (restsZ t).map (costZ t)) hml.symm (by rw [hb, htb]; simp)
    simpa using ho
@[simp] theorem S50 (t : List Sgn) (hs : smZs t) (hx : sTab t) (q1 q2 : Fl) (hh : Heap) : Ci cfg (.func (.func 50) [] []) [R  q1 eZ t, R  q2 (eR eI) (restsZ t)] hh = some (.ret (R fl0 eI ((restsZ t).map (costZ t))), hh) :=
 Ci_K cfg rfl rfl (by simp) (by simp) (C50 t hs hx)
end Go.Ab
namespace Go.Ab
open Go.Proofs
set_option maxRecDepth 100000
set_option maxHeartbeats 8000000
theorem costK {t : List Sgn} (ht : sTab t) {w : List Int} (hw : KeyZ t w) (q1 q2 q3 : Fl) (h : Heap) :
  Ci cfg (.func (.func 52) [] []) [R q1 (eR eI) (restsZ t), R q2 eI ((restsZ t).map (costZ t)), R q3 eI w] h = some (.ret (.int .i64 (costZ t w)), h) := by
 have hml : ((restsZ t).map (costZ t)).length = (restsZ t).length := List.length_map ..
 have hrl := rests_len ht
 have hwl := (hw.dots ht).2
 have hc := costR (l := restsZ t) (c := (restsZ t).map (costZ t)) (w := w) (q1 := q1) (q2 := q2) (q3 := q3) (h := h) hml (by omega) (by omega) fun x hm => by
  have := ((((mem_rests (rests_ne hm)).1 hm).dots ht).2)
  omega
 rw [hc, costL_Z (fun j hj => by rw [nth_eq (by rw [hml]; exact hj), nth_eq hj, List.getElem_map]) hw]
theorem apH (h : Heap) (k : Int) (q : Fl) (l : List Int) (hl : l.length + 1 ≤ 4294967296) : appendV Tryd.prog h false #[25, 25] (.row false true [.int .i64 k] 1 none) (R q eI l) = some (R (apF l h.ts) eI (k :: l), ⟨h.bs, apT l h.ts⟩) := apL h.bs h.ts k q l hl
theorem fin_K {t : List Sgn} (ht : sTab t) (hs : smZs t) : ∀ (f : Nat), f ≤ 4194304 → ∀ (w : List Int) (a : Bool), KeyZ t w → phiZ (costZ t) w < f →
  Kc cfg 53 [R fl0 eZ t, R fl0 (eR eI) (restsZ t), R fl0 eI ((restsZ t).map (costZ t)), R fl0 eI w, .bool a] (.ret (.tuple [R fl0 eI (finF t (costZ t) f w a).1, R fl0 eI (finF t (costZ t) f w a).2]))
 | 0, _, w, a, _, h => by omega
 | f + 1, hf, w, a, hw, hphi => by
  have ih := fin_K ht hs f (by omega)
  have htl := ht.1
  have hs1 := hs.1
  obtain ⟨hwd, hwl⟩ := hw.dots ht
  refine outS_of_wp cfg (fn := Tryd.f53) Tryd.func53 rfl (by simp [Tryd.f53]) ?_
  simp (disch := first | assumption | omega | (simp; done) | (simp; omega)) [-getElem?_pos, gZ, gS, Tryd.f53]
  by_cases hw0 : w = []
  ·subst hw0
   rw [finF_nil]
   repeat' (first | ((first | refine wpc_split _ ?_ ?_ | refine ww_split _ ?_ ?_) <;> intro hc <;> try simp at hc) | (refine wp_drawF (by kernel_rfl) ?_) | refine wk_yldW _ ?_ | refine layOwe _ (by kernel_rfl) ?_ | refine owe ?_ (fun ho => ?_) | (simp (disch := first | assumption | omega | (simp; done) | (simp; omega)) [-getElem?_pos, gZ, gS]))
   all_goals rfl
  ·rw [finF_best t (costZ t) f hw0 a]
   have ck := fun (w : List Int) (hw : KeyZ t w) => costK ht hw
   repeat' (first | ((first | refine wpc_split _ ?_ ?_ | refine ww_split _ ?_ ?_) <;> intro hc <;> try simp at hc) | (refine wp_drawF (by kernel_rfl) ?_) | refine wk_yldW _ ?_ | refine layOwe _ (by kernel_rfl) ?_ | refine owe ?_ (fun ho => ?_) | (simp (disch := first | assumption | omega | (simp; done) | (simp; omega)) [hw0, -getElem?_pos, gZ, gS]))
   ·exact absurd hc hw0
   refine wp_loopE cfg rfl (fun f0 h0 m fr h => ∃ k : Nat, ∃ q1 : Fl, ∃ q2 : Fl, fr 0 = f0 0 ∧ fr 1 = f0 1 ∧ fr 2 = f0 2 ∧ fr 3 = f0 3 ∧ fr 4 = f0 4 ∧ fr 15 = .int .i64 k ∧ fr 12 = .bool (bestF t (costZ t) f w a k).isSome ∧ fr 13 = R q1 eI ((bestF t (costZ t) f w a k).getD ([], [])).1 ∧ fr 14 = R q2 eI ((bestF t (costZ t) f w a k).getD ([], [])).2 ∧ (k + m = t.length)) (t.length) _ _ ⟨0, (true, true, none), (true, true, none), rfl, rfl, rfl, rfl, rfl, by first | rfl | (simp; done) | (simp [R]; done) | simp [R], by first | rfl | (simp; done) | (simp [R]; done) | simp [R], by simp [R, bestF], by simp [R, bestF], by first | rfl | (simp; done) | omega⟩ ?_
   rintro Am Af Ah ⟨k, q1, q2, A0, A1, A2, A3, A4, A15, A12, A13, A14, hm2⟩ Aih
   try simp at A0 A1 A2 A3 A4
   by_cases hk : k < t.length
   ·have hlb := len_best (t := t) (c := costZ t) (f := f) (w := w) (a := a) (len_fin t (costZ t) f) k
    obtain ⟨x1, x2, x3⟩ := ht.2 k hk
    have hst : bestF t (costZ t) f w a (k + 1) = if onWay t (costZ t) w k = true then pickZ (bestF t (costZ t) f w a k) (addZ a k (finF t (costZ t) f (stepZ w (nth t k).cells).1 (a != (stepZ w (nth t k).cells).2.2.1))) else bestF t (costZ t) f w a k := rfl
    have ck2 := ck w hw
    cases ho : (stepZ w (nth t k).cells).2.2.2 with
    | false =>
     have hon : onWay t (costZ t) w k = false := by unfold onWay; rw [ho]; rfl
     rw [hon, if_neg (by simp)] at hst
     clear ih
     repeat' (first | ((first | refine wpc_split _ ?_ ?_ | refine ww_split _ ?_ ?_) <;> intro hc <;> try simp at hc) | (refine wp_drawF (by decide +kernel) ?_) | refine wk_yldW _ ?_ | refine layOwe _ (by kernel_rfl) ?_ | refine owe ?_ (fun ho => ?_) | (simp (disch := first | assumption | omega | (simp; done) | (simp; omega)) [A0, A1, A2, A3, A4, A15, A12, A13, A14, hk, ho, ck2, -getElem?_pos, gZ, gS]))
     all_goals try (exfalso; omega)
     exact Aih (Am - 1) _ _ (by omega) ⟨k + 1, q1, q2, by simp [A0, A1, A2, A3, A4, A15, A12, A13, A14, hst], by simp [A0, A1, A2, A3, A4, A15, A12, A13, A14, hst], by simp [A0, A1, A2, A3, A4, A15, A12, A13, A14, hst], by simp [A0, A1, A2, A3, A4, A15, A12, A13, A14, hst], by simp [A0, A1, A2, A3, A4, A15, A12, A13, A14, hst], by simp [A0, A1, A2, A3, A4, A15, A12, A13, A14, hst], by simp [A0, A1, A2, A3, A4, A15, A12, A13, A14, hst], by simp [A0, A1, A2, A3, A4, A15, A12, A13, A14, hst], by simp [A0, A1, A2, A3, A4, A15, A12, A13, A14, hst], by omega⟩
    | true =>
     have hkz := hw.step ht hw0 hk ho
     have hrl := (hkz.dots ht).2
     have ck1 := ck _ hkz
     have hnn := stepZ_nn w (nth t k).cells
     have hs3 := step_le3 ht hw0 hk
     obtain ⟨c1, c2⟩ := costZ_nn t (stepZ w (nth t k).cells).1
     unfold neverZ at c2
     clear ck
     by_cases hc : (stepZ w (nth t k).cells).2.1 + costZ t (stepZ w (nth t k).cells).1 = costZ t w
     ·have hon : onWay t (costZ t) w k = true := by unfold onWay; rw [ho, hc]; simp
      rw [if_pos hon] at hst
      have hphi2 := phi_step (c := costZ t) hw0 c1 x1 hon
      have rc := fun (q : Fl) (hh : Heap) => Ci_K cfg (f := 53) (args := [R fl0 eZ t, R fl0 (eR eI) (restsZ t), R fl0 eI ((restsZ t).map (costZ t)), R q eI (stepZ w (nth t k).cells).1, .bool (a != (stepZ w (nth t k).cells).2.2.1)]) (h := hh) rfl rfl (by simp) (by simp) (ih (stepZ w (nth t k).cells).1 (a != (stepZ w (nth t k).cells).2.2.1) hkz (by omega))
      obtain ⟨l1, l2⟩ := len_fin t (costZ t) f (stepZ w (nth t k).cells).1 (a != (stepZ w (nth t k).cells).2.2.1)
      generalize hqq : finF t (costZ t) f (stepZ w (nth t k).cells).1 (a != (stepZ w (nth t k).cells).2.2.1) = q at *
      generalize hst2 : stepZ w (nth t k).cells = st at *
      generalize hbb : bestF t (costZ t) f w a k = b at *
      clear ih hqq hbb hphi hphi2
      have hl1 : q.1.length + 1 ≤ 4294967296 := by omega
      have hl2 : q.2.length + 1 ≤ 4294967296 := by omega
      cases a with
      | true =>
       cases htu : st.2.2.1 with
       | false =>
        have ha : (true != false) = true := rfl
        rw [htu, ha] at rc
        cases b with
        | none =>
         repeat' (first | ((first | refine wpc_split _ ?_ ?_ | refine ww_split _ ?_ ?_) <;> intro hc <;> try simp at hc) | (refine wp_drawF (by decide +kernel) ?_) | refine wk_yldW _ ?_ | refine layOwe _ (by kernel_rfl) ?_ | refine owe ?_ (fun ho => ?_) | (simp (disch := first | assumption | omega | (simp; done) | (simp; omega)) [A0, A1, A2, A3, A4, A15, A12, A13, A14, hk, ck1, ck2, hst2, htu, ho, hc, rc, apH, -getElem?_pos, gZ, gS]))
         all_goals try (exfalso; omega)
         exact Aih (Am - 1) _ _ (by omega) ⟨k + 1, fl0, apF q.2 Ah.ts, by simp [A0, A1, A2, A3, A4, A15, A12, A13, A14, hst, pickZ, add_t], by simp [A0, A1, A2, A3, A4, A15, A12, A13, A14, hst, pickZ, add_t], by simp [A0, A1, A2, A3, A4, A15, A12, A13, A14, hst, pickZ, add_t], by simp [A0, A1, A2, A3, A4, A15, A12, A13, A14, hst, pickZ, add_t], by simp [A0, A1, A2, A3, A4, A15, A12, A13, A14, hst, pickZ, add_t], by simp [A0, A1, A2, A3, A4, A15, A12, A13, A14, hst, pickZ, add_t], by simp [A0, A1, A2, A3, A4, A15, A12, A13, A14, hst, pickZ, add_t], by simp [A0, A1, A2, A3, A4, A15, A12, A13, A14, hst, pickZ, add_t], by simp [A0, A1, A2, A3, A4, A15, A12, A13, A14, hst, pickZ, add_t], by omega⟩
        | some p =>
         obtain ⟨p1, p2⟩ := hlb p rfl
         have hpk : pickZ (some p) (addZ true k q) = if lessZ (addZ true k q) p = true then some (addZ true k q) else some p := rfl
         rw [hpk] at hst
         cases hle : lessZ (addZ true k q) p with
         | true =>
          rw [if_pos hle] at hst
          rw [add_t] at hle
          repeat' (first | ((first | refine wpc_split _ ?_ ?_ | refine ww_split _ ?_ ?_) <;> intro hc <;> try simp at hc) | (refine wp_drawF (by decide +kernel) ?_) | refine wk_yldW _ ?_ | refine layOwe _ (by kernel_rfl) ?_ | refine owe ?_ (fun ho => ?_) | (simp (disch := first | assumption | omega | (simp; done) | (simp; omega)) [A0, A1, A2, A3, A4, A15, A12, A13, A14, hk, ck1, ck2, hst2, htu, ho, hc, rc, apH, hle, -getElem?_pos, gZ, gS]))
          all_goals try (exfalso; omega)
          exact Aih (Am - 1) _ _ (by omega) ⟨k + 1, fl0, apF q.2 Ah.ts, by simp [A0, A1, A2, A3, A4, A15, A12, A13, A14, hst, add_t], by simp [A0, A1, A2, A3, A4, A15, A12, A13, A14, hst, add_t], by simp [A0, A1, A2, A3, A4, A15, A12, A13, A14, hst, add_t], by simp [A0, A1, A2, A3, A4, A15, A12, A13, A14, hst, add_t], by simp [A0, A1, A2, A3, A4, A15, A12, A13, A14, hst, add_t], by simp [A0, A1, A2, A3, A4, A15, A12, A13, A14, hst, add_t], by simp [A0, A1, A2, A3, A4, A15, A12, A13, A14, hst, add_t], by simp [A0, A1, A2, A3, A4, A15, A12, A13, A14, hst, add_t], by simp [A0, A1, A2, A3, A4, A15, A12, A13, A14, hst, add_t], by omega⟩
         | false =>
          rw [if_neg (by simp [hle])] at hst
          rw [add_t] at hle
          repeat' (first | ((first | refine wpc_split _ ?_ ?_ | refine ww_split _ ?_ ?_) <;> intro hc <;> try simp at hc) | (refine wp_drawF (by decide +kernel) ?_) | refine wk_yldW _ ?_ | refine layOwe _ (by kernel_rfl) ?_ | refine owe ?_ (fun ho => ?_) | (simp (disch := first | assumption | omega | (simp; done) | (simp; omega)) [A0, A1, A2, A3, A4, A15, A12, A13, A14, hk, ck1, ck2, hst2, htu, ho, hc, rc, apH, hle, -getElem?_pos, gZ, gS]))
          all_goals try (exfalso; omega)
          exact Aih (Am - 1) _ _ (by omega) ⟨k + 1, q1, q2, by simp [A0, A1, A2, A3, A4, A15, A12, A13, A14, hst], by simp [A0, A1, A2, A3, A4, A15, A12, A13, A14, hst], by simp [A0, A1, A2, A3, A4, A15, A12, A13, A14, hst], by simp [A0, A1, A2, A3, A4, A15, A12, A13, A14, hst], by simp [A0, A1, A2, A3, A4, A15, A12, A13, A14, hst], by simp [A0, A1, A2, A3, A4, A15, A12, A13, A14, hst], by simp [A0, A1, A2, A3, A4, A15, A12, A13, A14, hst], by simp [A0, A1, A2, A3, A4, A15, A12, A13, A14, hst], by simp [A0, A1, A2, A3, A4, A15, A12, A13, A14, hst], by omega⟩
       | true =>
        have ha : (true != true) = false := rfl
        rw [htu, ha] at rc
        cases b with
        | none =>
         repeat' (first | ((first | refine wpc_split _ ?_ ?_ | refine ww_split _ ?_ ?_) <;> intro hc <;> try simp at hc) | (refine wp_drawF (by decide +kernel) ?_) | refine wk_yldW _ ?_ | refine layOwe _ (by kernel_rfl) ?_ | refine owe ?_ (fun ho => ?_) | (simp (disch := first | assumption | omega | (simp; done) | (simp; omega)) [A0, A1, A2, A3, A4, A15, A12, A13, A14, hk, ck1, ck2, hst2, htu, ho, hc, rc, apH, -getElem?_pos, gZ, gS]))
         all_goals try (exfalso; omega)
         exact Aih (Am - 1) _ _ (by omega) ⟨k + 1, fl0, apF q.2 Ah.ts, by simp [A0, A1, A2, A3, A4, A15, A12, A13, A14, hst, pickZ, add_t], by simp [A0, A1, A2, A3, A4, A15, A12, A13, A14, hst, pickZ, add_t], by simp [A0, A1, A2, A3, A4, A15, A12, A13, A14, hst, pickZ, add_t], by simp [A0, A1, A2, A3, A4, A15, A12, A13, A14, hst, pickZ, add_t], by simp [A0, A1, A2, A3, A4, A15, A12, A13, A14, hst, pickZ, add_t], by simp [A0, A1, A2, A3, A4, A15, A12, A13, A14, hst, pickZ, add_t], by simp [A0, A1, A2, A3, A4, A15, A12, A13, A14, hst, pickZ, add_t], by simp [A0, A1, A2, A3, A4, A15, A12, A13, A14, hst, pickZ, add_t], by simp [A0, A1, A2, A3, A4, A15, A12, A13, A14, hst, pickZ, add_t], by omega⟩
        | some p =>
         obtain ⟨p1, p2⟩ := hlb p rfl
         have hpk : pickZ (some p) (addZ true k q) = if lessZ (addZ true k q) p = true then some (addZ true k q) else some p := rfl
         rw [hpk] at hst
         cases hle : lessZ (addZ true k q) p with
         | true =>
          rw [if_pos hle] at hst
          rw [add_t] at hle
          repeat' (first | ((first | refine wpc_split _ ?_ ?_ | refine ww_split _ ?_ ?_) <;> intro hc <;> try simp at hc) | (refine wp_drawF (by decide +kernel) ?_) | refine wk_yldW _ ?_ | refine layOwe _ (by kernel_rfl) ?_ | refine owe ?_ (fun ho => ?_) | (simp (disch := first | assumption | omega | (simp; done) | (simp; omega)) [A0, A1, A2, A3, A4, A15, A12, A13, A14, hk, ck1, ck2, hst2, htu, ho, hc, rc, apH, hle, -getElem?_pos, gZ, gS]))
          all_goals try (exfalso; omega)
          exact Aih (Am - 1) _ _ (by omega) ⟨k + 1, fl0, apF q.2 Ah.ts, by simp [A0, A1, A2, A3, A4, A15, A12, A13, A14, hst, add_t], by simp [A0, A1, A2, A3, A4, A15, A12, A13, A14, hst, add_t], by simp [A0, A1, A2, A3, A4, A15, A12, A13, A14, hst, add_t], by simp [A0, A1, A2, A3, A4, A15, A12, A13, A14, hst, add_t], by simp [A0, A1, A2, A3, A4, A15, A12, A13, A14, hst, add_t], by simp [A0, A1, A2, A3, A4, A15, A12, A13, A14, hst, add_t], by simp [A0, A1, A2, A3, A4, A15, A12, A13, A14, hst, add_t], by simp [A0, A1, A2, A3, A4, A15, A12, A13, A14, hst, add_t], by simp [A0, A1, A2, A3, A4, A15, A12, A13, A14, hst, add_t], by omega⟩
         | false =>
          rw [if_neg (by simp [hle])] at hst
          rw [add_t] at hle
          repeat' (first | ((first | refine wpc_split _ ?_ ?_ | refine ww_split _ ?_ ?_) <;> intro hc <;> try simp at hc) | (refine wp_drawF (by decide +kernel) ?_) | refine wk_yldW _ ?_ | refine layOwe _ (by kernel_rfl) ?_ | refine owe ?_ (fun ho => ?_) | (simp (disch := first | assumption | omega | (simp; done) | (simp; omega)) [A0, A1, A2, A3, A4, A15, A12, A13, A14, hk, ck1, ck2, hst2, htu, ho, hc, rc, apH, hle, -getElem?_pos, gZ, gS]))
          all_goals try (exfalso; omega)
          exact Aih (Am - 1) _ _ (by omega) ⟨k + 1, q1, q2, by simp [A0, A1, A2, A3, A4, A15, A12, A13, A14, hst], by simp [A0, A1, A2, A3, A4, A15, A12, A13, A14, hst], by simp [A0, A1, A2, A3, A4, A15, A12, A13, A14, hst], by simp [A0, A1, A2, A3, A4, A15, A12, A13, A14, hst], by simp [A0, A1, A2, A3, A4, A15, A12, A13, A14, hst], by simp [A0, A1, A2, A3, A4, A15, A12, A13, A14, hst], by simp [A0, A1, A2, A3, A4, A15, A12, A13, A14, hst], by simp [A0, A1, A2, A3, A4, A15, A12, A13, A14, hst], by simp [A0, A1, A2, A3, A4, A15, A12, A13, A14, hst], by omega⟩
      | false =>
       cases htu : st.2.2.1 with
       | false =>
        have ha : (false != false) = false := rfl
        rw [htu, ha] at rc
        cases b with
        | none =>
         repeat' (first | ((first | refine wpc_split _ ?_ ?_ | refine ww_split _ ?_ ?_) <;> intro hc <;> try simp at hc) | (refine wp_drawF (by decide +kernel) ?_) | refine wk_yldW _ ?_ | refine layOwe _ (by kernel_rfl) ?_ | refine owe ?_ (fun ho => ?_) | (simp (disch := first | assumption | omega | (simp; done) | (simp; omega)) [A0, A1, A2, A3, A4, A15, A12, A13, A14, hk, ck1, ck2, hst2, htu, ho, hc, rc, apH, -getElem?_pos, gZ, gS]))
         all_goals try (exfalso; omega)
         exact Aih (Am - 1) _ _ (by omega) ⟨k + 1, apF q.1 Ah.ts, fl0, by simp [A0, A1, A2, A3, A4, A15, A12, A13, A14, hst, pickZ, add_f], by simp [A0, A1, A2, A3, A4, A15, A12, A13, A14, hst, pickZ, add_f], by simp [A0, A1, A2, A3, A4, A15, A12, A13, A14, hst, pickZ, add_f], by simp [A0, A1, A2, A3, A4, A15, A12, A13, A14, hst, pickZ, add_f], by simp [A0, A1, A2, A3, A4, A15, A12, A13, A14, hst, pickZ, add_f], by simp [A0, A1, A2, A3, A4, A15, A12, A13, A14, hst, pickZ, add_f], by simp [A0, A1, A2, A3, A4, A15, A12, A13, A14, hst, pickZ, add_f], by simp [A0, A1, A2, A3, A4, A15, A12, A13, A14, hst, pickZ, add_f], by simp [A0, A1, A2, A3, A4, A15, A12, A13, A14, hst, pickZ, add_f], by omega⟩
        | some p =>
         obtain ⟨p1, p2⟩ := hlb p rfl
         have hpk : pickZ (some p) (addZ false k q) = if lessZ (addZ false k q) p = true then some (addZ false k q) else some p := rfl
         rw [hpk] at hst
         cases hle : lessZ (addZ false k q) p with
         | true =>
          rw [if_pos hle] at hst
          rw [add_f] at hle
          repeat' (first | ((first | refine wpc_split _ ?_ ?_ | refine ww_split _ ?_ ?_) <;> intro hc <;> try simp at hc) | (refine wp_drawF (by decide +kernel) ?_) | refine wk_yldW _ ?_ | refine layOwe _ (by kernel_rfl) ?_ | refine owe ?_ (fun ho => ?_) | (simp (disch := first | assumption | omega | (simp; done) | (simp; omega)) [A0, A1, A2, A3, A4, A15, A12, A13, A14, hk, ck1, ck2, hst2, htu, ho, hc, rc, apH, hle, -getElem?_pos, gZ, gS]))
          all_goals try (exfalso; omega)
          exact Aih (Am - 1) _ _ (by omega) ⟨k + 1, apF q.1 Ah.ts, fl0, by simp [A0, A1, A2, A3, A4, A15, A12, A13, A14, hst, add_f], by simp [A0, A1, A2, A3, A4, A15, A12, A13, A14, hst, add_f], by simp [A0, A1, A2, A3, A4, A15, A12, A13, A14, hst, add_f], by simp [A0, A1, A2, A3, A4, A15, A12, A13, A14, hst, add_f], by simp [A0, A1, A2, A3, A4, A15, A12, A13, A14, hst, add_f], by simp [A0, A1, A2, A3, A4, A15, A12, A13, A14, hst, add_f], by simp [A0, A1, A2, A3, A4, A15, A12, A13, A14, hst, add_f], by simp [A0, A1, A2, A3, A4, A15, A12, A13, A14, hst, add_f], by simp [A0, A1, A2, A3, A4, A15, A12, A13, A14, hst, add_f], by omega⟩
         | false =>
          rw [if_neg (by simp [hle])] at hst
          rw [add_f] at hle
          repeat' (first | ((first | refine wpc_split _ ?_ ?_ | refine ww_split _ ?_ ?_) <;> intro hc <;> try simp at hc) | (refine wp_drawF (by decide +kernel) ?_) | refine wk_yldW _ ?_ | refine layOwe _ (by kernel_rfl) ?_ | refine owe ?_ (fun ho => ?_) | (simp (disch := first | assumption | omega | (simp; done) | (simp; omega)) [A0, A1, A2, A3, A4, A15, A12, A13, A14, hk, ck1, ck2, hst2, htu, ho, hc, rc, apH, hle, -getElem?_pos, gZ, gS]))
          all_goals try (exfalso; omega)
          exact Aih (Am - 1) _ _ (by omega) ⟨k + 1, q1, q2, by simp [A0, A1, A2, A3, A4, A15, A12, A13, A14, hst], by simp [A0, A1, A2, A3, A4, A15, A12, A13, A14, hst], by simp [A0, A1, A2, A3, A4, A15, A12, A13, A14, hst], by simp [A0, A1, A2, A3, A4, A15, A12, A13, A14, hst], by simp [A0, A1, A2, A3, A4, A15, A12, A13, A14, hst], by simp [A0, A1, A2, A3, A4, A15, A12, A13, A14, hst], by simp [A0, A1, A2, A3, A4, A15, A12, A13, A14, hst], by simp [A0, A1, A2, A3, A4, A15, A12, A13, A14, hst], by simp [A0, A1, A2, A3, A4, A15, A12, A13, A14, hst], by omega⟩
       | true =>
        have ha : (false != true) = true := rfl
        rw [htu, ha] at rc
        cases b with
        | none =>
         repeat' (first | ((first | refine wpc_split _ ?_ ?_ | refine ww_split _ ?_ ?_) <;> intro hc <;> try simp at hc) | (refine wp_drawF (by decide +kernel) ?_) | refine wk_yldW _ ?_ | refine layOwe _ (by kernel_rfl) ?_ | refine owe ?_ (fun ho => ?_) | (simp (disch := first | assumption | omega | (simp; done) | (simp; omega)) [A0, A1, A2, A3, A4, A15, A12, A13, A14, hk, ck1, ck2, hst2, htu, ho, hc, rc, apH, -getElem?_pos, gZ, gS]))
         all_goals try (exfalso; omega)
         exact Aih (Am - 1) _ _ (by omega) ⟨k + 1, apF q.1 Ah.ts, fl0, by simp [A0, A1, A2, A3, A4, A15, A12, A13, A14, hst, pickZ, add_f], by simp [A0, A1, A2, A3, A4, A15, A12, A13, A14, hst, pickZ, add_f], by simp [A0, A1, A2, A3, A4, A15, A12, A13, A14, hst, pickZ, add_f], by simp [A0, A1, A2, A3, A4, A15, A12, A13, A14, hst, pickZ, add_f], by simp [A0, A1, A2, A3, A4, A15, A12, A13, A14, hst, pickZ, add_f], by simp [A0, A1, A2, A3, A4, A15, A12, A13, A14, hst, pickZ, add_f], by simp [A0, A1, A2, A3, A4, A15, A12, A13, A14, hst, pickZ, add_f], by simp [A0, A1, A2, A3, A4, A15, A12, A13, A14, hst, pickZ, add_f], by simp [A0, A1, A2, A3, A4, A15, A12, A13, A14, hst, pickZ, add_f], by omega⟩
        | some p =>
         obtain ⟨p1, p2⟩ := hlb p rfl
         have hpk : pickZ (some p) (addZ false k q) = if lessZ (addZ false k q) p = true then some (addZ false k q) else some p := rfl
         rw [hpk] at hst
         cases hle : lessZ (addZ false k q) p with
         | true =>
          rw [if_pos hle] at hst
          rw [add_f] at hle
          repeat' (first | ((first | refine wpc_split _ ?_ ?_ | refine ww_split _ ?_ ?_) <;> intro hc <;> try simp at hc) | (refine wp_drawF (by decide +kernel) ?_) | refine wk_yldW _ ?_ | refine layOwe _ (by kernel_rfl) ?_ | refine owe ?_ (fun ho => ?_) | (simp (disch := first | assumption | omega | (simp; done) | (simp; omega)) [A0, A1, A2, A3, A4, A15, A12, A13, A14, hk, ck1, ck2, hst2, htu, ho, hc, rc, apH, hle, -getElem?_pos, gZ, gS]))
          all_goals try (exfalso; omega)
          exact Aih (Am - 1) _ _ (by omega) ⟨k + 1, apF q.1 Ah.ts, fl0, by simp [A0, A1, A2, A3, A4, A15, A12, A13, A14, hst, add_f], by simp [A0, A1, A2, A3, A4, A15, A12, A13, A14, hst, add_f], by simp [A0, A1, A2, A3, A4, A15, A12, A13, A14, hst, add_f], by simp [A0, A1, A2, A3, A4, A15, A12, A13, A14, hst, add_f], by simp [A0, A1, A2, A3, A4, A15, A12, A13, A14, hst, add_f], by simp [A0, A1, A2, A3, A4, A15, A12, A13, A14, hst, add_f], by simp [A0, A1, A2, A3, A4, A15, A12, A13, A14, hst, add_f], by simp [A0, A1, A2, A3, A4, A15, A12, A13, A14, hst, add_f], by simp [A0, A1, A2, A3, A4, A15, A12, A13, A14, hst, add_f], by omega⟩
         | false =>
          rw [if_neg (by simp [hle])] at hst
          rw [add_f] at hle
          repeat' (first | ((first | refine wpc_split _ ?_ ?_ | refine ww_split _ ?_ ?_) <;> intro hc <;> try simp at hc) | (refine wp_drawF (by decide +kernel) ?_) | refine wk_yldW _ ?_ | refine layOwe _ (by kernel_rfl) ?_ | refine owe ?_ (fun ho => ?_) | (simp (disch := first | assumption | omega | (simp; done) | (simp; omega)) [A0, A1, A2, A3, A4, A15, A12, A13, A14, hk, ck1, ck2, hst2, htu, ho, hc, rc, apH, hle, -getElem?_pos, gZ, gS]))
          all_goals try (exfalso; omega)
          exact Aih (Am - 1) _ _ (by omega) ⟨k + 1, q1, q2, by simp [A0, A1, A2, A3, A4, A15, A12, A13, A14, hst], by simp [A0, A1, A2, A3, A4, A15, A12, A13, A14, hst], by simp [A0, A1, A2, A3, A4, A15, A12, A13, A14, hst], by simp [A0, A1, A2, A3, A4, A15, A12, A13, A14, hst], by simp [A0, A1, A2, A3, A4, A15, A12, A13, A14, hst], by simp [A0, A1, A2, A3, A4, A15, A12, A13, A14, hst], by simp [A0, A1, A2, A3, A4, A15, A12, A13, A14, hst], by simp [A0, A1, A2, A3, A4, A15, A12, A13, A14, hst], by simp [A0, A1, A2, A3, A4, A15, A12, A13, A14, hst], by omega⟩
     ·have hon : onWay t (costZ t) w k = false := by unfold onWay; rw [ho, Bool.true_and]; exact decide_eq_false hc
      rw [hon, if_neg (by simp)] at hst
      clear ih
      repeat' (first | ((first | refine wpc_split _ ?_ ?_ | refine ww_split _ ?_ ?_) <;> intro hc <;> try simp at hc) | (refine wp_drawF (by decide +kernel) ?_) | refine wk_yldW _ ?_ | refine layOwe _ (by kernel_rfl) ?_ | refine owe ?_ (fun ho => ?_) | (simp (disch := first | assumption | omega | (simp; done) | (simp; omega)) [A0, A1, A2, A3, A4, A15, A12, A13, A14, hk, ho, ck1, ck2, hc, -getElem?_pos, gZ, gS]))
      all_goals try (exfalso; omega)
      exact Aih (Am - 1) _ _ (by omega) ⟨k + 1, q1, q2, by simp [A0, A1, A2, A3, A4, A15, A12, A13, A14, hst], by simp [A0, A1, A2, A3, A4, A15, A12, A13, A14, hst], by simp [A0, A1, A2, A3, A4, A15, A12, A13, A14, hst], by simp [A0, A1, A2, A3, A4, A15, A12, A13, A14, hst], by simp [A0, A1, A2, A3, A4, A15, A12, A13, A14, hst], by simp [A0, A1, A2, A3, A4, A15, A12, A13, A14, hst], by simp [A0, A1, A2, A3, A4, A15, A12, A13, A14, hst], by simp [A0, A1, A2, A3, A4, A15, A12, A13, A14, hst], by simp [A0, A1, A2, A3, A4, A15, A12, A13, A14, hst], by omega⟩
   ·obtain rfl : k = t.length := by omega
    repeat' (first | ((first | refine wpc_split _ ?_ ?_ | refine ww_split _ ?_ ?_) <;> intro hc <;> try simp at hc) | (refine wp_drawF (by kernel_rfl) ?_) | refine wk_yldW _ ?_ | refine layOwe _ (by kernel_rfl) ?_ | refine owe ?_ (fun ho => ?_) | (simp (disch := first | assumption | omega | (simp; done) | (simp; omega)) [A0, A1, A2, A3, A4, A15, A12, A13, A14, -getElem?_pos, gZ, gS]))
    all_goals try (exfalso; omega)
end Go.Ab
namespace Go.Ab
open Go.Proofs
set_option maxRecDepth 100000
set_option maxHeartbeats 4000000
noncomputable def valT (t : List Sgn) (i : Nat) (n co : Int) (w : List Int) (m : Nat) : V := match m with
 | 0 => R fl0 eZ t | 1 => .int .i64 i | 2 => .rptr (.str (nth t i).text :: R fl0 eI (nth t i).cells :: rows eZ (t.drop (i + 1))) | 3 => .rptr (R fl0 eI (nth t i).cells :: rows eZ (t.drop (i + 1))) | 4 => R fl0 eI (nth t i).cells | 5 => .int .i64 (nth t i).cells.length | 6 => .int .i64 n | 7 => .int .i64 ((nth t i).cells.length + n) | 8 => R fl0 (eR eI) (restsZ t) | 9 => R fl0 eI ((restsZ t).map (costZ t)) | 10 => R fl0 eI w | 11 => .int .i64 co | _ => .int .i64 ((nth t i).cells.length + n + co)
theorem regT_wp {t : List Sgn} {i : Nat} {n : Int} {w : List Int} {f : Nat → V} {h : Heap} {d : List Def} {p : Pan} {ro : Option Nat} {K : List Fr} {Q : Ax → St → Prop} {id : Nat} (ht : sTab t) (hi : i < t.length) (hw : KeyZ t w)
  (hn1 : 0 ≤ n) (hn2 : n ≤ 4)
  (h0 : f 0 = R fl0 eZ t) (h12 : f 12 = .int .i64 i) (h15 : f 15 = .int .i64 n) (h7 : f 7 = R fl0 (eR eI) (restsZ t)) (h8 : f 8 = R fl0 eI ((restsZ t).map (costZ t))) (h14 : f 14 = R fl0 eI w)
  (kk : ∀ f', f' 18 = .int .i64 ((nth t i).cells.length + n + costZ t w) → (∀ j, (j < 18 ∨ 18 < j) → (j < 61 ∨ 73 < j) → f' j = f j) → dn cfg .normal ⟨tab 120 f', h, d, p, ro⟩ K Q) :
  wp cfg (.region id (drawAt Tryd.f20 1) true) ⟨tab 120 f, h, d, p, ro⟩ K Q := by
 have hlc : lcBad cfg (drawAt Tryd.f20 1) = true := by kernel_rfl
 have cs := fun (h : Heap) => costK ht hw fl0 fl0 fl0 h
 obtain ⟨c1, c2⟩ := costZ_nn t w
 unfold neverZ at c2
 obtain ⟨e1, e2, e3⟩ := ht.2 i hi
 generalize hco : costZ t w = co at *
 refine wp_sem (by simp [drawOk, drawOkT, hlc]) (semOk_list (valT t i n co w) (fun _ => h) (by kernel_rfl) (by kernel_rfl) (by kernel_rfl) rfl ?_ (fun _ _ _ => rfl)) ?_
 ·refine ⟨?_, ?_, ?_, ?_, ?_, ?_, ?_, ?_, ?_, ?_, ?_, ?_, ?_, ?_, trivial⟩
  all_goals intro S ev hcl haf hS he
  ·have x0 : ev (.tmp 0) = R fl0 eZ t := by rw [ev_old he 0 (by kernel_rfl), ← h0]; rfl
   simp [eff, opR, x0, valT]
  ·have x0 : ev (.tmp 12) = .int .i64 i := by rw [ev_old he 12 (by kernel_rfl), ← h12]; rfl
   simp [eff, opR, x0, valT]
  ·have x0 : ev (.tmp 61) = R fl0 eZ t := ev_by he haf 0 61 (by kernel_rfl) (by simp)
   have x1 : ev (.tmp 62) = .int .i64 i := ev_by he haf 1 62 (by kernel_rfl) (by simp)
   simp (disch := first | assumption | omega | (simp; done) | (simp; omega)) [-getElem?_pos, gZ, gS, eff, opR, x0, x1, valT, hi, eZ]
  ·have x0 : ev (.tmp 63) = .rptr (.str (nth t i).text :: R fl0 eI (nth t i).cells :: rows eZ (t.drop (i + 1))) := ev_by he haf 2 63 (by kernel_rfl) (by simp)
   simp (disch := first | assumption | omega | (simp; done) | (simp; omega)) [-getElem?_pos, gZ, gS, eff, opR, x0, valT]
  ·have x0 : ev (.tmp 64) = .rptr (R fl0 eI (nth t i).cells :: rows eZ (t.drop (i + 1))) := ev_by he haf 3 64 (by kernel_rfl) (by simp)
   simp (disch := first | assumption | omega | (simp; done) | (simp; omega)) [-getElem?_pos, gZ, gS, eff, opR, x0, valT]
  ·have x0 : ev (.tmp 65) = R fl0 eI (nth t i).cells := ev_by he haf 4 65 (by kernel_rfl) (by simp)
   simp (disch := first | assumption | omega | (simp; done) | (simp; omega)) [-getElem?_pos, gZ, gS, eff, opR, x0, valT]
  ·have x0 : ev (.tmp 15) = .int .i64 n := by rw [ev_old he 15 (by kernel_rfl), ← h15]; rfl
   simp [eff, opR, x0, valT]
  ·have x0 : ev (.tmp 66) = .int .i64 (nth t i).cells.length := ev_by he haf 5 66 (by kernel_rfl) (by simp)
   have x1 : ev (.tmp 67) = .int .i64 n := ev_by he haf 6 67 (by kernel_rfl) (by simp)
   simp (disch := first | assumption | omega | (simp; done) | (simp; omega)) [-getElem?_pos, gZ, gS, eff, opR, x0, x1, valT]
   all_goals omega
  ·have x0 : ev (.tmp 7) = R fl0 (eR eI) (restsZ t) := by rw [ev_old he 7 (by kernel_rfl), ← h7]; rfl
   simp [eff, opR, x0, valT]
  ·have x0 : ev (.tmp 8) = R fl0 eI ((restsZ t).map (costZ t)) := by rw [ev_old he 8 (by kernel_rfl), ← h8]; rfl
   simp [eff, opR, x0, valT]
  ·have x0 : ev (.tmp 14) = R fl0 eI w := by rw [ev_old he 14 (by kernel_rfl), ← h14]; rfl
   simp [eff, opR, x0, valT]
  ·have x0 : ev (.tmp 69) = R fl0 (eR eI) (restsZ t) := ev_by he haf 8 69 (by kernel_rfl) (by simp)
   have x1 : ev (.tmp 70) = R fl0 eI ((restsZ t).map (costZ t)) := ev_by he haf 9 70 (by kernel_rfl) (by simp)
   have x2 : ev (.tmp 71) = R fl0 eI w := ev_by he haf 10 71 (by kernel_rfl) (by simp)
   have xf := he.func 52
   simp (disch := first | assumption | omega | (simp; done) | (simp; omega)) [-getElem?_pos, gZ, gS, eff, opR, x0, x1, x2, xf, valT, cs]
  ·have x0 : ev (.tmp 68) = .int .i64 ((nth t i).cells.length + n) := ev_by he haf 7 68 (by kernel_rfl) (by simp)
   have x1 : ev (.tmp 72) = .int .i64 co := ev_by he haf 11 72 (by kernel_rfl) (by simp)
   simp (disch := first | assumption | omega | (simp; done) | (simp; omega)) [-getElem?_pos, gZ, gS, eff, opR, x0, x1, valT]
   all_goals omega
  ·have x0 : ev (.tmp 73) = .int .i64 ((nth t i).cells.length + n + co) := ev_by he haf 12 73 (by kernel_rfl) (by simp)
   simp (disch := first | assumption | omega | (simp; done) | (simp; omega)) [-getElem?_pos, gZ, gS, eff, opR, x0, valT]
 ·simp only [Tryd.f20, drawAt, drawsOf, codeOf, Option.getD, List.append, List.nil_append, List.cons_append, List.append_nil, List.getD, gZ, gS]
  repeat' (first | ((first | refine wpc_split _ ?_ ?_ | refine ww_split _ ?_ ?_) <;> intro hc <;> try simp at hc) | (refine wp_drawF (by kernel_rfl) ?_) | refine wk_yldW _ ?_ | refine layOwe _ (by kernel_rfl) ?_ | refine owe ?_ (fun ho => ?_) | (simp (disch := first | assumption | omega | (simp; done) | (simp; omega)) [h0, h12, h15, h7, h8, h14, hi, cs, -getElem?_pos, gZ, gS]))
  all_goals try (exfalso; omega)
  exact kk _ (by simp) (fun j hj1 hj2 => by simp only [upd]; repeat rw [if_neg (by omega)])
end Go.Ab
namespace Go.Ab
open Go.Proofs
set_option maxRecDepth 100000
set_option maxHeartbeats 8000000
theorem fin_S {t : List Sgn} (ht : sTab t) (hs : smZs t) {w : List Int} {a : Bool} (hw : KeyZ t w) (q1 q2 q3 q4 : Fl) (h : Heap) :
  Ci cfg (.func (.func 53) [] []) [R q1 eZ t, R q2 (eR eI) (restsZ t), R q3 eI ((restsZ t).map (costZ t)), R q4 eI w, .bool a] h = some (.ret (.tuple [R fl0 eI (finZ t (costZ t) w a).1, R fl0 eI (finZ t (costZ t) w a).2]), h) :=
 Ci_K cfg rfl rfl (by simp) (by simp) (fin_K ht hs (phiZ (costZ t) w + 1) (by
  have h1 := (hw.dots ht).2
  have h2 := (costZ_nn t w).2
  unfold phiZ
  unfold neverZ at h2
  omega) w a hw (Nat.lt_succ_self _))
theorem C20 (t : List Sgn) (hs : smZs t) : Kc cfg 20 [R fl0 eZ t] (.ret (.tuple [R fl0 eI (twiceZ t).1, R fl0 eI (twiceZ t).2.1, .bool (twiceZ t).2.2.1, .int .i64 (twiceZ t).2.2.2])) := by
 have hs1 := hs.1
 by_cases hc : checkZ t = 0
 ·have ht := sTab_of hc
  have htl := ht.1
  have hE : twiceZ t = ((allSt t (costZ t) t.length).2.1, (allSt t (costZ t) t.length).2.2, decide ((allSt t (costZ t) t.length).1 < neverZ), 0) := by unfold twiceZ; rw [if_neg (by simp [hc])]
  rw [hE]
  refine outS_of_wp cfg (fn := Tryd.f20) Tryd.func20 rfl (by simp [Tryd.f20]) ?_
  simp (disch := first | assumption | omega | (simp; done) | (simp; omega)) [-getElem?_pos, gZ, gS, Tryd.f20, hc, emptyH]
  repeat' (first | ((first | refine wpc_split _ ?_ ?_ | refine ww_split _ ?_ ?_) <;> intro hc <;> try simp at hc) | (refine wp_drawF (by kernel_rfl) ?_) | refine wk_yldW _ ?_ | refine layOwe _ (by kernel_rfl) ?_ | refine owe ?_ (fun ho => ?_) | (simp (disch := first | assumption | omega | (simp; done) | (simp; omega)) [hc, emptyH, ht, -getElem?_pos, gZ, gS]))
  all_goals try (exfalso; omega)
  refine wp_loopE cfg rfl (fun f0 h0 m fr h => ∃ i : Nat, ∃ qa : Fl, ∃ qb : Fl, fr 0 = f0 0 ∧ fr 7 = f0 7 ∧ fr 8 = f0 8 ∧ fr 12 = .int .i64 i ∧ fr 9 = .int .i64 (allSt t (costZ t) i).1 ∧ fr 10 = R qa eI (allSt t (costZ t) i).2.1 ∧ fr 11 = R qb eI (allSt t (costZ t) i).2.2 ∧ (i + m = t.length) ∧ ((allSt t (costZ t) i).2.1.length ≤ 4194304 ∧ (allSt t (costZ t) i).2.2.length ≤ 4194304)) (t.length) _ _ ⟨0, (true, true, none), (true, true, none), rfl, rfl, rfl, by first | rfl | (simp; done) | (simp [R]; done) | simp [R], rfl, by simp [R, allSt], by simp [R, allSt], by first | rfl | (simp; done) | omega, ⟨Nat.zero_le _, Nat.zero_le _⟩⟩ ?_
  rintro Bm Bf Bh ⟨i, qa, qb, B0, B7, B8, B12, B9, B10, B11, hm2, hl2⟩ Bih
  try simp at B0 B7 B8
  by_cases hi2 : i < t.length
  ·obtain ⟨e1, e2, e3⟩ := ht.2 i hi2
   have hall := allSt_succ t (costZ t) i
   repeat' (first | ((first | refine wpc_split _ ?_ ?_ | refine ww_split _ ?_ ?_) <;> intro hc <;> try simp at hc) | (refine wp_drawF (by kernel_rfl) ?_) | refine wk_yldW _ ?_ | refine layOwe _ (by kernel_rfl) ?_ | refine owe ?_ (fun ho => ?_) | (simp (disch := first | assumption | omega | (simp; done) | (simp; omega)) [B0, B7, B8, B12, B9, B10, B11, hi2, -getElem?_pos, gZ, gS]))
   all_goals try (exfalso; omega)
   refine wp_loopE cfg rfl (fun f0 h0 m fr h => ∃ d : Nat, ∃ ra : Fl, ∃ rb : Fl, fr 0 = f0 0 ∧ fr 7 = f0 7 ∧ fr 8 = f0 8 ∧ fr 12 = f0 12 ∧ fr 13 = .int .i64 ((i : Int) + 1 + d) ∧ fr 9 = .int .i64 (rowSt t (costZ t) i d (allSt t (costZ t) i)).1 ∧ fr 10 = R ra eI (rowSt t (costZ t) i d (allSt t (costZ t) i)).2.1 ∧ fr 11 = R rb eI (rowSt t (costZ t) i d (allSt t (costZ t) i)).2.2 ∧ (i + 1 + d + m = t.length) ∧ ((rowSt t (costZ t) i d (allSt t (costZ t) i)).2.1.length ≤ 4194304 ∧ (rowSt t (costZ t) i d (allSt t (costZ t) i)).2.2.length ≤ 4194304)) (t.length - (i + 1)) _ _ ⟨0, qa, qb, rfl, rfl, rfl, rfl, by simp, by simp [B9, rowSt], by simp [B10, rowSt], by simp [B11, rowSt], by first | rfl | (simp; done) | omega, hl2⟩ ?_
   rintro Cm Cf Ch ⟨d, ra, rb, C0, C7, C8, C12, C13, C9, C10, C11, hm3, hl3⟩ Cih
   try simp [B0, B7, B8, B12, B9, B10, B11] at C0 C7 C8 C12
   by_cases hk : i + 1 + d < t.length
   ·have hrow := rowSt_succ t (costZ t) i d (allSt t (costZ t) i)
    obtain ⟨k, hkk⟩ : ∃ k, k = i + 1 + d := ⟨_, rfl⟩
    have hki : (i : Int) + 1 + d = (k : Int) := by omega
    rw [← hkk] at hrow hk
    rw [hki] at C13
    have hk2 : (k : Int) + 1 = (i : Int) + 1 + ((d : Int) + 1) := by omega
    have hkz := KeyZ.pair ht hi2 hk
    have ck := costK ht hkz
    have hnn := stepZ_nn (nth t i).cells (nth t k).cells
    obtain ⟨c1, c2⟩ := costZ_nn t (stepZ (nth t i).cells (nth t k).cells).1
    unfold neverZ at c2
    obtain ⟨k1, k2, k3⟩ := ht.2 k hk
    have hx4 : (stepZ (nth t i).cells (nth t k).cells).2.1 ≤ 4 := by
     unfold stepZ
     split
     ·simp
     ·split
      ·simp only; omega
      ·simp
    have fk := fin_S ht hs (a := !(stepZ (nth t i).cells (nth t k).cells).2.2.1) hkz
    have hlz := len_fin t (costZ t) (phiZ (costZ t) (stepZ (nth t i).cells (nth t k).cells).1 + 1) (stepZ (nth t i).cells (nth t k).cells).1 (!(stepZ (nth t i).cells (nth t k).cells).2.2.1)
    have hphi : phiZ (costZ t) (stepZ (nth t i).cells (nth t k).cells).1 + 1 ≤ 4000000 := by unfold phiZ; have := (hkz.dots ht).2; omega
    have hwl := (hkz.dots ht).2
    have htry := hrow
    rw [trySt_eq] at htry
    clear hrow
    unfold finZ at fk htry
    generalize hS : rowSt t (costZ t) i d (allSt t (costZ t) i) = S at *
    obtain ⟨le, sa, sb⟩ := S
    simp only at C9 C10 C11 hl3 htry
    generalize hst : stepZ (nth t i).cells (nth t k).cells = st at *
    cases ho : st.2.2.2 with
    | false =>
     rw [if_pos (.inl ho)] at htry
     repeat' (first | ((first | refine wpc_split _ ?_ ?_ | refine ww_split _ ?_ ?_) <;> intro hc <;> try simp at hc) | (refine wp_drawF (by decide +kernel) ?_) | refine wk_yldW _ ?_ | refine layOwe _ (by kernel_rfl) ?_ | refine owe ?_ (fun ho => ?_) | (simp (disch := first | assumption | omega | (simp; done) | (simp; omega)) [C0, C7, C8, C12, C13, C9, C10, C11, B0, B7, B8, B12, B9, B10, B11, hi2, hk, hst, -getElem?_pos, gZ, gS]))
     refine regT_wp (t := t) (i := i) (n := st.2.1) (w := st.1) ht hi2 hkz hnn hx4 (by simp [C0, B0]) (by simp [C12]) (by simp) (by simp [C7, B7]) (by simp [C8, B8]) (by simp) (fun f' hf18 hf' => ?_)
     repeat' (first | ((first | refine wpc_split _ ?_ ?_ | refine ww_split _ ?_ ?_) <;> intro hc <;> try simp at hc) | (refine wp_drawF (by decide +kernel) ?_) | refine wk_yldW _ ?_ | refine layOwe _ (by kernel_rfl) ?_ | refine owe ?_ (fun ho => ?_) | (simp (disch := first | assumption | omega | (simp; done) | (simp; omega)) [C0, C7, C8, C12, C13, C9, C10, C11, B0, B7, B8, B12, B9, B10, B11, hi2, hk, hst, ho, ck, hf18, hf', -getElem?_pos, gZ, gS]))
     all_goals try (exfalso; omega)
     exact Cih (Cm - 1) _ _ (by omega) ⟨d + 1, ra, rb, by simp [C0, C7, C8, C12, C13, C9, C10, C11, B0, B7, B8, B12, B9, B10, B11, htry, hk2, hf'], by simp [C0, C7, C8, C12, C13, C9, C10, C11, B0, B7, B8, B12, B9, B10, B11, htry, hk2, hf'], by simp [C0, C7, C8, C12, C13, C9, C10, C11, B0, B7, B8, B12, B9, B10, B11, htry, hk2, hf'], by simp [C0, C7, C8, C12, C13, C9, C10, C11, B0, B7, B8, B12, B9, B10, B11, htry, hk2, hf'], by simp [C0, C7, C8, C12, C13, C9, C10, C11, B0, B7, B8, B12, B9, B10, B11, htry, hk2, hf'], by simp [C0, C7, C8, C12, C13, C9, C10, C11, B0, B7, B8, B12, B9, B10, B11, htry, hk2, hf'], by simp [C0, C7, C8, C12, C13, C9, C10, C11, B0, B7, B8, B12, B9, B10, B11, htry, hk2, hf'], by simp [C0, C7, C8, C12, C13, C9, C10, C11, B0, B7, B8, B12, B9, B10, B11, htry, hk2, hf'], by omega, (by rw [htry]; exact hl3)⟩
    | true =>
     by_cases h1 : 1048576 ≤ ((nth t i).cells.length : Int) + st.2.1 + costZ t st.1
     ·rw [if_pos (.inr (.inl h1))] at htry
      repeat' (first | ((first | refine wpc_split _ ?_ ?_ | refine ww_split _ ?_ ?_) <;> intro hc <;> try simp at hc) | (refine wp_drawF (by decide +kernel) ?_) | refine wk_yldW _ ?_ | refine layOwe _ (by kernel_rfl) ?_ | refine owe ?_ (fun ho => ?_) | (simp (disch := first | assumption | omega | (simp; done) | (simp; omega)) [C0, C7, C8, C12, C13, C9, C10, C11, B0, B7, B8, B12, B9, B10, B11, hi2, hk, hst, -getElem?_pos, gZ, gS]))
      refine regT_wp (t := t) (i := i) (n := st.2.1) (w := st.1) ht hi2 hkz hnn hx4 (by simp [C0, B0]) (by simp [C12]) (by simp) (by simp [C7, B7]) (by simp [C8, B8]) (by simp) (fun f' hf18 hf' => ?_)
      repeat' (first | ((first | refine wpc_split _ ?_ ?_ | refine ww_split _ ?_ ?_) <;> intro hc <;> try simp at hc) | (refine wp_drawF (by decide +kernel) ?_) | refine wk_yldW _ ?_ | refine layOwe _ (by kernel_rfl) ?_ | refine owe ?_ (fun ho => ?_) | (simp (disch := first | assumption | omega | (simp; done) | (simp; omega)) [C0, C7, C8, C12, C13, C9, C10, C11, B0, B7, B8, B12, B9, B10, B11, hi2, hk, hst, ho, ck, h1, hf18, hf', -getElem?_pos, gZ, gS]))
      all_goals try (exfalso; omega)
      exact Cih (Cm - 1) _ _ (by omega) ⟨d + 1, ra, rb, by simp [C0, C7, C8, C12, C13, C9, C10, C11, B0, B7, B8, B12, B9, B10, B11, htry, hk2, hf'], by simp [C0, C7, C8, C12, C13, C9, C10, C11, B0, B7, B8, B12, B9, B10, B11, htry, hk2, hf'], by simp [C0, C7, C8, C12, C13, C9, C10, C11, B0, B7, B8, B12, B9, B10, B11, htry, hk2, hf'], by simp [C0, C7, C8, C12, C13, C9, C10, C11, B0, B7, B8, B12, B9, B10, B11, htry, hk2, hf'], by simp [C0, C7, C8, C12, C13, C9, C10, C11, B0, B7, B8, B12, B9, B10, B11, htry, hk2, hf'], by simp [C0, C7, C8, C12, C13, C9, C10, C11, B0, B7, B8, B12, B9, B10, B11, htry, hk2, hf'], by simp [C0, C7, C8, C12, C13, C9, C10, C11, B0, B7, B8, B12, B9, B10, B11, htry, hk2, hf'], by simp [C0, C7, C8, C12, C13, C9, C10, C11, B0, B7, B8, B12, B9, B10, B11, htry, hk2, hf'], by omega, (by rw [htry]; exact hl3)⟩
     ·by_cases h2 : le < ((nth t i).cells.length : Int) + st.2.1 + costZ t st.1
      ·rw [if_pos (.inr (.inr h2))] at htry
       repeat' (first | ((first | refine wpc_split _ ?_ ?_ | refine ww_split _ ?_ ?_) <;> intro hc <;> try simp at hc) | (refine wp_drawF (by decide +kernel) ?_) | refine wk_yldW _ ?_ | refine layOwe _ (by kernel_rfl) ?_ | refine owe ?_ (fun ho => ?_) | (simp (disch := first | assumption | omega | (simp; done) | (simp; omega)) [C0, C7, C8, C12, C13, C9, C10, C11, B0, B7, B8, B12, B9, B10, B11, hi2, hk, hst, -getElem?_pos, gZ, gS]))
       refine regT_wp (t := t) (i := i) (n := st.2.1) (w := st.1) ht hi2 hkz hnn hx4 (by simp [C0, B0]) (by simp [C12]) (by simp) (by simp [C7, B7]) (by simp [C8, B8]) (by simp) (fun f' hf18 hf' => ?_)
       repeat' (first | ((first | refine wpc_split _ ?_ ?_ | refine ww_split _ ?_ ?_) <;> intro hc <;> try simp at hc) | (refine wp_drawF (by decide +kernel) ?_) | refine wk_yldW _ ?_ | refine layOwe _ (by kernel_rfl) ?_ | refine owe ?_ (fun ho => ?_) | (simp (disch := first | assumption | omega | (simp; done) | (simp; omega)) [C0, C7, C8, C12, C13, C9, C10, C11, B0, B7, B8, B12, B9, B10, B11, hi2, hk, hst, ho, ck, h1, h2, hf18, hf', -getElem?_pos, gZ, gS]))
       all_goals try (exfalso; omega)
       exact Cih (Cm - 1) _ _ (by omega) ⟨d + 1, ra, rb, by simp [C0, C7, C8, C12, C13, C9, C10, C11, B0, B7, B8, B12, B9, B10, B11, htry, hk2, hf'], by simp [C0, C7, C8, C12, C13, C9, C10, C11, B0, B7, B8, B12, B9, B10, B11, htry, hk2, hf'], by simp [C0, C7, C8, C12, C13, C9, C10, C11, B0, B7, B8, B12, B9, B10, B11, htry, hk2, hf'], by simp [C0, C7, C8, C12, C13, C9, C10, C11, B0, B7, B8, B12, B9, B10, B11, htry, hk2, hf'], by simp [C0, C7, C8, C12, C13, C9, C10, C11, B0, B7, B8, B12, B9, B10, B11, htry, hk2, hf'], by simp [C0, C7, C8, C12, C13, C9, C10, C11, B0, B7, B8, B12, B9, B10, B11, htry, hk2, hf'], by simp [C0, C7, C8, C12, C13, C9, C10, C11, B0, B7, B8, B12, B9, B10, B11, htry, hk2, hf'], by simp [C0, C7, C8, C12, C13, C9, C10, C11, B0, B7, B8, B12, B9, B10, B11, htry, hk2, hf'], by omega, (by rw [htry]; exact hl3)⟩
      ·rw [if_neg (by simp [ho, neverZ]; omega)] at htry
       obtain ⟨q1, q2⟩ := hlz
       generalize hq : finF t (costZ t) (phiZ (costZ t) st.1 + 1) st.1 (!st.2.2.1) = q at *
       have hlen : ((i : Int) :: q.1).length ≤ 4194304 ∧ ((k : Int) :: q.2).length ≤ 4194304 := by simp only [List.length_cons]; omega
       have hm1 : q.1.length + 1 ≤ 4294967296 := by omega
       have hm2' : q.2.length + 1 ≤ 4294967296 := by omega
       have hm3' : (q.1.length : Int) + 1 < 1099511627776 := by omega
       have hm4' : (q.2.length : Int) + 1 < 1099511627776 := by omega
       by_cases hcond : ((nth t i).cells.length : Int) + st.2.1 + costZ t st.1 < le ∨ lessZ ((i : Int) :: q.1, (k : Int) :: q.2) (sa, sb) = true
       ·rw [if_pos hcond] at htry
        rcases hcond with h3 | h3
        ·skip
         repeat' (first | ((first | refine wpc_split _ ?_ ?_ | refine ww_split _ ?_ ?_) <;> intro hc <;> try simp at hc) | (refine wp_drawF (by decide +kernel) ?_) | refine wk_yldW _ ?_ | refine layOwe _ (by kernel_rfl) ?_ | refine owe ?_ (fun ho => ?_) | (simp (disch := first | assumption | omega | (simp; done) | (simp; omega)) [C0, C7, C8, C12, C13, C9, C10, C11, B0, B7, B8, B12, B9, B10, B11, hi2, hk, hst, -getElem?_pos, gZ, gS]))
         refine regT_wp (t := t) (i := i) (n := st.2.1) (w := st.1) ht hi2 hkz hnn hx4 (by simp [C0, B0]) (by simp [C12]) (by simp) (by simp [C7, B7]) (by simp [C8, B8]) (by simp) (fun f' hf18 hf' => ?_)
         repeat' (first | ((first | refine wpc_split _ ?_ ?_ | refine ww_split _ ?_ ?_) <;> intro hc <;> try simp at hc) | (refine wp_drawF (by decide +kernel) ?_) | refine wk_yldW _ ?_ | refine layOwe _ (by kernel_rfl) ?_ | refine owe ?_ (fun ho => ?_) | (simp (disch := first | assumption | omega | (simp; done) | (simp; omega)) [C0, C7, C8, C12, C13, C9, C10, C11, B0, B7, B8, B12, B9, B10, B11, hi2, hk, hst, ho, ck, h1, h2, h3, fk, apH, hf18, hf', -getElem?_pos, gZ, gS]))
         all_goals try (exfalso; omega)
         all_goals (exact Cih (Cm - 1) _ _ (by omega) ⟨d + 1, apF q.1 Ch.ts, apF q.2 (apT q.1 Ch.ts), by simp [C0, C7, C8, C12, C13, C9, C10, C11, B0, B7, B8, B12, B9, B10, B11, htry, hk2, hf'], by simp [C0, C7, C8, C12, C13, C9, C10, C11, B0, B7, B8, B12, B9, B10, B11, htry, hk2, hf'], by simp [C0, C7, C8, C12, C13, C9, C10, C11, B0, B7, B8, B12, B9, B10, B11, htry, hk2, hf'], by simp [C0, C7, C8, C12, C13, C9, C10, C11, B0, B7, B8, B12, B9, B10, B11, htry, hk2, hf'], by simp [C0, C7, C8, C12, C13, C9, C10, C11, B0, B7, B8, B12, B9, B10, B11, htry, hk2, hf'], by simp [C0, C7, C8, C12, C13, C9, C10, C11, B0, B7, B8, B12, B9, B10, B11, htry, hk2, hf'], by simp [C0, C7, C8, C12, C13, C9, C10, C11, B0, B7, B8, B12, B9, B10, B11, htry, hk2, hf'], by simp [C0, C7, C8, C12, C13, C9, C10, C11, B0, B7, B8, B12, B9, B10, B11, htry, hk2, hf'], by omega, (by rw [htry]; exact hlen)⟩)
        ·skip
         repeat' (first | ((first | refine wpc_split _ ?_ ?_ | refine ww_split _ ?_ ?_) <;> intro hc <;> try simp at hc) | (refine wp_drawF (by decide +kernel) ?_) | refine wk_yldW _ ?_ | refine layOwe _ (by kernel_rfl) ?_ | refine owe ?_ (fun ho => ?_) | (simp (disch := first | assumption | omega | (simp; done) | (simp; omega)) [C0, C7, C8, C12, C13, C9, C10, C11, B0, B7, B8, B12, B9, B10, B11, hi2, hk, hst, -getElem?_pos, gZ, gS]))
         refine regT_wp (t := t) (i := i) (n := st.2.1) (w := st.1) ht hi2 hkz hnn hx4 (by simp [C0, B0]) (by simp [C12]) (by simp) (by simp [C7, B7]) (by simp [C8, B8]) (by simp) (fun f' hf18 hf' => ?_)
         repeat' (first | ((first | refine wpc_split _ ?_ ?_ | refine ww_split _ ?_ ?_) <;> intro hc <;> try simp at hc) | (refine wp_drawF (by decide +kernel) ?_) | refine wk_yldW _ ?_ | refine layOwe _ (by kernel_rfl) ?_ | refine owe ?_ (fun ho => ?_) | (simp (disch := first | assumption | omega | (simp; done) | (simp; omega)) [C0, C7, C8, C12, C13, C9, C10, C11, B0, B7, B8, B12, B9, B10, B11, hi2, hk, hst, ho, ck, h1, h2, h3, fk, apH, hf18, hf', -getElem?_pos, gZ, gS]))
         all_goals try (exfalso; omega)
         all_goals (exact Cih (Cm - 1) _ _ (by omega) ⟨d + 1, apF q.1 Ch.ts, apF q.2 (apT q.1 Ch.ts), by simp [C0, C7, C8, C12, C13, C9, C10, C11, B0, B7, B8, B12, B9, B10, B11, htry, hk2, hf'], by simp [C0, C7, C8, C12, C13, C9, C10, C11, B0, B7, B8, B12, B9, B10, B11, htry, hk2, hf'], by simp [C0, C7, C8, C12, C13, C9, C10, C11, B0, B7, B8, B12, B9, B10, B11, htry, hk2, hf'], by simp [C0, C7, C8, C12, C13, C9, C10, C11, B0, B7, B8, B12, B9, B10, B11, htry, hk2, hf'], by simp [C0, C7, C8, C12, C13, C9, C10, C11, B0, B7, B8, B12, B9, B10, B11, htry, hk2, hf'], by simp [C0, C7, C8, C12, C13, C9, C10, C11, B0, B7, B8, B12, B9, B10, B11, htry, hk2, hf'], by simp [C0, C7, C8, C12, C13, C9, C10, C11, B0, B7, B8, B12, B9, B10, B11, htry, hk2, hf'], by simp [C0, C7, C8, C12, C13, C9, C10, C11, B0, B7, B8, B12, B9, B10, B11, htry, hk2, hf'], by omega, (by rw [htry]; exact hlen)⟩)
       ·rw [if_neg hcond] at htry
        rw [not_or] at hcond
        obtain ⟨h3, h4⟩ := hcond
        have h5 : lessZ ((i : Int) :: q.1, (k : Int) :: q.2) (sa, sb) = false := by simpa using h4
        repeat' (first | ((first | refine wpc_split _ ?_ ?_ | refine ww_split _ ?_ ?_) <;> intro hc <;> try simp at hc) | (refine wp_drawF (by decide +kernel) ?_) | refine wk_yldW _ ?_ | refine layOwe _ (by kernel_rfl) ?_ | refine owe ?_ (fun ho => ?_) | (simp (disch := first | assumption | omega | (simp; done) | (simp; omega)) [C0, C7, C8, C12, C13, C9, C10, C11, B0, B7, B8, B12, B9, B10, B11, hi2, hk, hst, -getElem?_pos, gZ, gS]))
        refine regT_wp (t := t) (i := i) (n := st.2.1) (w := st.1) ht hi2 hkz hnn hx4 (by simp [C0, B0]) (by simp [C12]) (by simp) (by simp [C7, B7]) (by simp [C8, B8]) (by simp) (fun f' hf18 hf' => ?_)
        repeat' (first | ((first | refine wpc_split _ ?_ ?_ | refine ww_split _ ?_ ?_) <;> intro hc <;> try simp at hc) | (refine wp_drawF (by decide +kernel) ?_) | refine wk_yldW _ ?_ | refine layOwe _ (by kernel_rfl) ?_ | refine owe ?_ (fun ho => ?_) | (simp (disch := first | assumption | omega | (simp; done) | (simp; omega)) [C0, C7, C8, C12, C13, C9, C10, C11, B0, B7, B8, B12, B9, B10, B11, hi2, hk, hst, ho, ck, h1, h2, h3, h5, fk, apH, hf18, hf', -getElem?_pos, gZ, gS]))
        all_goals try (exfalso; omega)
        exact Cih (Cm - 1) _ _ (by omega) ⟨d + 1, ra, rb, by simp [C0, C7, C8, C12, C13, C9, C10, C11, B0, B7, B8, B12, B9, B10, B11, htry, hk2, hf'], by simp [C0, C7, C8, C12, C13, C9, C10, C11, B0, B7, B8, B12, B9, B10, B11, htry, hk2, hf'], by simp [C0, C7, C8, C12, C13, C9, C10, C11, B0, B7, B8, B12, B9, B10, B11, htry, hk2, hf'], by simp [C0, C7, C8, C12, C13, C9, C10, C11, B0, B7, B8, B12, B9, B10, B11, htry, hk2, hf'], by simp [C0, C7, C8, C12, C13, C9, C10, C11, B0, B7, B8, B12, B9, B10, B11, htry, hk2, hf'], by simp [C0, C7, C8, C12, C13, C9, C10, C11, B0, B7, B8, B12, B9, B10, B11, htry, hk2, hf'], by simp [C0, C7, C8, C12, C13, C9, C10, C11, B0, B7, B8, B12, B9, B10, B11, htry, hk2, hf'], by simp [C0, C7, C8, C12, C13, C9, C10, C11, B0, B7, B8, B12, B9, B10, B11, htry, hk2, hf'], by omega, (by rw [htry]; exact hl3)⟩
   ·have hd2 : t.length - (i + 1) = d := by omega
    have hkn : ¬ (i : Int) + 1 + d < t.length := by omega
    rw [hd2] at hall
    repeat' (first | ((first | refine wpc_split _ ?_ ?_ | refine ww_split _ ?_ ?_) <;> intro hc <;> try simp at hc) | (refine wp_drawF (by kernel_rfl) ?_) | refine wk_yldW _ ?_ | refine layOwe _ (by kernel_rfl) ?_ | refine owe ?_ (fun ho => ?_) | (simp (disch := first | assumption | omega | (simp; done) | (simp; omega)) [C0, C7, C8, C12, C13, C9, C10, C11, B0, B7, B8, B12, B9, B10, B11, hkn, -getElem?_pos, gZ, gS]))
    all_goals try (exfalso; omega)
    exact Bih (Bm - 1) _ _ (by omega) ⟨i + 1, ra, rb, by simp [C0, C7, C8, C12, C13, C9, C10, C11, B0, B7, B8, B12, B9, B10, B11, hall], by simp [C0, C7, C8, C12, C13, C9, C10, C11, B0, B7, B8, B12, B9, B10, B11, hall], by simp [C0, C7, C8, C12, C13, C9, C10, C11, B0, B7, B8, B12, B9, B10, B11, hall], by simp [C0, C7, C8, C12, C13, C9, C10, C11, B0, B7, B8, B12, B9, B10, B11, hall], by simp [C0, C7, C8, C12, C13, C9, C10, C11, B0, B7, B8, B12, B9, B10, B11, hall], by simp [C0, C7, C8, C12, C13, C9, C10, C11, B0, B7, B8, B12, B9, B10, B11, hall], by simp [C0, C7, C8, C12, C13, C9, C10, C11, B0, B7, B8, B12, B9, B10, B11, hall], by omega, (by rw [hall]; exact hl3)⟩
  ·obtain rfl : i = t.length := by omega
   repeat' (first | ((first | refine wpc_split _ ?_ ?_ | refine ww_split _ ?_ ?_) <;> intro hc <;> try simp at hc) | (refine wp_drawF (by kernel_rfl) ?_) | refine wk_yldW _ ?_ | refine layOwe _ (by kernel_rfl) ?_ | refine owe ?_ (fun ho => ?_) | (simp (disch := first | assumption | omega | (simp; done) | (simp; omega)) [B0, B7, B8, B12, B9, B10, B11, -getElem?_pos, gZ, gS]))
   all_goals try (exfalso; omega)
   all_goals rfl
 ·have hE : twiceZ t = ([], [], false, checkZ t) := by unfold twiceZ; rw [if_pos hc]
  rw [hE]
  refine outS_of_wp cfg (fn := Tryd.f20) Tryd.func20 rfl (by simp [Tryd.f20]) ?_
  simp (disch := first | assumption | omega | (simp; done) | (simp; omega)) [-getElem?_pos, gZ, gS, Tryd.f20, hc, emptyH]
  repeat' (first | ((first | refine wpc_split _ ?_ ?_ | refine ww_split _ ?_ ?_) <;> intro hc <;> try simp at hc) | (refine wp_drawF (by kernel_rfl) ?_) | refine wk_yldW _ ?_ | refine layOwe _ (by kernel_rfl) ?_ | refine owe ?_ (fun ho => ?_) | (simp (disch := first | assumption | omega | (simp; done) | (simp; omega)) [hc, emptyH, -getElem?_pos, gZ, gS]))
  all_goals rfl
@[simp] theorem S20 (t : List Sgn) (hs : smZs t) (q1 : Fl) (hh : Heap) : Ci cfg (.func (.func 20) [] []) [R  q1 eZ t] hh = some (.ret (.tuple [R fl0 eI (twiceZ t).1, R fl0 eI (twiceZ t).2.1, .bool (twiceZ t).2.2.1, .int .i64 (twiceZ t).2.2.2]), hh) :=
 Ci_K cfg rfl rfl (by simp) (by simp) (C20 t hs)
end Go.Ab
namespace Go.Ab
open Go.Proofs
set_option maxRecDepth 100000
set_option maxHeartbeats 4000000
theorem len_cells' {t : List Sgn} (ht : sTab t) : ∀ l : List Nat, (∀ k ∈ l, k < t.length) → l.length ≤ (cellsZ t l).length
 | [], _ => by simp [cellsZ]
 | k :: l, h => by
  have h1 := len_cells' ht l fun j hj => h j (List.mem_cons_of_mem _ hj)
  have h2 := (ht.2 k (h k (List.mem_cons_self ..))).1
  have h3 : cellsZ t (k :: l) = (nth t k).cells ++ cellsZ t l := by simp [cellsZ]
  rw [h3, List.length_append, List.length_cons]; omega
theorem twice_lens (t : List Sgn) : (twiceZ t).1.length < 1099511627776 ∧ (twiceZ t).2.1.length < 1099511627776 := by
 by_cases hc : checkZ t = 0
 ·have ht := sTab_of hc
  have hE : twiceZ t = ((allSt t (costZ t) t.length).2.1, (allSt t (costZ t) t.length).2.2, decide ((allSt t (costZ t) t.length).1 < neverZ), 0) := by unfold twiceZ; rw [if_neg (by simp [hc])]
  rw [hE]
  by_cases hn : (allSt t (costZ t) t.length).1 < neverZ
  ·obtain ⟨a, b, h1, ha, hb, hbef, he, hl, i, k, hi, hk, hok, hnn⟩ := twice_found ht hn
   have hbd := nnT_bound ht hi hk hok
   have hla := len_cells' ht a ha
   have hlb := len_cells' ht b hb
   rw [← he] at hlb
   rw [h1]
   simp only [castL, List.length_map]
   omega
  ·rw [twice_none hn]; simp
 ·have hE : twiceZ t = ([], [], false, checkZ t) := by unfold twiceZ; rw [if_pos hc]
  rw [hE]; simp
theorem C4 (t : List Sgn) (x : List Int) (hs : smZs t) (hl : x.length < 1048577) : Kc cfg 4 [R fl0 eZ t, R fl0 eI x] (.ret (.bool true)) := by
 obtain ⟨l1, l2⟩ := twice_lens t
 cases hf : fewZ t [] with
 | false =>
  refine outS_of_wp cfg (fn := Tryd.f4) Tryd.func4 rfl (by simp [Tryd.f4]) ?_
  simp (disch := first | assumption | omega | (simp; done) | (simp; omega)) [-getElem?_pos, gZ, gS, Tryd.f4, hf, emptyH]
  repeat' (first | ((first | refine wpc_split _ ?_ ?_ | refine ww_split _ ?_ ?_) <;> intro hc <;> try simp at hc) | refine wk_yldW _ ?_ | refine layOwe _ (by kernel_rfl) ?_ | refine owe ?_ (fun ho => ?_) | (simp (disch := first | assumption | omega | (simp; done) | (simp; omega)) [hf, emptyH, -getElem?_pos, gZ, gS]))
  all_goals try (exfalso; omega)
 | true =>
  by_cases hg : x.length ≤ 40 ∨ 4096 < x.length ∧ x.length ≤ 5000
  ·skip
   refine outS_of_wp cfg (fn := Tryd.f4) Tryd.func4 rfl (by simp [Tryd.f4]) ?_
   simp (disch := first | assumption | omega | (simp; done) | (simp; omega)) [-getElem?_pos, gZ, gS, Tryd.f4, hf, hg, emptyH]
   repeat' (first | ((first | refine wpc_split _ ?_ ?_ | refine ww_split _ ?_ ?_) <;> intro hc <;> try simp at hc) | refine wk_yldW _ ?_ | refine layOwe _ (by kernel_rfl) ?_ | refine owe ?_ (fun ho => ?_) | (simp (disch := first | assumption | omega | (simp; done) | (simp; omega)) [hf, hg, emptyH, -getElem?_pos, gZ, gS]))
   all_goals try (exfalso; omega)
  ·skip
   refine outS_of_wp cfg (fn := Tryd.f4) Tryd.func4 rfl (by simp [Tryd.f4]) ?_
   simp (disch := first | assumption | omega | (simp; done) | (simp; omega)) [-getElem?_pos, gZ, gS, Tryd.f4, hf, hg, emptyH]
   repeat' (first | ((first | refine wpc_split _ ?_ ?_ | refine ww_split _ ?_ ?_) <;> intro hc <;> try simp at hc) | refine wk_yldW _ ?_ | refine layOwe _ (by kernel_rfl) ?_ | refine owe ?_ (fun ho => ?_) | (simp (disch := first | assumption | omega | (simp; done) | (simp; omega)) [hf, hg, emptyH, -getElem?_pos, gZ, gS]))
   all_goals try (exfalso; omega)
@[simp] theorem S4 (t : List Sgn) (x : List Int) (hs : smZs t) (hl : x.length < 1048577) (q1 q2 : Fl) (hh : Heap) : Ci cfg (.func (.func 4) [] []) [R  q1 eZ t, R  q2 eI x] hh = some (.ret (.bool true), hh) :=
 Ci_K cfg rfl rfl (by simp) (by simp) (C4 t x hs hl)
end Go.Ab
