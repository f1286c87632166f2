/- A part of the proof. -/
import Derived.Test.YtippeibeiofmnaaDoorN5
import Derived.Test.YtippeibeiofmnaaDoorGr15
import Derived.Test.YtippeibeiofmnaaDoorGr17
set_option linter.unusedVariables false
set_option linter.unusedSimpArgs false
set_option linter.unusedSectionVars false
set_option linter.deprecated false
namespace Go.Ab
open Go.Proofs
set_option maxRecDepth 100000
theorem befZ_irr : ∀ l : List Int, befZ l l = false
 | [] => rfl
 | x :: l => by rw [befZ, if_pos rfl, befZ_irr l]
theorem befZ_trans : ∀ {a b c : List Int}, befZ a b = true → befZ b c = true → befZ a c = true
 | [], [], _, h, _ => by simp [befZ] at h
 | [], _ :: _, [], _, h => by simp [befZ] at h
 | [], _ :: _, _ :: _, _, _ => rfl
 | _ :: _, [], _, h, _ => by simp [befZ] at h
 | _ :: _, _ :: _, [], _, h => by simp [befZ] at h
 | x :: a, y :: b, z :: c, h, k => by
  rw [befZ] at h k ⊢
  by_cases e : x = y
  ·rw [if_pos e] at h
   by_cases e2 : y = z
   ·rw [if_pos e2] at k
    rw [if_pos (e.trans e2)]
    exact befZ_trans h k
   ·rw [if_neg e2] at k
    rw [if_neg (fun e3 => e2 (e.symm.trans e3)), e]; exact k
  ·rw [if_neg e, decide_eq_true_eq] at h
   by_cases e2 : y = z
   ·rw [if_neg (fun e3 => e (e3.trans e2.symm)), ← e2]; exact decide_eq_true h
   ·rw [if_neg e2, decide_eq_true_eq] at k
    rw [if_neg (by omega)]
    exact decide_eq_true (by omega)
theorem befZ_tri : ∀ {a b : List Int}, a ≠ b → befZ a b = true ∨ befZ b a = true
 | [], [], h => absurd rfl h
 | [], _ :: _, _ => .inl rfl
 | _ :: _, [], _ => .inr rfl
 | x :: a, y :: b, h => by
  rw [befZ, befZ]
  by_cases e : x = y
  ·rw [if_pos e, if_pos e.symm]
   exact befZ_tri (fun e2 => h (by rw [e, e2]))
  ·rw [if_neg e, if_neg (fun e2 => e e2.symm), decide_eq_true_eq, decide_eq_true_eq]
   omega
theorem lessZ_irr (p : List Int × List Int) : lessZ p p = false := by
 unfold lessZ; rw [befZ_irr, befZ_irr]; simp
theorem lessZ_iff {p q : List Int × List Int} : lessZ p q = true ↔ befZ p.1 q.1 = true ∨ (p.1 = q.1 ∧ befZ p.2 q.2 = true) := by
 unfold lessZ
 rw [Bool.or_eq_true, Bool.and_eq_true, decide_eq_true_eq]
theorem lessZ_trans {p q r : List Int × List Int} (h : lessZ p q = true) (k : lessZ q r = true) : lessZ p r = true := by
 rw [lessZ_iff] at h k ⊢
 rcases h with h | ⟨h1, h2⟩
 ·rcases k with k | ⟨k1, k2⟩
  ·exact .inl (befZ_trans h k)
  ·rw [← k1]; exact .inl h
 ·rcases k with k | ⟨k1, k2⟩
  ·rw [h1]; exact .inl k
  ·exact .inr ⟨h1.trans k1, befZ_trans h2 k2⟩
theorem lessZ_tri {p q : List Int × List Int} (h : p ≠ q) : lessZ p q = true ∨ lessZ q p = true := by
 rw [lessZ_iff, lessZ_iff]
 by_cases e : p.1 = q.1
 ·have e2 : p.2 ≠ q.2 := fun e2 => h (Prod.ext e e2)
  rcases befZ_tri e2 with h | h
  ·exact .inl (.inr ⟨e, h⟩)
  ·exact .inr (.inr ⟨e.symm, h⟩)
 ·rcases befZ_tri e with h | h
  ·exact .inl (.inl h)
  ·exact .inr (.inl h)
def leZ (p q : List Int × List Int) : Prop := lessZ q p = false
theorem leZ_refl (p : List Int × List Int) : leZ p p := lessZ_irr p
theorem leZ_iff {p q : List Int × List Int} : leZ p q ↔ p = q ∨ lessZ p q = true := by
 unfold leZ
 constructor
 ·intro h
  by_cases e : p = q
  ·exact .inl e
  ·rcases lessZ_tri e with h2 | h2
   ·exact .inr h2
   ·rw [h2] at h; cases h
 ·rintro (rfl | h)
  ·exact lessZ_irr p
  ·cases h2 : lessZ q p with
   | false => rfl
   | true => have := lessZ_trans h h2; rw [lessZ_irr] at this; cases this
theorem leZ_trans {p q r : List Int × List Int} (h : leZ p q) (k : leZ q r) : leZ p r := by
 rw [leZ_iff] at h k ⊢
 rcases h with rfl | h
 ·exact k
 ·rcases k with rfl | k
  ·exact .inr h
  ·exact .inr (lessZ_trans h k)
theorem leZ_add {a : Bool} {k : Int} {p q : List Int × List Int} (h : leZ p q) : leZ (addZ a k p) (addZ a k q) := by
 unfold leZ lessZ addZ at *
 cases a
 ·simp only [befZ, if_true, List.cons.injEq, true_and, Bool.false_eq_true, if_false] at h ⊢
  exact h
 ·simp only [befZ, if_true] at h ⊢
  exact h
theorem pick_le {b : Option (List Int × List Int)} {p q : List Int × List Int} (h : pickZ b p = some q) : leZ q p ∧ (∀ r, b = some r → leZ q r) ∧ (q = p ∨ b = some q) := by
 unfold pickZ at h
 split at h
 ·simp only [Option.some.injEq] at h
  subst h
  exact ⟨leZ_refl _, fun r hr => (by cases hr), .inl rfl⟩
 ·rename_i r
  split at h
  ·rename_i hl
   simp only [Option.some.injEq] at h
   subst h
   exact ⟨leZ_refl _, fun r' hr => by simp only [Option.some.injEq] at hr; subst hr; exact leZ_iff.2 (.inr hl), .inl rfl⟩
  ·rename_i hl
   simp only [Option.some.injEq] at h
   subst h
   exact ⟨by unfold leZ; simpa using hl, fun r' hr => by simp only [Option.some.injEq] at hr; subst hr; exact leZ_refl _, .inr rfl⟩
theorem pick_some (b : Option (List Int × List Int)) (p : List Int × List Int) : ∃ q, pickZ b p = some q := by
 unfold pickZ
 split
 ·exact ⟨_, rfl⟩
 ·split <;> exact ⟨_, rfl⟩
theorem best_le {t : List Sgn} {c : List Int → Int} {f : Nat} {w : List Int} {a : Bool} : ∀ m, (bestF t c f w a m = none → ∀ k, k < m → onWay t c w k = false) ∧
  ∀ p, bestF t c f w a m = some p → (∃ k, k < m ∧ onWay t c w k = true ∧ p = addZ a k (finF t c f (stepZ w (nth t k).cells).1 (a != (stepZ w (nth t k).cells).2.2.1))) ∧
   ∀ k, k < m → onWay t c w k = true → leZ p (addZ a k (finF t c f (stepZ w (nth t k).cells).1 (a != (stepZ w (nth t k).cells).2.2.1)))
 | 0 => ⟨fun _ k hk => by omega, fun p h => by simp [bestF] at h⟩
 | m + 1 => by
  obtain ⟨i1, i2⟩ := best_le (t := t) (c := c) (f := f) (w := w) (a := a) m
  rw [bestF]
  cases ho : onWay t c w m with
  | false =>
   rw [if_neg (by simp)]
   refine ⟨fun h k hk => ?_, fun p h => ?_⟩
   ·by_cases e : k = m
    ·subst e; exact ho
    ·exact i1 h k (by omega)
   ·obtain ⟨⟨k, k1, k2, k3⟩, h2⟩ := i2 p h
    refine ⟨⟨k, by omega, k2, k3⟩, fun k' hk' ho' => ?_⟩
    by_cases e : k' = m
    ·subst e; rw [ho] at ho'; cases ho'
    ·exact h2 k' (by omega) ho'
  | true =>
   rw [if_pos rfl]
   refine ⟨fun h => ?_, fun p h => ?_⟩
   ·obtain ⟨q, hq⟩ := pick_some (bestF t c f w a m) (addZ a m (finF t c f (stepZ w (nth t m).cells).1 (a != (stepZ w (nth t m).cells).2.2.1)))
    rw [hq] at h; cases h
   ·obtain ⟨p1, p2, p3⟩ := pick_le h
    constructor
    ·rcases p3 with p3 | p3
     ·exact ⟨m, by omega, ho, p3⟩
     ·obtain ⟨⟨k, k1, k2, k3⟩, _⟩ := i2 p p3
      exact ⟨k, by omega, k2, k3⟩
    ·intro k hk hok
     by_cases e : k = m
     ·subst e; exact p1
     ·cases hb : bestF t c f w a m with
      | none => have := i1 hb k (by omega); rw [hok] at this; cases this
      | some r => exact leZ_trans (p2 r hb) ((i2 r hb).2 k (by omega) hok)
def castL (l : List Nat) : List Int := l.map fun (k : Nat) => (k : Int)
structure EndUV (t : List Sgn) (w : List Int) (u v : List Nat) : Prop where
 hu : ∀ k ∈ u, k < t.length
 hv : ∀ k ∈ v, k < t.length
 he : w ++ cellsZ t u = cellsZ t v
def swN (a : Bool) (u v : List Nat) : List Int × List Int := if a then (castL u, castL v) else (castL v, castL u)
theorem pre_app {a b : List Int} (h : a <+: b) : b = a ++ b.drop a.length := by
 obtain ⟨r, rfl⟩ := h
 rw [List.drop_left]
theorem cells_ne {t : List Sgn} (h1 : ∀ k, k < t.length → 1 ≤ (nth t k).cells.length) {l : List Nat} (hl : ∀ k ∈ l, k < t.length) (h : cellsZ t l = []) : l = [] := by
 cases l with
 | nil => rfl
 | cons k l =>
  have h3 := congrArg List.length h
  rw [cellsZ_cons, List.length_append, List.length_nil] at h3
  have h2 := h1 k (hl k List.mem_cons_self)
  omega
theorem EndUV.step {t : List Sgn} {w : List Int} {u v : List Nat} (h : EndUV t w u v) (hw : w ≠ []) : ∃ k v', v = k :: v' ∧ k < t.length ∧ (stepZ w (nth t k).cells).2.2.2 = true ∧
  EndUV t (stepZ w (nth t k).cells).1 (if (stepZ w (nth t k).cells).2.2.1 then v' else u) (if (stepZ w (nth t k).cells).2.2.1 then u else v') ∧
  ((cellsZ t u).length : Int) = (stepZ w (nth t k).cells).2.1 + (cellsZ t (if (stepZ w (nth t k).cells).2.2.1 then v' else u)).length := by
 cases v with
 | nil =>
  have := congrArg List.length h.he
  rw [List.length_append] at this
  have h2 : (cellsZ t []).length = 0 := rfl
  cases w with
  | nil => exact absurd rfl hw
  | cons x l => simp only [List.length_cons] at this; omega
 | cons k v' =>
  have hk := h.hv k List.mem_cons_self
  have hv : ∀ x ∈ v', x < t.length := fun x hx => h.hv x (List.mem_cons_of_mem _ hx)
  refine ⟨k, v', rfl, hk, ?_⟩
  have he := h.he
  rw [cellsZ_cons] at he
  generalize hx : (nth t k).cells = x at *
  by_cases hp : x <+: w
  ·have hpi : preI x w = true := decide_eq_true hp
   have hs : stepZ w x = (w.drop x.length, 0, false, true) := by unfold stepZ; rw [if_pos hpi]
   rw [hs]
   refine ⟨rfl, ⟨h.hu, hv, ?_⟩, by simp⟩
   have h2 := pre_app hp
   rw [h2, List.append_assoc] at he
   exact List.append_cancel_left he
  ·have hpi : ¬ preI x w = true := by simpa [preI] using hp
   have hq : w <+: x := by
    rcases List.prefix_or_prefix_of_prefix (⟨_, he⟩ : w <+: x ++ cellsZ t v') (List.prefix_append x _) with h2 | h2
    ·exact h2
    ·exact absurd h2 hp
   have hqi : preI w x = true := decide_eq_true hq
   have hs : stepZ w x = (x.drop w.length, (x.length : Int) - w.length, true, true) := by unfold stepZ; rw [if_neg hpi, if_pos hqi]
   rw [hs]
   have h2 := pre_app hq
   have h3 : cellsZ t u = x.drop w.length ++ cellsZ t v' := by
    rw [h2, List.append_assoc] at he
    exact List.append_cancel_left he
   refine ⟨rfl, ⟨hv, h.hu, h3.symm⟩, ?_⟩
   have h4 := congrArg List.length h3
   rw [List.length_append, List.length_drop] at h4
   have := hq.length_le
   simp only [if_true]
   omega
theorem EndUV.ends {t : List Sgn} : ∀ (n : Nat) {w : List Int} {u v : List Nat}, u.length + v.length ≤ n → EndUV t w u v → ∃ m : Int, m ≤ (cellsZ t u).length ∧ Ends t w m
 | n, w, u, v, hn, h => by
  by_cases hw : w = []
  ·subst hw
   exact ⟨0, by omega, .nil⟩
  ·obtain ⟨k, v', rfl, hk, ho, h2, h3⟩ := h.step hw
   cases n with
   | zero => simp at hn
   | succ n =>
    have hl : (if (stepZ w (nth t k).cells).2.2.1 then v' else u).length + (if (stepZ w (nth t k).cells).2.2.1 then u else v').length ≤ n := by
     simp only [List.length_cons] at hn
     split <;> omega
    obtain ⟨m, m1, m2⟩ := EndUV.ends n hl h2
    exact ⟨_, by omega, .step hw hk ho m2⟩
theorem EndUV.cost {t : List Sgn} {w : List Int} {u v : List Nat} (h : EndUV t w u v) : costZ t w ≤ (cellsZ t u).length := by
 obtain ⟨m, m1, m2⟩ := h.ends _ (Nat.le_refl _)
 have := (costZ_is t w).2.2 m m2
 omega
theorem EndUV.back {t : List Sgn} {w : List Int} {k : Nat} {u v : List Nat} (hk : k < t.length) (ho : (stepZ w (nth t k).cells).2.2.2 = true) (h : EndUV t (stepZ w (nth t k).cells).1 u v) :
  EndUV t w (if (stepZ w (nth t k).cells).2.2.1 then v else u) (k :: (if (stepZ w (nth t k).cells).2.2.1 then u else v)) ∧
  ((cellsZ t (if (stepZ w (nth t k).cells).2.2.1 then v else u)).length : Int) = (stepZ w (nth t k).cells).2.1 + (cellsZ t u).length := by
 have hcons : ∀ {l : List Nat}, (∀ x ∈ l, x < t.length) → ∀ x ∈ k :: l, x < t.length := fun hl x hx => by
  rcases List.mem_cons.1 hx with rfl | hx
  ·exact hk
  ·exact hl x hx
 generalize hx : (nth t k).cells = x at *
 unfold stepZ at ho h ⊢
 by_cases hp : preI x w = true
 ·rw [if_pos hp] at ho h ⊢
  simp only [Bool.false_eq_true, if_false] at h ⊢
  refine ⟨⟨h.hu, hcons h.hv, ?_⟩, by simp⟩
  rw [cellsZ_cons, hx, ← h.he, ← List.append_assoc, ← pre_app (of_decide_eq_true hp)]
 ·rw [if_neg hp] at ho h ⊢
  by_cases hq : preI w x = true
  ·rw [if_pos hq] at ho h ⊢
   simp only [if_true] at h ⊢
   have h2 := pre_app (of_decide_eq_true hq : w <+: x)
   have hl := (of_decide_eq_true hq : w <+: x).length_le
   refine ⟨⟨h.hv, hcons h.hu, ?_⟩, ?_⟩
   ·rw [cellsZ_cons, hx, ← h.he, ← List.append_assoc, ← h2]
   ·rw [← h.he, List.length_append, List.length_drop]; omega
  ·rw [if_neg hq] at ho
   simp at ho
theorem add_sw (a tu : Bool) (k : Nat) (u v : List Nat) : addZ a k (swN (a != tu) u v) = swN a (if tu then v else u) (k :: (if tu then u else v)) := by
 cases a <;> cases tu <;> rfl
theorem fin_best {t : List Sgn} (ht : ∀ k, k < t.length → 1 ≤ (nth t k).cells.length) : ∀ (f : Nat) (w : List Int) (a : Bool), costZ t w < neverZ → phiZ (costZ t) w < f →
  (∃ u v, EndUV t w u v ∧ ((cellsZ t u).length : Int) = costZ t w ∧ finF t (costZ t) f w a = swN a u v) ∧
  ∀ u v, EndUV t w u v → ((cellsZ t u).length : Int) = costZ t w → leZ (finF t (costZ t) f w a) (swN a u v)
 | 0, w, a, _, h => by omega
 | f + 1, w, a, hc, hf => by
  by_cases hw : w = []
  ·subst hw
   rw [finF_nil]
   refine ⟨⟨[], [], ⟨fun k hk => (by cases hk), fun k hk => (by cases hk), rfl⟩, by rw [costZ_nil]; rfl, by cases a <;> rfl⟩, fun u v h hl => ?_⟩
   rw [costZ_nil] at hl
   have hu : u = [] := cells_ne ht h.hu (List.eq_nil_of_length_eq_zero (by omega))
   subst hu
   have hv : v = [] := cells_ne ht h.hv h.he.symm
   subst hv
   have : swN a [] [] = ([], []) := by cases a <;> rfl
   rw [this]; exact leZ_refl _
  ·rw [finF_best t (costZ t) f hw a]
   obtain ⟨b1, b2⟩ := best_le (t := t) (c := costZ t) (f := f) (w := w) (a := a) t.length
   have hnn := fun w => (costZ_nn t w).1
   have hsub : ∀ k, k < t.length → onWay t (costZ t) w k = true → costZ t (stepZ w (nth t k).cells).1 < neverZ ∧ phiZ (costZ t) (stepZ w (nth t k).cells).1 < f := fun k hk ho => by
    obtain ⟨o1, o2⟩ := onWay_of ho
    have h1 := stepZ_nn w (nth t k).cells
    have h2 := phi_step (c := costZ t) hw (hnn _) (ht k hk) ho
    exact ⟨by omega, by omega⟩
   have hway : ∃ k, k < t.length ∧ onWay t (costZ t) w k = true := by
    rcases (costZ_is t w).2.1 with h | h
    ·omega
    ·generalize hcw : costZ t w = cw at h
     cases h with
     | nil => exact absurd rfl hw
     | @step _ k m _ hk ho hm =>
      refine ⟨k, hk, ?_⟩
      have h1 := costZ_step hk hw ho
      have h2 := (costZ_is t (stepZ w (nth t k).cells).1).2.2 m hm
      unfold onWay
      rw [ho, Bool.true_and]
      exact decide_eq_true (by omega)
   cases hb : bestF t (costZ t) f w a t.length with
   | none =>
    obtain ⟨k, hk, ho⟩ := hway
    rw [b1 hb k hk] at ho; cases ho
   | some p =>
    obtain ⟨⟨k, hk, ho, hp⟩, hmin⟩ := b2 p hb
    rw [Option.getD_some]
    constructor
    ·obtain ⟨s1, s2⟩ := hsub k hk ho
     obtain ⟨u, v, h1, h2, h3⟩ := (fin_best ht f _ (a != (stepZ w (nth t k).cells).2.2.1) s1 s2).1
     obtain ⟨o1, o2⟩ := onWay_of ho
     obtain ⟨g1, g2⟩ := h1.back hk o1
     refine ⟨_, _, g1, by omega, ?_⟩
     rw [hp, h3, add_sw]
    ·intro u v h hl
     obtain ⟨k', v', rfl, hk', ho', h2, h3⟩ := h.step hw
     have hc2 := h2.cost
     have hc3 := costZ_step hk' hw ho'
     have hon : onWay t (costZ t) w k' = true := by
      unfold onWay
      rw [ho', Bool.true_and]
      exact decide_eq_true (by omega)
     obtain ⟨s1, s2⟩ := hsub k' hk' hon
     have h4 := (fin_best ht f _ (a != (stepZ w (nth t k').cells).2.2.1) s1 s2).2 _ _ h2 (by omega)
     have h5 := leZ_add (a := a) (k := (k' : Int)) h4
     rw [add_sw] at h5
     have h6 : swN a (if (stepZ w (nth t k').cells).2.2.1 then (if (stepZ w (nth t k').cells).2.2.1 then u else v') else (if (stepZ w (nth t k').cells).2.2.1 then v' else u)) (k' :: (if (stepZ w (nth t k').cells).2.2.1 then (if (stepZ w (nth t k').cells).2.2.1 then v' else u) else (if (stepZ w (nth t k').cells).2.2.1 then u else v'))) = swN a u (k' :: v') := by
      cases (stepZ w (nth t k').cells).2.2.1 <;> rfl
     rw [h6] at h5
     exact leZ_trans (hmin k' hk' hon) h5
end Go.Ab
namespace Go.Ab
open Go.Proofs
set_option maxRecDepth 100000
noncomputable def nnT (t : List Sgn) (i k : Nat) : Int := ((nth t i).cells.length : Int) + (stepZ (nth t i).cells (nth t k).cells).2.1 + costZ t (stepZ (nth t i).cells (nth t k).cells).1
noncomputable def prT (t : List Sgn) (i k : Nat) : List Int × List Int := ((i : Int) :: (finZ t (costZ t) (stepZ (nth t i).cells (nth t k).cells).1 (!(stepZ (nth t i).cells (nth t k).cells).2.2.1)).1, (k : Int) :: (finZ t (costZ t) (stepZ (nth t i).cells (nth t k).cells).1 (!(stepZ (nth t i).cells (nth t k).cells).2.2.1)).2)
def okT (t : List Sgn) (i k : Nat) : Prop := (stepZ (nth t i).cells (nth t k).cells).2.2.2 = true ∧ nnT t i k < neverZ
theorem trySt_T (t : List Sgn) (i k : Nat) (b : Int × List Int × List Int) : trySt t (costZ t) i k b =
  if (stepZ (nth t i).cells (nth t k).cells).2.2.2 = false ∨ neverZ ≤ nnT t i k ∨ b.1 < nnT t i k then b else if nnT t i k < b.1 ∨ lessZ (prT t i k) (b.2.1, b.2.2) = true then (nnT t i k, (prT t i k).1, (prT t i k).2) else b := rfl
structure TwI (t : List Sgn) (P : Nat → Nat → Prop) (b : Int × List Int × List Int) : Prop where
 st : b = (neverZ, [], []) ∨ ∃ i k, P i k ∧ okT t i k ∧ b = (nnT t i k, (prT t i k).1, (prT t i k).2)
 mn : ∀ i k, P i k → okT t i k → b.1 < nnT t i k ∨ (b.1 = nnT t i k ∧ leZ (b.2.1, b.2.2) (prT t i k))
theorem TwI.try {t : List Sgn} {P Q : Nat → Nat → Prop} {b : Int × List Int × List Int} {i k : Nat} (h : TwI t P b) (hQ : ∀ x y, Q x y ↔ P x y ∨ (x = i ∧ y = k)) : TwI t Q (trySt t (costZ t) i k b) := by
 rw [trySt_T]
 split
 ·rename_i hc
  refine ⟨?_, fun x y hq ho => ?_⟩
  ·rcases h.st with h1 | ⟨x, y, h1, h2, h3⟩
   ·exact .inl h1
   ·exact .inr ⟨x, y, (hQ x y).2 (.inl h1), h2, h3⟩
  ·rcases (hQ x y).1 hq with h1 | ⟨rfl, rfl⟩
   ·exact h.mn x y h1 ho
   ·rcases hc with hc | hc | hc
    ·rw [ho.1] at hc; cases hc
    ·have := ho.2; omega
    ·exact .inl hc
 ·rename_i hc
  have hok : okT t i k := by
   refine ⟨?_, ?_⟩
   ·cases e : (stepZ (nth t i).cells (nth t k).cells).2.2.2 with
    | true => rfl
    | false => exact absurd (.inl e) hc
   ·rcases Int.lt_or_le (nnT t i k) neverZ with h1 | h1
    ·exact h1
    ·exact absurd (.inr (.inl h1)) hc
  have hle : nnT t i k ≤ b.1 := by
   rcases Int.lt_or_le b.1 (nnT t i k) with h1 | h1
   ·exact absurd (.inr (.inr h1)) hc
   ·exact h1
  split
  ·rename_i hl
   refine ⟨.inr ⟨i, k, (hQ i k).2 (.inr ⟨rfl, rfl⟩), hok, rfl⟩, fun x y hq ho => ?_⟩
   rcases (hQ x y).1 hq with h1 | ⟨rfl, rfl⟩
   ·rcases h.mn x y h1 ho with h2 | ⟨h2, h3⟩
    ·left; simp only; omega
    ·rcases hl with hl | hl
     ·left; simp only; omega
     ·by_cases e : nnT t i k = nnT t x y
      ·exact .inr ⟨e, leZ_trans (leZ_iff.2 (.inr hl)) h3⟩
      ·left; simp only; omega
   ·exact .inr ⟨rfl, leZ_refl _⟩
  ·rename_i hl
   refine ⟨?_, fun x y hq ho => ?_⟩
   ·rcases h.st with h1 | ⟨x, y, h1, h2, h3⟩
    ·exact .inl h1
    ·exact .inr ⟨x, y, (hQ x y).2 (.inl h1), h2, h3⟩
   ·rcases (hQ x y).1 hq with h1 | ⟨rfl, rfl⟩
    ·exact h.mn x y h1 ho
    ·right
     refine ⟨?_, ?_⟩
     ·rcases Int.lt_or_le (nnT t x y) b.1 with h1 | h1
      ·exact absurd (.inl h1) hl
      ·omega
     ·unfold leZ
      cases e : lessZ (prT t x y) (b.2.1, b.2.2) with
      | false => rfl
      | true => exact absurd (.inr e) hl
theorem TwI.row {t : List Sgn} {P : Nat → Nat → Prop} {b : Int × List Int × List Int} {i : Nat} (h : TwI t P b) : ∀ m, TwI t (fun x y => P x y ∨ (x = i ∧ i < y ∧ y ≤ i + m)) (rowSt t (costZ t) i m b)
 | 0 => by
  have e : (fun x y => P x y ∨ (x = i ∧ i < y ∧ y ≤ i + 0)) = P := by
   funext x y
   refine propext ⟨?_, .inl⟩
   rintro (h | ⟨_, h1, h2⟩)
   ·exact h
   ·omega
  rw [e]; exact h
 | m + 1 => by
  have e : rowSt t (costZ t) i (m + 1) b = trySt t (costZ t) i (i + 1 + m) (rowSt t (costZ t) i m b) := by unfold rowSt; rw [List.range_succ, List.foldl_append]; rfl
  rw [e]
  refine (TwI.row h m).try (fun x y => ?_)
  constructor
  ·rintro (h | ⟨h1, h2, h3⟩)
   ·exact .inl (.inl h)
   ·by_cases e : y = i + 1 + m
    ·exact .inr ⟨h1, e⟩
    ·exact .inl (.inr ⟨h1, h2, by omega⟩)
  ·rintro ((h | ⟨h1, h2, h3⟩) | ⟨h1, h2⟩)
   ·exact .inl h
   ·exact .inr ⟨h1, h2, by omega⟩
   ·exact .inr ⟨h1, by omega, by omega⟩
theorem TwI.all (t : List Sgn) : ∀ m, m ≤ t.length → TwI t (fun x y => x < m ∧ x < y ∧ y < t.length) (allSt t (costZ t) m)
 | 0, _ => ⟨.inl rfl, fun x y h => by omega⟩
 | m + 1, hm => by
  have e : allSt t (costZ t) (m + 1) = rowSt t (costZ t) m (t.length - (m + 1)) (allSt t (costZ t) m) := by unfold allSt; rw [List.range_succ, List.foldl_append]; rfl
  rw [e]
  have h := (TwI.all t m (by omega)).row (i := m) (t.length - (m + 1))
  have e2 : (fun x y => (x < m ∧ x < y ∧ y < t.length) ∨ (x = m ∧ m < y ∧ y ≤ m + (t.length - (m + 1)))) = fun x y => x < m + 1 ∧ x < y ∧ y < t.length := by
   funext x y
   refine propext ?_
   omega
  rw [e2] at h
  exact h
theorem allSt_I (t : List Sgn) : TwI t (fun x y => x < y ∧ y < t.length) (allSt t (costZ t) t.length) := by
 have h := TwI.all t t.length (Nat.le_refl _)
 have e : (fun x y => x < t.length ∧ x < y ∧ y < t.length) = fun x y => x < y ∧ y < t.length := by
  funext x y
  refine propext ?_
  omega
 rw [e] at h
 exact h
theorem pair_ends {t : List Sgn} {i k : Nat} {x y : List Nat} (hi : i < t.length) (hk : k < t.length) (hx : ∀ j ∈ x, j < t.length) (hy : ∀ j ∈ y, j < t.length) (hne : (nth t i).cells ≠ []) (he : cellsZ t (i :: x) = cellsZ t (k :: y)) :
  (stepZ (nth t i).cells (nth t k).cells).2.2.2 = true ∧ EndUV t (stepZ (nth t i).cells (nth t k).cells).1 (if (stepZ (nth t i).cells (nth t k).cells).2.2.1 then y else x) (if (stepZ (nth t i).cells (nth t k).cells).2.2.1 then x else y) ∧
  ((cellsZ t (i :: x)).length : Int) = (nth t i).cells.length + (stepZ (nth t i).cells (nth t k).cells).2.1 + (cellsZ t (if (stepZ (nth t i).cells (nth t k).cells).2.2.1 then y else x)).length := by
 have h : EndUV t (nth t i).cells x (k :: y) := ⟨hx, fun j hj => by
  rcases List.mem_cons.1 hj with rfl | hj
  ·exact hk
  ·exact hy j hj, by rw [← he, cellsZ_cons]⟩
 obtain ⟨k', v', e, _, ho, h2, h3⟩ := h.step hne
 obtain ⟨rfl, rfl⟩ := List.cons.inj e
 refine ⟨ho, h2, ?_⟩
 rw [cellsZ_cons, List.length_append]
 omega
theorem phi_lt (c : List Int → Int) (w : List Int) : phiZ c w < phiZ c w + 1 := Nat.lt_succ_self _
theorem prT_pair {t : List Sgn} (ht : ∀ k, k < t.length → 1 ≤ (nth t k).cells.length) {i k : Nat} (hi : i < t.length) (hk : k < t.length) (ho : okT t i k) :
  ∃ x y : List Nat, prT t i k = (castL (i :: x), castL (k :: y)) ∧ (∀ j ∈ i :: x, j < t.length) ∧ (∀ j ∈ k :: y, j < t.length) ∧ cellsZ t (i :: x) = cellsZ t (k :: y) ∧ ((cellsZ t (i :: x)).length : Int) = nnT t i k := by
 obtain ⟨h1, h2⟩ := ho
 have hs := stepZ_nn (nth t i).cells (nth t k).cells
 have hc : costZ t (stepZ (nth t i).cells (nth t k).cells).1 < neverZ := by unfold nnT at h2; omega
 obtain ⟨⟨u, v, g1, g2, g3⟩, _⟩ := fin_best ht _ (stepZ (nth t i).cells (nth t k).cells).1 (!(stepZ (nth t i).cells (nth t k).cells).2.2.1) hc (phi_lt _ _)
 obtain ⟨b1, b2⟩ := g1.back hk h1
 unfold prT nnT finZ
 rw [g3]
 have hcons : ∀ {j : Nat} {l : List Nat}, j < t.length → (∀ x ∈ l, x < t.length) → ∀ x ∈ j :: l, x < t.length := fun hj hl x hx => by
  rcases List.mem_cons.1 hx with rfl | hx
  ·exact hj
  ·exact hl x hx
 have he := b1.he
 have hl := congrArg List.length he
 rw [List.length_append] at hl
 generalize (stepZ (nth t i).cells (nth t k).cells).2.2.1 = tu at *
 cases tu with
 | false =>
  simp only [Bool.false_eq_true, if_false] at b1 b2 he
  exact ⟨u, v, rfl, hcons hi g1.hu, hcons hk g1.hv, by rw [cellsZ_cons]; exact he, by rw [cellsZ_cons, List.length_append]; omega⟩
 | true =>
  simp only [if_true] at b1 b2 he
  exact ⟨v, u, rfl, hcons hi g1.hv, hcons hk g1.hu, by rw [cellsZ_cons]; exact he, by rw [cellsZ_cons, List.length_append]; omega⟩
theorem prT_least {t : List Sgn} (ht : ∀ k, k < t.length → 1 ≤ (nth t k).cells.length) {i k : Nat} {x y : List Nat} (hi : i < t.length) (hk : k < t.length) (hx : ∀ j ∈ x, j < t.length) (hy : ∀ j ∈ y, j < t.length) (he : cellsZ t (i :: x) = cellsZ t (k :: y)) (hl : ((cellsZ t (i :: x)).length : Int) < neverZ) :
  okT t i k ∧ nnT t i k ≤ (cellsZ t (i :: x)).length ∧ (nnT t i k = (cellsZ t (i :: x)).length → leZ (prT t i k) (castL (i :: x), castL (k :: y))) := by
 have hne : (nth t i).cells ≠ [] := fun e => by have := ht i hi; rw [e] at this; simp at this
 obtain ⟨h1, h2, h3⟩ := pair_ends hi hk hx hy hne he
 have hc := h2.cost
 have hn : nnT t i k ≤ (cellsZ t (i :: x)).length := by unfold nnT; omega
 refine ⟨⟨h1, by omega⟩, hn, fun hq => ?_⟩
 have hs := stepZ_nn (nth t i).cells (nth t k).cells
 have hc2 : costZ t (stepZ (nth t i).cells (nth t k).cells).1 < neverZ := by unfold nnT at hn; omega
 have h4 := (fin_best ht _ (stepZ (nth t i).cells (nth t k).cells).1 (!(stepZ (nth t i).cells (nth t k).cells).2.2.1) hc2 (phi_lt _ _)).2 _ _ h2 (by unfold nnT at hq; omega)
 have h5 := leZ_add (a := false) (k := (i : Int)) (leZ_add (a := true) (k := (k : Int)) h4)
 have e1 : addZ false (i : Int) (addZ true (k : Int) (finF t (costZ t) (phiZ (costZ t) (stepZ (nth t i).cells (nth t k).cells).1 + 1) (stepZ (nth t i).cells (nth t k).cells).1 (!(stepZ (nth t i).cells (nth t k).cells).2.2.1))) = prT t i k := rfl
 rw [e1] at h5
 have e2 : addZ false (i : Int) (addZ true (k : Int) (swN (!(stepZ (nth t i).cells (nth t k).cells).2.2.1) (if (stepZ (nth t i).cells (nth t k).cells).2.2.1 then y else x) (if (stepZ (nth t i).cells (nth t k).cells).2.2.1 then x else y))) = (castL (i :: x), castL (k :: y)) := by
  cases (stepZ (nth t i).cells (nth t k).cells).2.2.1 <;> rfl
 rw [e2] at h5
 exact h5
end Go.Ab
namespace Go.Ab
open Go.Proofs
set_option maxRecDepth 100000
theorem castL_inj : ∀ {a b : List Nat}, castL a = castL b → a = b
 | [], [], _ => rfl
 | [], _ :: _, h => by simp [castL] at h
 | _ :: _, [], h => by simp [castL] at h
 | x :: a, y :: b, h => by
  simp only [castL, List.map_cons, List.cons.injEq] at h
  rw [castL_inj (a := a) (b := b) h.2, show x = y by omega]
theorem tw_pos {t : List Sgn} (ht : sTab t) : ∀ k, k < t.length → 1 ≤ (nth t k).cells.length := fun k hk => (ht.2 k hk).1
theorem twice_least {t : List Sgn} (ht : sTab t) : ∀ (p q : List Nat), (∀ j ∈ p, j < t.length) → (∀ j ∈ q, j < t.length) → befZ (castL p) (castL q) = true → cellsZ t p = cellsZ t q → ((cellsZ t p).length : Int) < neverZ →
  (allSt t (costZ t) t.length).1 ≤ (cellsZ t p).length ∧ ((allSt t (costZ t) t.length).1 = (cellsZ t p).length → leZ ((allSt t (costZ t) t.length).2.1, (allSt t (costZ t) t.length).2.2) (castL p, castL q)) := by
 intro p
 induction p with
 | nil =>
  intro q hp hq hb he hl
  cases q with
  | nil => rw [befZ_irr] at hb; cases hb
  | cons k q =>
   have := cells_ne (tw_pos ht) hq (by rw [← he]; rfl)
   cases this
 | cons i p ih =>
  intro q hp hq hb he hl
  cases q with
  | nil =>
   have := cells_ne (tw_pos ht) hp (by rw [he]; rfl)
   cases this
  | cons k q =>
   have hi := hp i List.mem_cons_self
   have hk := hq k List.mem_cons_self
   have hp' : ∀ j ∈ p, j < t.length := fun j hj => hp j (List.mem_cons_of_mem _ hj)
   have hq' : ∀ j ∈ q, j < t.length := fun j hj => hq j (List.mem_cons_of_mem _ hj)
   have hb2 : befZ ((i : Int) :: castL p) ((k : Int) :: castL q) = true := hb
   rw [befZ] at hb2
   by_cases e : i = k
   ·subst e
    rw [if_pos rfl] at hb2
    have he2 := he
    rw [cellsZ_cons, cellsZ_cons] at he2
    have he3 := List.append_cancel_left he2
    have hlen : (cellsZ t (i :: p)).length = (nth t i).cells.length + (cellsZ t p).length := by rw [cellsZ_cons, List.length_append]
    have h1 := tw_pos ht i hi
    obtain ⟨g1, _⟩ := ih q hp' hq' hb2 he3 (by omega)
    exact ⟨by omega, fun h => by omega⟩
   ·rw [if_neg (by omega), decide_eq_true_eq] at hb2
    obtain ⟨g1, g2, g3⟩ := prT_least (tw_pos ht) hi hk hp' hq' he hl
    rcases (allSt_I t).mn i k ⟨by omega, hk⟩ g1 with h | ⟨h1, h2⟩
    ·exact ⟨by omega, fun h3 => by omega⟩
    ·exact ⟨by omega, fun h3 => leZ_trans h2 (g3 (by omega))⟩
theorem twice_found {t : List Sgn} (ht : sTab t) (h : (allSt t (costZ t) t.length).1 < neverZ) : ∃ a b : List Nat, (allSt t (costZ t) t.length).2 = (castL a, castL b) ∧ (∀ j ∈ a, j < t.length) ∧ (∀ j ∈ b, j < t.length) ∧ befZ (castL a) (castL b) = true ∧
  cellsZ t a = cellsZ t b ∧ ((cellsZ t a).length : Int) = (allSt t (costZ t) t.length).1 ∧ ∃ i k, i < t.length ∧ k < t.length ∧ okT t i k ∧ (allSt t (costZ t) t.length).1 = nnT t i k := by
 rcases (allSt_I t).st with h1 | ⟨i, k, ⟨h1, h2⟩, h3, h4⟩
 ·rw [h1] at h; exact absurd h (by decide)
 ·obtain ⟨x, y, g1, g2, g3, g4, g5⟩ := prT_pair (tw_pos ht) (by omega) h2 h3
  rw [h4]
  refine ⟨i :: x, k :: y, by rw [g1], g2, g3, ?_, g4, g5, i, k, by omega, h2, h3, rfl⟩
  show befZ ((i : Int) :: castL x) ((k : Int) :: castL y) = true
  rw [befZ, if_neg (by omega)]
  exact decide_eq_true (by omega)
theorem twice_none {t : List Sgn} (h : ¬ (allSt t (costZ t) t.length).1 < neverZ) : (allSt t (costZ t) t.length).2 = ([], []) := by
 rcases (allSt_I t).st with h1 | ⟨i, k, _, h3, h4⟩
 ·rw [h1]
 ·rw [h4] at h; exact absurd h3.2 h
theorem filter_lt {α : Type} {P Q : α → Bool} : ∀ {l : List α} {w : α}, (∀ x, P x = true → Q x = true) → w ∈ l → Q w = true → P w = false → (l.filter P).length < (l.filter Q).length
 | [], w, _, h, _, _ => by cases h
 | x :: l, w, h, hw, hq, hp => by
  have hle : ∀ l : List α, (l.filter P).length ≤ (l.filter Q).length := fun l => by
   induction l with
   | nil => simp
   | cons y l ih =>
    rw [List.filter_cons, List.filter_cons]
    cases hy : P y with
    | true => rw [if_pos rfl, if_pos (h y hy)]; simp only [List.length_cons]; omega
    | false =>
     rw [if_neg (by simp)]
     split
     ·simp only [List.length_cons]; omega
     ·exact ih
  rw [List.filter_cons, List.filter_cons]
  rcases List.mem_cons.1 hw with rfl | hw
  ·rw [if_neg (by simp [hp]), if_pos hq]
   have := hle l
   simp only [List.length_cons]; omega
  ·have ih := filter_lt (P := P) (Q := Q) h hw hq hp
   cases hy : P x with
   | true => rw [if_pos rfl, if_pos (h x hy)]; simp only [List.length_cons]; omega
   | false =>
    rw [if_neg (by simp)]
    split
    ·simp only [List.length_cons]; omega
    ·exact ih
def keysL (t : List Sgn) : List (List Int) := (List.range t.length).flatMap fun k => (List.range 3).map fun a => (nth t k).cells.drop (a + 1)
theorem keysL_len (t : List Sgn) : (keysL t).length = 3 * t.length := by
 unfold keysL
 have : ∀ n, ((List.range n).flatMap fun k => (List.range 3).map fun a => (nth t k).cells.drop (a + 1)).length = 3 * n := fun n => by
  induction n with
  | zero => rfl
  | succ n ih =>
   rw [show List.range (n + 1) = List.range n ++ [n] from List.range_succ, List.flatMap_append, List.length_append, ih]
   simp; omega
 exact this _
theorem keysL_mem {t : List Sgn} (ht : sTab t) {w : List Int} (h : KeyZ t w) (hw : w ≠ []) : w ∈ keysL t := by
 rcases h with h | ⟨k, a, hk, ha, hl, rfl⟩
 ·exact absurd h hw
 ·unfold keysL
  rw [List.mem_flatMap]
  refine ⟨k, List.mem_range.2 hk, List.mem_map.2 ⟨a - 1, List.mem_range.2 ?_, ?_⟩⟩
  ·have := (ht.2 k hk).2.1; omega
  ·rw [show a - 1 + 1 = a by omega]
theorem way_ex {t : List Sgn} {w : List Int} (hw : w ≠ []) (hc : costZ t w < neverZ) : ∃ k, k < t.length ∧ onWay t (costZ t) w k = true := by
 rcases (costZ_is t w).2.1 with h | h
 ·omega
 ·generalize hcw : costZ t w = cw at h
  cases h with
  | nil => exact absurd rfl hw
  | @step _ k m _ hk ho hm =>
   refine ⟨k, hk, ?_⟩
   have h1 := costZ_step hk hw ho
   have h2 := (costZ_is t (stepZ w (nth t k).cells).1).2.2 m hm
   unfold onWay
   rw [ho, Bool.true_and]
   exact decide_eq_true (by omega)
theorem step_le3 {t : List Sgn} (ht : sTab t) {w : List Int} (hw : w ≠ []) {k : Nat} (hk : k < t.length) : (stepZ w (nth t k).cells).2.1 ≤ 3 := by
 have h1 := (ht.2 k hk).2.1
 have h2 : 1 ≤ w.length := by
  cases w with
  | nil => exact absurd rfl hw
  | cons x l => simp
 unfold stepZ
 split
 ·simp
 ·split
  ·simp only; omega
  ·simp
noncomputable def rankZ (t : List Sgn) (w : List Int) : Nat := ((keysL t).filter fun v => decide (phiZ (costZ t) v ≤ phiZ (costZ t) w)).length
theorem rank_step {t : List Sgn} (ht : sTab t) {w : List Int} (hw : KeyZ t w) (hne : w ≠ []) {k : Nat} (hk : k < t.length) (ho : onWay t (costZ t) w k = true) : rankZ t (stepZ w (nth t k).cells).1 < rankZ t w := by
 have h := phi_step (c := costZ t) hne (costZ_nn t _).1 (ht.2 k hk).1 ho
 exact filter_lt (fun x hx => by
  rw [decide_eq_true_eq] at hx ⊢; omega) (keysL_mem ht hw hne) (by simp) (by simp; omega)
theorem cost_bound {t : List Sgn} (ht : sTab t) : ∀ (n : Nat) (w : List Int), KeyZ t w → costZ t w < neverZ → phiZ (costZ t) w ≤ n → costZ t w ≤ 3 * rankZ t w
 | n, w, hw, hc, hn => by
  by_cases hne : w = []
  ·subst hne; rw [costZ_nil]; omega
  ·obtain ⟨k, hk, ho⟩ := way_ex hne hc
   have h1 := rank_step ht hw hne hk ho
   have h2 := phi_step (c := costZ t) hne (costZ_nn t _).1 (ht.2 k hk).1 ho
   have h3 := step_le3 ht hne hk
   have h4 := stepZ_nn w (nth t k).cells
   obtain ⟨o1, o2⟩ := onWay_of ho
   cases n with
   | zero => omega
   | succ n =>
    have h5 := cost_bound ht n _ (hw.step ht hne hk o1) (by omega) (by omega)
    omega
theorem rank_le (t : List Sgn) (w : List Int) : rankZ t w ≤ 3 * t.length := by
 unfold rankZ
 rw [← keysL_len t]
 exact List.length_filter_le _ _
theorem nnT_bound {t : List Sgn} (ht : sTab t) {i k : Nat} (hi : i < t.length) (hk : k < t.length) (h : okT t i k) : nnT t i k ≤ 600 := by
 obtain ⟨_, h2⟩ := h
 have h3 := stepZ_nn (nth t i).cells (nth t k).cells
 have hne : (nth t i).cells ≠ [] := fun e => by have := tw_pos ht i hi; rw [e] at this; simp at this
 have h4 := step_le3 ht hne hk
 have h5 := (ht.2 i hi).2.1
 have h6 := ht.1
 unfold nnT at h2 ⊢
 have h7 := cost_bound ht _ _ (KeyZ.pair ht hi hk) (by omega) (Nat.le_refl _)
 have h8 := rank_le t (stepZ (nth t i).cells (nth t k).cells).1
 omega
theorem cells_dots {t : List Sgn} (ht : sTab t) : ∀ l : List Nat, (∀ k ∈ l, k < t.length) → dotsL (cellsZ t l) = true
 | [], _ => rfl
 | k :: l, h => by
  have h1 := (ht.2 k (h k List.mem_cons_self)).2.2
  have h2 := cells_dots ht l (fun x hx => h x (List.mem_cons_of_mem _ hx))
  unfold dotsL at *
  rw [cellsZ_cons, List.all_append, h1, h2]; rfl
theorem cnt_at {t : List Sgn} (ht : sTab t) (s : List Int) : Cnt (nth (manyL t s) 0) (Fac t s) := by
 have := many_fac (t := t) (s := s) (fun j hj => tw_pos ht j hj) s.length 0 (Nat.zero_le _) (by omega)
 rwa [List.drop_zero] at this
theorem read_back {t : List Sgn} (hc : checkZ t = 0) (hn : ¬ (allSt t (costZ t) t.length).1 < neverZ) {l : List Nat} (hl : ∀ k ∈ l, k < t.length) (h4 : (cellsZ t l).length ≤ 4096) (h5 : (textZ t l).length ≤ 4096) : decodeZ t (cellsZ t l) = (textZ t l, true, 0) := by
 have ht := sTab_of hc
 have hcnt := cnt_at ht (cellsZ t l)
 have hf : Fac t (cellsZ t l) l := ⟨hl, rfl⟩
 have h1 : nth (manyL t (cellsZ t l)) 0 = 1 := by
  rcases hcnt with ⟨_, k⟩ | ⟨e, _⟩ | ⟨_, a, b, hab, ha, hb⟩
  ·exact absurd hf (k l)
  ·exact e
  ·exfalso
   have hne : castL a ≠ castL b := fun e => hab (castL_inj e)
   rcases befZ_tri hne with h | h
   ·have := (twice_least ht a b ha.1 hb.1 h (ha.2.trans hb.2.symm) (by rw [ha.2]; unfold neverZ; omega)).1
    rw [ha.2] at this; unfold neverZ at hn; omega
   ·have := (twice_least ht b a hb.1 ha.1 h (hb.2.trans ha.2.symm) (by rw [hb.2]; unfold neverZ; omega)).1
    rw [hb.2] at this; unfold neverZ at hn; omega
 have hp : pathD t (cellsZ t l) (cellsZ t l).length 0 = l := by
  have h2 := read_all (t := t) (s := cellsZ t l) (fun j hj => tw_pos ht j hj) (cellsZ t l).length 0 (by omega) (Nat.zero_le _) h1
  rw [List.drop_zero] at h2
  rcases hcnt with ⟨e, _⟩ | ⟨_, u, hu, huu⟩ | ⟨e, _⟩
  ·omega
  ·rw [huu _ h2, huu _ hf]
  ·omega
 unfold decodeZ
 rw [if_neg (by simp [hc]), if_neg (by omega), if_neg (by rw [cells_dots ht l hl]; simp), if_neg (by simp [h1]), hp, if_neg (by omega)]
theorem read_twice {t : List Sgn} (hc : checkZ t = 0) {a b : List Nat} (ha : ∀ k ∈ a, k < t.length) (hb : ∀ k ∈ b, k < t.length) (hne : a ≠ b) (he : cellsZ t a = cellsZ t b) (h4 : (cellsZ t a).length ≤ 4096) : decodeZ t (cellsZ t a) = ([], false, 0) := by
 have ht := sTab_of hc
 have fa : Fac t (cellsZ t a) a := ⟨ha, rfl⟩
 have fb : Fac t (cellsZ t a) b := ⟨hb, he.symm⟩
 have h1 : ¬ nth (manyL t (cellsZ t a)) 0 = 1 := fun e => by
  rcases cnt_at ht (cellsZ t a) with ⟨e2, _⟩ | ⟨_, u, hu, huu⟩ | ⟨e2, _⟩
  ·omega
  ·exact hne ((huu a fa).trans (huu b fb).symm)
  ·omega
 unfold decodeZ
 rw [if_neg (by simp [hc]), if_neg (by omega), if_neg (by rw [cells_dots ht a ha]; simp), if_pos h1]
end Go.Ab
namespace Go.Ab
open Go.Proofs
set_option maxRecDepth 100000
theorem len_cells {t : List Sgn} (ht : sTab t) : ∀ l : List Nat, (∀ k ∈ l, k < t.length) → l.length ≤ (cellsZ t l).length
 | [], _ => Nat.le_refl _
 | k :: l, h => by
  have h1 := tw_pos ht k (h k List.mem_cons_self)
  have h2 := len_cells ht l (fun x hx => h x (List.mem_cons_of_mem _ hx))
  rw [cellsZ_cons, List.length_append, List.length_cons]; omega
theorem nth_cast {l : List Nat} {i : Nat} (hi : i < l.length) : nth (l.map fun (k : Nat) => (k : Int)) i = ((nth l i : Nat) : Int) := by
 rw [nth_eq (by simpa using hi), nth_eq hi]; simp
theorem twice_say {t : List Sgn} (hc : checkZ t = 0) :
  (∃ a b : List Nat, twiceZ t = (a.map (fun (k : Nat) => (k : Int)), b.map (fun (k : Nat) => (k : Int)), true, 0) ∧ (∀ k ∈ a, k < t.length) ∧ (∀ k ∈ b, k < t.length) ∧ a.length ≤ 600 ∧ b.length ≤ 600 ∧ (cellsZ t a).length ≤ 600 ∧ cellsZ t a = cellsZ t b ∧
   befZ (a.map fun (k : Nat) => (k : Int)) (b.map fun (k : Nat) => (k : Int)) = true ∧ decodeZ t (cellsZ t a) = ([], false, 0) ∧
   ∀ p q : List Nat, (∀ k ∈ p, k < t.length) → (∀ k ∈ q, k < t.length) → befZ (p.map fun (k : Nat) => (k : Int)) (q.map fun (k : Nat) => (k : Int)) = true → cellsZ t p = cellsZ t q → (cellsZ t p).length ≤ 4096 →
    (cellsZ t a).length < (cellsZ t p).length ∨ ((cellsZ t a).length = (cellsZ t p).length ∧ befZ (p.map fun (k : Nat) => (k : Int)) (a.map fun (k : Nat) => (k : Int)) = false ∧ (p = a → befZ (q.map fun (k : Nat) => (k : Int)) (b.map fun (k : Nat) => (k : Int)) = false))) ∨
  (twiceZ t = ([], [], false, 0) ∧ (∀ l : List Nat, (∀ k ∈ l, k < t.length) → (cellsZ t l).length ≤ 4096 → (textZ t l).length ≤ 4096 → decodeZ t (cellsZ t l) = (textZ t l, true, 0)) ∧
   ∀ p q : List Nat, (∀ k ∈ p, k < t.length) → (∀ k ∈ q, k < t.length) → p ≠ q → cellsZ t p = cellsZ t q → (cellsZ t p).length ≤ 4096 → False) := by
 have ht := sTab_of hc
 have hE : twiceZ t = ((allSt t (costZ t) t.length).2.1, (allSt t (costZ t) t.length).2.2, decide ((allSt t (costZ t) t.length).1 < neverZ), 0) := by unfold twiceZ; rw [if_neg (by simp [hc])]
 by_cases hn : (allSt t (costZ t) t.length).1 < neverZ
 ·left
  obtain ⟨a, b, h1, ha, hb, hbef, he, hl, i, k, hi, hk, hok, hnn⟩ := twice_found ht hn
  have hbd := nnT_bound ht hi hk hok
  have hla := len_cells ht a ha
  have hlb := len_cells ht b hb
  have hlen : (cellsZ t a).length ≤ 600 := by omega
  have hne : a ≠ b := fun e => by rw [e, befZ_irr] at hbef; cases hbef
  refine ⟨a, b, ?_, ha, hb, by omega, by rw [← he] at hlb; omega, hlen, he, hbef, read_twice hc ha hb hne he (by omega), fun p q hp hq hpq hpc hpl => ?_⟩
  ·rw [hE, h1, decide_eq_true hn]; rfl
  ·obtain ⟨g1, g2⟩ := twice_least ht p q hp hq hpq hpc (by unfold neverZ; omega)
   by_cases e : (cellsZ t a).length = (cellsZ t p).length
   ·right
    have g3 := g2 (by omega)
    rw [h1] at g3
    unfold leZ at g3
    have g4 : ¬ (befZ (castL p) (castL a) = true ∨ (castL p = castL a ∧ befZ (castL q) (castL b) = true)) := fun h => by
     have := (lessZ_iff (p := (castL p, castL q)) (q := (castL a, castL b))).2 h
     rw [g3] at this; cases this
    refine ⟨e, ?_, fun e2 => ?_⟩
    ·cases h : befZ (p.map fun (k : Nat) => (k : Int)) (a.map fun (k : Nat) => (k : Int)) with
     | false => rfl
     | true => exact absurd (.inl h) g4
    ·cases h : befZ (q.map fun (k : Nat) => (k : Int)) (b.map fun (k : Nat) => (k : Int)) with
     | false => rfl
     | true => exact absurd (.inr ⟨by rw [e2], h⟩) g4
   ·left; omega
 ·right
  refine ⟨?_, fun l h1 h2 h3 => read_back hc hn h1 h2 h3, fun p q hp hq hpq hpc hpl => ?_⟩
  ·rw [hE, twice_none hn, decide_eq_false hn]
  ·have hne : castL p ≠ castL q := fun e => hpq (castL_inj e)
   rcases befZ_tri hne with h | h
   ·have := (twice_least ht p q hp hq h hpc (by unfold neverZ; omega)).1
    unfold neverZ at hn; omega
   ·have := (twice_least ht q p hq hp h hpc.symm (by rw [← hpc]; unfold neverZ; omega)).1
    rw [← hpc] at this
    unfold neverZ at hn; omega
theorem tab_facts {t : List Sgn} (hc : checkZ t = 0) : (∀ x ∈ t, x.text.length ≤ 64) ∧ ∀ x ∈ t, 1 ≤ x.cells.length ∧ x.cells.length ≤ 64 := by
 refine ⟨tab_text hc, fun x hx => ?_⟩
 obtain ⟨j, hj, rfl⟩ := List.mem_iff_getElem.1 hx
 have := tab_cells hc j hj
 unfold cellZ at this
 rw [nth_eq hj] at this; omega
end Go.Ab
namespace Go.Ab
open Go.Proofs
set_option maxRecDepth 100000
set_option maxHeartbeats 4000000
theorem C8 (t : List Sgn) (x y : List Int) (hs : smZs t) (hx : x.length < 1048577) (hy : y.length < 1048577) (hu : ∀ z ∈ x, 0 ≤ z ∧ z ≤ 255) (hv : ∀ z ∈ y, 0 ≤ z ∧ z ≤ 255) : Kc cfg 8 [R fl0 eZ t, R fl0 eU x, R fl0 eU y] (.ret (.bool true)) := by
 cases hr : rightZ t with
 | false =>
  refine outS_of_wp cfg (fn := Tryd.f8) Tryd.func8 rfl (by simp [Tryd.f8]) ?_
  simp (disch := first | assumption | omega | (simp; done) | (simp; omega)) [-getElem?_pos, gZ, gS, Tryd.f8, hr, emptyH]
  repeat' (first | ((first | refine wpc_split _ ?_ ?_ | refine ww_split _ ?_ ?_) <;> intro hc <;> try simp at hc) | refine wk_yldW _ ?_ | refine layOwe _ (by kernel_rfl) ?_ | refine owe ?_ (fun ho => ?_) | (simp (disch := first | assumption | omega | (simp; done) | (simp; omega)) [hr, emptyH, -getElem?_pos, gZ, gS]))
  all_goals try (exfalso; omega)
 | true =>
  by_cases h20 : x.length ≤ 20
  ·by_cases h21 : y.length ≤ 20
   ·obtain ⟨r1, hc, r3, r4⟩ := rightZ_ok hr
    obtain ⟨htext, hcell⟩ := tab_facts hc
    have hL := listN_lt r3 x
    have hM := listN_lt r3 y
    have hLl := listN_len t x
    have hMl := listN_len t y
    generalize hLN : listN t x = L at *
    generalize hMN : listN t y = M at *
    have hLM : ∀ k ∈ L ++ M, k < t.length := fun k hk => (List.mem_append.1 hk).elim (hL k) (hM k)
    obtain ⟨P1, e1, p1, q1, l1, _, _, _⟩ := enc_list hc hL (by omega)
    obtain ⟨P2, e2, p2, q2, l2, _, _, _⟩ := enc_list hc hM (by omega)
    obtain ⟨P3, e3, p3, q3, l3, c3, _, m3⟩ := enc_list hc hLM (by rw [List.length_append]; omega)
    have hmin := m3 (P1 ++ P2) ⟨fun k hk => (List.mem_append.1 hk).elim (p1 k) (p2 k), by rw [textZ_app, textZ_app, q1, q2]⟩
    rw [cellsZ_app, List.length_append] at hmin
    rw [textZ_app] at e3 q3
    have t1 := textZ_le hc _ hL
    have t2 := textZ_le hc _ hM
    have t3 := cellsZ_le hc _ hLM
    have t4 := cellsZ_le hc _ p1
    have t5 := cellsZ_le hc _ p2
    rw [List.length_append] at t3
    have t6 : (textZ t L ++ textZ t M).length ≤ 640 := by rw [List.length_append]; omega
    have a1 : (∀ k ∈ L, k < t.length) ∧ L.length < 1048576 ∧ ∀ x ∈ t, x.text.length ≤ 64 := ⟨hL, by omega, htext⟩
    have a2 : (∀ k ∈ M, k < t.length) ∧ M.length < 1048576 ∧ ∀ x ∈ t, x.text.length ≤ 64 := ⟨hM, by omega, htext⟩
    rcases twice_say hc with ⟨a, b, h1, _⟩ | ⟨h1, hd, _⟩
    ·skip
     refine outS_of_wp cfg (fn := Tryd.f8) Tryd.func8 rfl (by simp [Tryd.f8]) ?_
     simp (disch := first | assumption | omega | (simp; done) | (simp; omega)) [-getElem?_pos, gZ, gS, Tryd.f8, hr, emptyH, h20, h21, hLN, hMN, r3, r4, a1, a2]
     repeat' (first | ((first | refine wpc_split _ ?_ ?_ | refine ww_split _ ?_ ?_) <;> intro hc <;> try simp at hc) | refine wk_yldW _ ?_ | refine layOwe _ (by kernel_rfl) ?_ | refine owe ?_ (fun ho => ?_) | (simp (disch := first | assumption | omega | (simp; done) | (simp; omega)) [hr, emptyH, h20, h21, hLN, hMN, r3, r4, a1, a2, e1, e2, e3, h1, -getElem?_pos, gZ, gS]))
     all_goals try (exfalso; omega)
     all_goals try (exfalso; simp [h1, e1, e2, e3] at hc; done)
    ·have hdd := hd P3 p3 (by omega) (by rw [q3]; omega)
     rw [q3] at hdd
     refine outS_of_wp cfg (fn := Tryd.f8) Tryd.func8 rfl (by simp [Tryd.f8]) ?_
     simp (disch := first | assumption | omega | (simp; done) | (simp; omega)) [-getElem?_pos, gZ, gS, Tryd.f8, hr, emptyH, h20, h21, hLN, hMN, r3, r4, a1, a2]
     repeat' (first | ((first | refine wpc_split _ ?_ ?_ | refine ww_split _ ?_ ?_) <;> intro hc <;> try simp at hc) | refine wk_yldW _ ?_ | refine layOwe _ (by kernel_rfl) ?_ | refine owe ?_ (fun ho => ?_) | (simp (disch := first | assumption | omega | (simp; done) | (simp; omega)) [hr, emptyH, h20, h21, hLN, hMN, r3, r4, a1, a2, e1, e2, e3, h1, hdd, -getElem?_pos, gZ, gS]))
     all_goals try (exfalso; omega)
     all_goals try (exfalso; simp [h1, e1, e2, e3, hdd] at hc; done)
   ·skip
    refine outS_of_wp cfg (fn := Tryd.f8) Tryd.func8 rfl (by simp [Tryd.f8]) ?_
    simp (disch := first | assumption | omega | (simp; done) | (simp; omega)) [-getElem?_pos, gZ, gS, Tryd.f8, hr, emptyH, h20, h21]
    repeat' (first | ((first | refine wpc_split _ ?_ ?_ | refine ww_split _ ?_ ?_) <;> intro hc <;> try simp at hc) | refine wk_yldW _ ?_ | refine layOwe _ (by kernel_rfl) ?_ | refine owe ?_ (fun ho => ?_) | (simp (disch := first | assumption | omega | (simp; done) | (simp; omega)) [hr, emptyH, h20, h21, -getElem?_pos, gZ, gS]))
    all_goals try (exfalso; omega)
  ·skip
   refine outS_of_wp cfg (fn := Tryd.f8) Tryd.func8 rfl (by simp [Tryd.f8]) ?_
   simp (disch := first | assumption | omega | (simp; done) | (simp; omega)) [-getElem?_pos, gZ, gS, Tryd.f8, hr, emptyH, h20]
   repeat' (first | ((first | refine wpc_split _ ?_ ?_ | refine ww_split _ ?_ ?_) <;> intro hc <;> try simp at hc) | refine wk_yldW _ ?_ | refine layOwe _ (by kernel_rfl) ?_ | refine owe ?_ (fun ho => ?_) | (simp (disch := first | assumption | omega | (simp; done) | (simp; omega)) [hr, emptyH, h20, -getElem?_pos, gZ, gS]))
   all_goals try (exfalso; omega)
@[simp] theorem S8 (t : List Sgn) (x y : List Int) (hs : smZs t) (hx : x.length < 1048577) (hy : y.length < 1048577) (hu : ∀ z ∈ x, 0 ≤ z ∧ z ≤ 255) (hv : ∀ z ∈ y, 0 ≤ z ∧ z ≤ 255) (q1 q2 q3 : Fl) (hh : Heap) : Ci cfg (.func (.func 8) [] []) [R  q1 eZ t, R  q2 eU x, R  q3 eU y] hh = some (.ret (.bool true), hh) :=
 Ci_K cfg rfl rfl (by simp) (by simp) (C8 t x y hs hx hy hu hv)
end Go.Ab
