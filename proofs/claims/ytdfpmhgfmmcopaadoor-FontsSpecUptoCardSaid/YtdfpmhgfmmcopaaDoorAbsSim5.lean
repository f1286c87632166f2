/- Pure calls: what is handed over, what comes back. -/
import Derived.Test.YtdfpmhgfmmcopaaDoorAbsSim4
set_option linter.unusedVariables false
set_option linter.unusedSimpArgs false
set_option linter.unusedSectionVars false
set_option linter.deprecated false
namespace Go.Ab
open Go.RowKit (Below)

theorem one_norm (v : V) : v.norm.one = v.one := by cases v <;> rfl

mutual
theorem norm_rep {g : Gh} : ∀ (v : V) (u : Value), v.closed = true → Rep g v u → Rep g.shut v.norm u
  | .undef, _, h, _ => by simp [V.closed] at h
  | .bool b, v, _, r => by simpa [Rep, V.norm] using r
  | .int k n, v, _, r => by simpa [Rep, V.norm] using r
  | .str s, v, _, r => by simpa [Rep, V.norm] using r
  | .row nl fl cs n tok, v, h, r => by
    simp only [V.closed] at h
    simp only [Rep, V.norm] at r ⊢
    obtain ⟨a, cap, h1, h2, h3, h4, h5, h6, h7⟩ := r
    refine ⟨a, cap, h1, h2, by simp, by simp, h5, fun ha => ⟨by rw [(h6 ha).1]; rfl, trivial⟩, fun A hA => ?_⟩
    obtain ⟨s1, s2, s3⟩ := h7 A hA
    exact ⟨fun hx => s1 (fun e => by subst e; simp [V.norm.normL] at hx), normC_rep cs _ _ h s2, by simp⟩
  | .rptr cs, v, h, _ => by simp [V.closed] at h
  | .ptr a off, v, h, _ => by simp [V.closed] at h
  | .nilptr, v, _, r => by simpa [Rep, V.norm] using r
  | .slice a off len sz, v, h, _ => by simp [V.closed] at h
  | .map a, v, h, _ => by simp [V.closed] at h
  | .nilmap, v, _, r => by simpa [Rep, V.norm] using r
  | .func fn a b, v, h, r => by
    simp only [V.closed, Bool.and_eq_true] at h
    simp only [Rep, V.norm] at r ⊢
    obtain ⟨a', b', h1, h2, h3⟩ := r
    exact ⟨a', b', h1, normL_rep a _ h.1 h2, normL_rep b _ h.2 h3⟩
  | .nilfunc, v, _, r => by simpa [Rep, V.norm] using r
  | .yld a, v, h, _ => by simp [V.closed] at h
  | .iface t x, v, h, r => by
    simp only [V.closed] at h
    simp only [Rep, V.norm] at r ⊢
    obtain ⟨y, h1, h2⟩ := r
    exact ⟨y, h1, norm_rep x y h h2⟩
  | .niliface, v, _, r => by simpa [Rep, V.norm] using r
  | .agg cs, v, h, r => by
    simp only [V.closed] at h
    simp only [Rep, V.norm] at r ⊢
    obtain ⟨vs, h1, h2⟩ := r
    exact ⟨vs, h1, normL_rep cs _ h h2⟩
  | .tuple cs, v, h, r => by
    simp only [V.closed] at h
    simp only [Rep, V.norm] at r ⊢
    obtain ⟨vs, h1, h2⟩ := r
    exact ⟨vs, h1, normL_rep cs _ h h2⟩
theorem normL_rep {g : Gh} : ∀ (xs : List V) (vs : List Value), V.closed.closedL xs = true → RepL g xs vs → RepL g.shut (V.norm.normL xs) vs
  | [], vs, _, r => by simpa [RepL, V.norm.normL] using r
  | x :: xs, vs, h, r => by
    simp only [V.closed.closedL, Bool.and_eq_true] at h
    simp only [RepL, V.norm.normL] at r ⊢
    obtain ⟨y, ys, h1, h2, h3⟩ := r
    exact ⟨y, ys, h1, norm_rep x y h.1 h2, normL_rep xs ys h.2 h3⟩
theorem normC_rep {g : Gh} : ∀ (xs : List V) (B o : Nat), V.closed.closedL xs = true → RepC g xs B o → RepC g.shut (V.norm.normL xs) B o
  | [], _, _, _, _ => by simp [RepC, V.norm.normL]
  | x :: xs, B, o, h, r => by
    simp only [V.closed.closedL, Bool.and_eq_true] at h
    simp only [RepC, V.norm.normL] at r ⊢
    obtain ⟨⟨v, h1, h2, h3⟩, h4⟩ := r
    exact ⟨⟨v, h1, norm_rep x v h.1 h2, by rw [one_norm]; exact h3⟩, normC_rep xs B (o + 1) h.2 h4⟩
end

/-- What laying open must do. -/
def Opens (g : Gh) (F : V → Option V) : Prop := ∀ x x' u, F x = some x' → Rep g x u → Rep g.shut x' u ∧ (x.one = true → x'.one = true)

theorem mapO_rep {g : Gh} {F : V → Option V} (hF : Opens g F) : ∀ (xs ys : List V), pure1.mapO F xs = some ys → (∀ us, RepL g xs us → RepL g.shut ys us) ∧ (∀ B o, RepC g xs B o → RepC g.shut ys B o)
  | [], ys, h => by
    simp only [pure1.mapO, Option.some.injEq] at h
    subst h
    exact ⟨fun us h => by rw [RepL.nil_iff] at h ⊢; exact h, fun B o h => by simp [RepC]⟩
  | x :: xs, ys, h => by
    simp only [pure1.mapO] at h
    split at h
    · rename_i v vs h1 h2
      simp only [Option.some.injEq] at h
      subst h
      obtain ⟨k1, k2⟩ := mapO_rep hF xs vs h2
      refine ⟨fun us h => ?_, fun B o h => ?_⟩
      · simp only [RepL] at h ⊢
        obtain ⟨y, ys, e1, e2, e3⟩ := h
        exact ⟨y, ys, e1, (hF _ _ _ h1 e2).1, k1 _ e3⟩
      · simp only [RepC] at h ⊢
        obtain ⟨⟨v', e1, e2, e3⟩, e4⟩ := h
        exact ⟨⟨v', e1, (hF _ _ _ h1 e2).1, (hF _ _ _ h1 e2).2 e3⟩, k2 _ _ e4⟩
    · cases h

section
variable {g : Gh} {n0 : Nat} {H : Heap} {w : World} (hI : Inv g n0 H w) {F : V → Option V} (hF : Opens g F)
include hI hF

mutual
theorem pure1_rep : ∀ (v v' : V) (u : Value), pure1 F H v = some v' → Rep g v u → Rep g.shut v' u ∧ (v.one = true → v'.one = true)
  | .undef, v', u, h, r => by simp [pure1] at h
  | .bool b, v', u, h, r => by simp only [pure1, Option.some.injEq] at h; subst h; exact ⟨by simpa [Rep] using r, id⟩
  | .int k n, v', u, h, r => by simp only [pure1, Option.some.injEq] at h; subst h; exact ⟨by simpa [Rep] using r, id⟩
  | .str s, v', u, h, r => by simp only [pure1, Option.some.injEq] at h; subst h; exact ⟨by simpa [Rep] using r, id⟩
  | .row nl fl cs n tok, v', u, h, r => by
    simp only [pure1, Option.map_eq_some_iff] at h
    obtain ⟨cs', h0, rfl⟩ := h
    simp only [Rep] at r ⊢
    obtain ⟨a, cap, h1, h2, h3, h4, h5, h6, h7⟩ := r
    refine ⟨⟨a, cap, h1, h2, by simp, by simp, h5, fun ha => ⟨?_, trivial⟩, fun A hA => ?_⟩, fun _ => rfl⟩
    · have := (h6 ha).1
      subst this
      simpa [pure1.pure1L] using h0.symm
    · obtain ⟨s1, s2, s3⟩ := h7 A hA
      exact ⟨fun hx => s1 (fun e => by subst e; simp [pure1.pure1L] at h0; subst h0; simp at hx), (pure1L_rep cs cs' h0).2 _ _ s2, by simp⟩
  | .rptr cs, v', u, h, r => by simp [pure1] at h
  | .ptr a off, v', u, h, r => by simp [pure1] at h
  | .nilptr, v', u, h, r => by simp only [pure1, Option.some.injEq] at h; subst h; exact ⟨by simpa [Rep] using r, id⟩
  | .slice a off len sz, v', u, h, r => by
    simp only [pure1] at h
    split at h
    · rename_i cs hbl
      split at h
      · simp only [Option.map_eq_some_iff] at h
        obtain ⟨cs', h0, rfl⟩ := h
        obtain ⟨B, m1, m2, m3⟩ := hI.blk a _ hbl
        simp only [Rep] at r
        obtain ⟨B', cap, b1, b2, b3, _⟩ := r
        rw [m1] at b1
        simp only [Option.some.injEq] at b1
        subst b1
        have hc : RepC g ((cs.drop off).take (len * sz)) B off := by
          have := (RepC.drop (g := g) (o := 0) (B := B) m3 off).take (len * sz)
          simpa using this
        refine ⟨?_, fun _ => rfl⟩
        simp only [Rep]
        exact ⟨some ⟨B, off, none⟩, cap, b2, b3, by simp, by simp, by simp, by simp, fun A hA => by
          simp only [Option.some.injEq] at hA
          subst hA
          exact ⟨fun _ => rfl, (mapO_rep hF _ _ h0).2 _ _ hc, by simp⟩⟩
      · cases h
    · cases h
  | .map a, v', u, h, r => by simp [pure1] at h
  | .nilmap, v', u, h, r => by simp only [pure1, Option.some.injEq] at h; subst h; exact ⟨by simpa [Rep] using r, id⟩
  | .func fn a b, v', u, h, r => by
    simp only [pure1] at h
    split at h
    · rename_i a2 b2 h1 h2
      simp only [Option.some.injEq] at h
      subst h
      simp only [Rep] at r ⊢
      obtain ⟨a', b', e1, e2, e3⟩ := r
      exact ⟨⟨a', b', e1, (pure1L_rep a a2 h1).1 _ e2, (pure1L_rep b b2 h2).1 _ e3⟩, fun _ => rfl⟩
    · cases h
  | .nilfunc, v', u, h, r => by simp only [pure1, Option.some.injEq] at h; subst h; exact ⟨by simpa [Rep] using r, id⟩
  | .yld a, v', u, h, r => by simp [pure1] at h
  | .iface t x, v', u, h, r => by
    simp only [pure1, Option.map_eq_some_iff] at h
    obtain ⟨x', h0, rfl⟩ := h
    simp only [Rep] at r ⊢
    obtain ⟨y, h1, h2⟩ := r
    exact ⟨⟨y, h1, (pure1_rep x x' y h0 h2).1⟩, fun _ => rfl⟩
  | .niliface, v', u, h, r => by simp only [pure1, Option.some.injEq] at h; subst h; exact ⟨by simpa [Rep] using r, id⟩
  | .agg cs, v', u, h, r => by
    simp only [pure1, Option.map_eq_some_iff] at h
    obtain ⟨x', h0, rfl⟩ := h
    simp only [Rep] at r ⊢
    obtain ⟨vs, h1, h2⟩ := r
    exact ⟨⟨vs, h1, (pure1L_rep cs x' h0).1 _ h2⟩, fun h => by cases h⟩
  | .tuple cs, v', u, h, r => by
    simp only [pure1, Option.map_eq_some_iff] at h
    obtain ⟨x', h0, rfl⟩ := h
    simp only [Rep] at r ⊢
    obtain ⟨vs, h1, h2⟩ := r
    exact ⟨⟨vs, h1, (pure1L_rep cs x' h0).1 _ h2⟩, fun h => by cases h⟩
theorem pure1L_rep : ∀ (xs ys : List V), pure1.pure1L F H xs = some ys → (∀ us, RepL g xs us → RepL g.shut ys us) ∧ (∀ B o, RepC g xs B o → RepC g.shut ys B o)
  | [], ys, h => by
    simp only [pure1.pure1L, Option.some.injEq] at h
    subst h
    exact ⟨fun us h => by rw [RepL.nil_iff] at h ⊢; exact h, fun B o h => by simp [RepC]⟩
  | x :: xs, ys, h => by
    simp only [pure1.pure1L] at h
    split at h
    · rename_i v vs h1 h2
      simp only [Option.some.injEq] at h
      subst h
      obtain ⟨k1, k2⟩ := pure1L_rep xs vs h2
      refine ⟨fun us h => ?_, fun B o h => ?_⟩
      · simp only [RepL] at h ⊢
        obtain ⟨y, ys, e1, e2, e3⟩ := h
        exact ⟨y, ys, e1, (pure1_rep x v _ h1 e2).1, k1 _ e3⟩
      · simp only [RepC] at h ⊢
        obtain ⟨⟨v', e1, e2, e3⟩, e4⟩ := h
        exact ⟨⟨v', e1, (pure1_rep x v _ h1 e2).1, (pure1_rep x v _ h1 e2).2 e3⟩, k2 _ _ e4⟩
    · cases h
end
end

theorem pureN_opens {g : Gh} {n0 : Nat} {H : Heap} {w : World} (hI : Inv g n0 H w) : ∀ n, Opens g (pureN H n)
  | 0 => fun x x' u h => by simp [pureN] at h
  | n + 1 => fun x x' u h r => pure1_rep hI (pureN_opens hI n) x x' u h r

theorem freezeAll_inv {n0 : Nat} {w : World} : ∀ (as : List Nat) (g : Gh) (H : Heap), Inv g n0 H w → ∃ g', Inv g' n0 (freezeAll H as) w ∧ Good n0 g w g' w
  | [], g, H, h => ⟨g, h, Good.refl _ _ _⟩
  | a :: as, g, H, h => by
    show ∃ g', Inv g' n0 (freezeAll (freezeB H a) as) w ∧ Good n0 g w g' w
    unfold freezeB
    split
    · rename_i cs hbl
      obtain ⟨g1, h1, h2⟩ := h.freeze hbl
      obtain ⟨g2, h3, h4⟩ := freezeAll_inv as g1 _ h1
      exact ⟨g2, h3, h2.trans h4⟩
    · exact freezeAll_inv as g H h

theorem handV_rep {g : Gh} {n0 : Nat} {h h' : Heap} {w : World} {xs ys : List V} {us : List Value} (hh : handV h xs = some (ys, h')) (hI : Inv g n0 h w) (r : RepL g xs us) :
    ∃ g', Inv g' n0 h' w ∧ Good n0 g w g' w ∧ RepL g'.shut ys us := by
  unfold handV at hh
  split at hh
  · rename_i hc
    simp only [Option.some.injEq, Prod.mk.injEq] at hh
    obtain ⟨rfl, rfl⟩ := hh
    exact ⟨g, hI, Good.refl _ _ _, normL_rep xs us hc r⟩
  · simp only [Option.map_eq_some_iff, Prod.mk.injEq] at hh
    obtain ⟨vs, h1, rfl, rfl⟩ := hh
    obtain ⟨g1, h2, h3⟩ := freezeAll_inv (xs.flatMap (reachN h 8)) g h hI
    exact ⟨g1, h2, h3, (mapO_rep (pureN_opens h2 8) xs vs h1).1 us (RepL.mono h3.le _ _ r)⟩

theorem Inv.shut {g : Gh} {n0 n1 : Nat} {h : Heap} {w : World} (hI : Inv g n0 h w) (hn : n1 ≤ w.heap.size) : Inv g.shut n1 emptyH w :=
  ⟨hn, hI.agree, fun a b h => by simp [emptyH] at h, fun _ _ => rfl, fun k sz h => by simp [emptyH] at h, fun _ _ => rfl, fun _ _ => rfl⟩

/-- What is said of a pure call: from the empty heap, closed values to a closed value. -/
def PSim (P : Program) (glob : Nat → Option (List V)) (f : FuncId) (xs : List V) (r : CRes) : Prop :=
  ∀ (g : Gh) (n0 : Nat) (w : World) (vs : Array Value), Inv g.shut n0 emptyH w → (∀ i cs, glob i = some cs → RepC g.shut cs i 0) → RepL g.shut xs vs.toList →
    (callFunc f vs).run P w = .ok (.enter f vs) w ∧ ∀ cs, ∃ (g' : Gh) (w' : World) (frL : Frame), Good n0 g.shut w g'.shut w' ∧ Inv g'.shut n0 emptyH w' ∧ Steps P (lone (Frame.enter P f vs .normal) cs w) (lone frL cs w') ∧ frL.fn = f ∧ LeaveR P g'.shut frL w' r

theorem psim_pt {c : Cfg} {f : FuncId} {xs : List V} {r : CRes} {H : Heap} {o : Option (CRes × Heap)} (ho : outS o = some r) (hb : ∀ r h', o = some (r, h') → BSim c f xs H r h')
    {g g1 : Gh} {n0 : Nat} {w : World} {vs : Array Value} (hg1 : Good n0 g.shut w g1 w) (hI : Inv g1 n0 H w) (hG : GlobOk c g1) (ra : RepL g1 xs vs.toList) :
      (callFunc f vs).run c.P w = .ok (.enter f vs) w ∧ ∀ cs, ∃ (g' : Gh) (w' : World) (frL : Frame), Good n0 g.shut w g'.shut w' ∧ Inv g'.shut n0 emptyH w' ∧ Steps c.P (lone (Frame.enter c.P f vs .normal) cs w) (lone frL cs w') ∧ frL.fn = f ∧ LeaveR c.P g'.shut frL w' r := by
  have key : ∀ (r0 : CRes) (v v' : V) (h' h2 : Heap) , BSim c f xs H r0 h' → handV h' [v] = some ([v'], h2) → (∀ g1 g2 frL w', Good n0 g1 w' g2 w' → (∀ u, Rep g1 v u → Rep g2.shut v' u) → LeaveR c.P g1 frL w' r0 → LeaveR c.P g2.shut frL w' r) →
      (callFunc f vs).run c.P w = .ok (.enter f vs) w ∧ ∀ cs, ∃ (g' : Gh) (w' : World) (frL : Frame), Good n0 g.shut w g'.shut w' ∧ Inv g'.shut n0 emptyH w' ∧ Steps c.P (lone (Frame.enter c.P f vs .normal) cs w) (lone frL cs w') ∧ frL.fn = f ∧ LeaveR c.P g'.shut frL w' r := by
    intro r0 v v' h' h2 hB hh hL
    obtain ⟨k1, k2⟩ := hB g1 n0 w vs hI hG ra
    refine ⟨k1, fun cs => ?_⟩
    obtain ⟨g', w', frL, e1, e2, e3, e4, e5⟩ := k2 cs
    have ⟨g2, f1, f2, _⟩ : ∃ g2, Inv g2 n0 h2 w' ∧ Good n0 g' w' g2 w' ∧ ∀ u, Rep g' v u → Rep g2.shut v' u := by
      unfold handV at hh
      split at hh
      · rename_i hc
        simp only [Option.some.injEq, Prod.mk.injEq] at hh
        obtain ⟨h3, rfl⟩ := hh
        refine ⟨g', e2, Good.refl _ _ _, fun u hu => ?_⟩
        have := normL_rep [v] [u] hc (RepL.cons hu (RepL.nil _))
        rw [h3, RepL.cons_iff] at this
        exact this.1
      · simp only [Option.map_eq_some_iff, Prod.mk.injEq] at hh
        obtain ⟨l, h1, rfl, rfl⟩ := hh
        obtain ⟨g1, h2, h3⟩ := freezeAll_inv ([v].flatMap (reachN h' 8)) g' h' e2
        refine ⟨g1, h2, h3, fun u hu => ?_⟩
        have := (mapO_rep (pureN_opens h2 8) _ _ h1).1 [u] (RepL.cons (hu.mono h3.le) (RepL.nil _))
        rw [RepL.cons_iff] at this
        exact this.1
    have hg := (hg1.trans e1).trans f2
    exact ⟨g2, w', frL, ⟨hg.le.shut, hg.G, hg.below⟩, f1.shut e2.base, e3, e4, hL g' g2 frL w' f2 (by assumption) e5⟩
  unfold outS at ho
  split at ho
  · rename_i v h'
    split at ho
    · rename_i v' h2 hh
      simp only [Option.some.injEq] at ho
      subst ho
      refine key (.ret v) v v' h' h2 (hb _ _ rfl) hh (fun g1 g2 frL w' _ hr hl => ?_)
      obtain ⟨u, u1, u2⟩ := hl
      exact ⟨u, hr u u1, u2⟩
    · cases ho
  · rename_i v h'
    split at ho
    · rename_i v' h2 hh
      simp only [Option.some.injEq] at ho
      subst ho
      refine key (.panic v) v v' h' h2 (hb _ _ rfl) hh (fun g1 g2 frL w' _ hr hl => ?_)
      obtain ⟨u, u1, u2⟩ := hl
      exact ⟨u, hr u u1, u2⟩
    · cases ho
  · cases ho

theorem psim_of_bsim {c : Cfg} {f : FuncId} {xs : List V} {r : CRes} {o : Option (CRes × Heap)} (ho : outS o = some r) (hb : ∀ r h', o = some (r, h') → BSim c f xs emptyH r h') : PSim c.P c.glob f xs r := by
  intro g n0 w vs hI hG ra
  exact psim_pt ho hb (Good.refl _ _ _) hI hG ra

/-- An empty slice of which it is not known whether it is nil: both are tried. -/
theorem psim_empty {c : Cfg} {f : FuncId} {r : CRes} {o1 o2 : Option (CRes × Heap)} (ho1 : outS o1 = some r) (hb1 : ∀ r h', o1 = some (r, h') → BSim c f [.row true true [] 0 none] emptyH r h')
    (ho2 : outS o2 = some r) (hb2 : ∀ r h', o2 = some (r, h') → BSim c f [.row false false [] 0 (some 0)] ⟨[], [none]⟩ r h') : PSim c.P c.glob f [.row false false [] 0 none] r := by
  intro g n0 w vs hI hG ra
  have hra := ra
  simp only [RepL] at ra
  obtain ⟨v, ys, h1, h2, h3⟩ := ra
  subst h3
  simp only [Rep] at h2
  obtain ⟨a, cap, rfl, e1, e2, e3, e4, e5, e6⟩ := h2
  cases a with
  | none =>
    have := e4 rfl
    subst this
    refine psim_pt ho1 hb1 (Good.refl _ _ _) hI hG ?_
    rw [h1]
    refine RepL.cons ?_ (RepL.nil _)
    simp only [Rep]
    exact ⟨none, 0, rfl, Nat.le_refl _, by simp, by simp, by simp, by simp, by simp⟩
  | some A =>
    let g1 : Gh := ⟨g.G, fun _ => none, fun k => if k = 0 then some ⟨0, 0, 0, 0⟩ else none, fun _ => none, fun _ => 0⟩
    have hle : g.shut.le g1 := ⟨fun _ _ _ h => h, fun _ _ h => (by cases h), fun _ _ h => (by cases h), fun _ _ h => (by cases h)⟩
    refine psim_pt (g1 := g1) ho2 hb2 ⟨hle, fun _ _ _ => rfl, Below.refl _ _⟩ ⟨hI.base, hI.agree, fun a b h => by simp at h, fun _ _ => rfl, fun k sz h => ?_, fun k hk => ?_, fun _ _ => rfl⟩ (fun i cs h => hG i cs h) ?_
    · cases k with
      | zero => simp at h
      | succ k => simp at h
    · show (if k = 0 then _ else _) = _
      simp only [List.length_cons, List.length_nil] at hk
      rw [if_neg (by omega)]
    · rw [h1]
      refine RepL.cons ?_ (RepL.nil _)
      simp only [Rep]
      refine ⟨some A, cap, rfl, e1, by simp, by simp, by simp, by simp, fun A' hA' => ⟨by simp, by simp [RepC], fun k hk => ?_⟩⟩
      simp only [Option.some.injEq] at hk
      subst hk
      exact ⟨⟨0, 0, 0, 0⟩, rfl, .inl rfl⟩

/-- A pure call's cells join the caller's ghost. -/
theorem Inv.joinG {g g2 : Gh} {n0 : Nat} {h : Heap} {w w' : World} (hI : Inv g n0 h w) (hg : Good w.heap.size g.shut w g2.shut w') (hI2 : Inv g2.shut w.heap.size emptyH w') :
    Inv { g with G := g2.G } n0 h w' ∧ Good n0 g w { g with G := g2.G } w' := by
  have hle : g.le { g with G := g2.G } := ⟨hg.le.G, fun _ _ h => h, fun _ _ h => h, fun _ _ _ => rfl⟩
  have hheap : ∀ B, B < w.heap.size → w'.heap[B]? = w.heap[B]? := fun B hB => hg.below.block B hB
  have hGB : ∀ B o, B < w.heap.size → g2.G B o = g.G B o := fun B o hB => hg.G B o hB
  have hsize : w.heap.size ≤ w'.heap.size := hg.below.size
  refine ⟨⟨by have := hI.base; omega, hI2.agree, ?_, hI.new, ?_, hI.newt, fun B hB => hI.fresh B (by omega)⟩, ⟨hle, fun B o hB => hGB B o (by have := hI.base; omega), ⟨hg.below.os, hg.below.tape, hg.below.output, hsize, fun B hB => hheap B (by have := hI.base; omega)⟩⟩⟩
  · intro a b hab
    obtain ⟨B, h1, h2, h3⟩ := hI.blk a b hab
    exact ⟨B, h1, h2, h3.keep h1 hle (fun hx => hheap B (hI.own_lt hx)) id (fun hx hz o => by show g2.G B o = none; rw [hGB B o (hI.own_lt hx)]; exact hz o)⟩
  · intro k sz hk
    obtain ⟨t, h1, h2⟩ := hI.tok k sz hk
    have hlt := hI.own_lt h2.2.2.1
    exact ⟨t, h1, h2.keep (hheap _ hlt) h2.2.2.1 (fun o hx => by show g2.G t.B o = none; rw [hGB _ _ hlt]; exact hx)⟩

/-- What is asked of the contracts that a simulation rests on. -/
def ExtOk (c : Cfg) : Prop := ∀ f xs r, c.ext f xs = some r → PSim c.P c.glob f xs r

theorem callS_sim {c : Cfg} (hP : PrOk c.P) (hX : ExtOk c) {E : ExecF} {D : DCallF} (hE : ESim c E) (hD : DSim c D) : CSim c (callS c E D) := by
  intro fv args h r h' hc g n0 w vf vs hI hG rf ra
  unfold callS at hc
  split at hc
  · rename_i f first cap
    obtain ⟨first', cap', rfl, rargs⟩ := func_rep rf ra
    left
    have hinv : ∀ {ar : Array Value}, (callFunc f (first' ++ vs ++ cap')).run c.P w = .ok (.enter f ar) w → (do let d ← Deferred.ofValue (.func (.func f) first' cap') vs; invoke d.target d.args : Sem Next).run c.P w = .ok (.enter f ar) w := by
      intro ar h1
      simpa only [Deferred.ofValue, Sem.run_bind, Sem.run_pure, Result.andThen_ok, invoke] using h1
    split at hc
    · -- a pure call
      split at hc
      · rename_i xs h1 hh
        obtain ⟨g1, i1, i2, i3⟩ := handV_rep hh hI rargs
        have main : ∀ r', PSim c.P c.glob f xs r' → ∃ f' ar, (do let d ← Deferred.ofValue (.func (.func f) first' cap') vs; invoke d.target d.args : Sem Next).run c.P w = .ok (.enter f' ar) w ∧
            ∀ fr cs, ∃ g' w', Good n0 g w g' w' ∧ Inv g' n0 h1 w' ∧ Back c.P g' (lone (Frame.enter c.P f' ar .normal) (fr :: cs) w) fr cs w' r' := by
          intro r' hp
          obtain ⟨k1, k2⟩ := hp g1 w.heap.size w (first' ++ vs ++ cap') (i1.shut (Nat.le_refl _)) (hG.mono i2.le) i3
          refine ⟨f, first' ++ vs ++ cap', hinv k1, fun fr cs => ?_⟩
          obtain ⟨g2, w2, frL, e1, e2, e3, e4, e5⟩ := k2 (fr :: cs)
          obtain ⟨j1, j2⟩ := i1.joinG e1 e2
          have hle : g2.shut.le { g1 with G := g2.G } := ⟨fun _ _ _ h => h, fun _ _ h => (by cases h), fun _ _ h => (by cases h), fun _ _ h => (by cases h)⟩
          refine ⟨_, w2, i2.trans j2, j1, ?_⟩
          cases r' with
          | ret v => obtain ⟨u, u1, u2⟩ := e5; exact ⟨u, u1.mono hle, e3.trans (.one (step_leave_returned u2))⟩
          | panic v => obtain ⟨u, u1, u2⟩ := e5; exact ⟨u, u1.mono hle, e3.trans (.one (step_leave_panicked u2))⟩
        split at hc
        · rename_i r1 hx
          simp only [Option.some.injEq, Prod.mk.injEq] at hc
          obtain ⟨rfl, rfl⟩ := hc
          exact main r1 (hX _ _ _ hx)
        · simp only [Option.map_eq_some_iff, Prod.mk.injEq] at hc
          obtain ⟨r1, ho, rfl, rfl⟩ := hc
          exact main r1 (psim_of_bsim ho (fun r h' hb => bodyS_sim hP hE hD hb))
      · cases hc
    · have hB := bodyS_sim hP hE hD hc
      exact ⟨f, _, hinv (hB g n0 w _ hI hG rargs).1, fun fr cs => hB.back hI hG rargs fr cs⟩
  · rename_i a
    right
    exact roundS_sim hE hc hI hG rf ra
  · cases hc

/-- The statement about regions, for all stages. -/
def RegOkAll (c : Cfg) : Prop := ∀ n, RegOk c (run c n).C

theorem run_sim {c : Cfg} (hP : PrOk c.P) (hX : ExtOk c) (hR : RegOkAll c) : ∀ n, ESim c (run c n).E ∧ CSim c (run c n).C ∧ DSim c (run c n).D
  | 0 => ⟨fun code s ax s' h => by simp [run] at h, fun fv args h r h' hc => by simp [run] at hc, fun fv args h p h' p' hd => by simp [run] at hd⟩
  | n + 1 => by
    obtain ⟨h1, h2, h3⟩ := run_sim hP hX hR n
    exact ⟨fun code s ax s' h => execS_sim h1 h2 (hR n) code s ax s' h, callS_sim hP hX h1 h3, dbodyS_sim hP h1⟩

end Go.Ab
