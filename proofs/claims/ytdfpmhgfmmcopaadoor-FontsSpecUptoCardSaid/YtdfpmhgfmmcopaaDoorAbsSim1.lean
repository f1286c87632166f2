/- The operations of a region, one after the other, in whatever order they are listed. -/
import Derived.Test.YtdfpmhgfmmcopaaDoorAbsStep
set_option linter.unusedVariables false
set_option linter.unusedSimpArgs false
set_option linter.unusedSectionVars false
set_option linter.deprecated false
namespace Go.Ab
open Go.RowKit (Below)

theorem wantedV_ok {g : Gh} {t : List V} {a : Act} (ht : RepL g t a.tmps.toList) {ops : Array Oper} {o : Oper} {r : Bool} (h : wantedV ops o t = some r) : Region.wanted o (yielded ops a.tmps) = r := by
  unfold wantedV at h
  unfold Region.wanted
  cases hg : o.guard with
  | none => simp only [hg, Option.some.injEq] at h; exact h
  | some jw =>
    obtain ⟨j, want⟩ := jw
    simp only [hg] at h ⊢
    cases ho : ops[j]? with
    | none => simp [ho] at h
    | some gop =>
      simp only [ho] at h
      cases hd : gop.dst with
      | none => simp [hd] at h
      | some d =>
        simp only [hd] at h
        cases hx : t[d]? with
        | none => simp [hx] at h
        | some x =>
          obtain ⟨v, hv, hr⟩ := ht.get hx
          have hv' : a.tmps[d]? = some v := by simpa using hv
          have hy : yielded ops a.tmps j = (match v with | .bool b => some b | _ => none) := by
            simp only [yielded, ho, Option.bind_some, hd, hv']
            cases v <;> rfl
          rw [hy]
          simp only [hx] at h
          cases x with
          | bool b =>
            simp only [Option.some.injEq] at h
            have := rep_bool hr
            subst this
            simp only [← h]
            cases b <;> cases want <;> rfl
          | undef => simp at h
          | _ =>
            simp only [Option.some.injEq] at h
            subst h
            simp only [Rep] at hr
            first
              | (subst hr; rfl)
              | (obtain ⟨_, _, rfl, _⟩ := hr; rfl)
              | (obtain ⟨_, rfl, _⟩ := hr; rfl)
              | (obtain ⟨_, _, rfl⟩ := hr; rfl)
              | (obtain ⟨_, _, _, rfl, _⟩ := hr; rfl)

theorem roundOf_none {g : Gh} {s : St} {b : Frame} (h : RoOk g s.ro b) (hs : s.ro.isSome = false) : b.roundOf = none := by
  cases hr : s.ro with
  | none => rw [hr] at h; exact h
  | some l => rw [hr] at hs; simp at hs

set_option maxHeartbeats 1000000 in
theorem execOps_sim {c : Cfg} {C : CallF} (hC : CSim c C) (q : Bool) (ops : Array Oper) : ∀ (l : List Nat) (s : St) (ax : Ax) (s' : St), execOps c C q ops l s = some (ax, s') →
    ∀ (g : Gh) (n0 : Nat) (K : Ctx) (b : Frame) (a : Act) (w : World) (k : List Item), StRel c g n0 K b s a w →
    ∃ g' a' w', Good n0 g w g' w' ∧ StRel c g' n0 K b s' a' w' ∧ Arr c.P g' (lone (b.atR a (.inRegion ops l :: k)) (K.cs s.p) w) b k (K.cs s'.p) ax a' w'
  | [], s, ax, s', h, g, n0, K, b, a, w, k, hr => by
    simp only [execOps, Option.some.injEq, Prod.mk.injEq] at h
    obtain ⟨rfl, rfl⟩ := h
    exact ⟨g, a, w, Good.refl _ _ _, hr, .one stepR_region_end⟩
  | i :: l, s, ax, s', h, g, n0, K, b, a, w, k, hr => by
    simp only [execOps] at h
    cases ho : ops[i]? with
    | none => simp [ho] at h
    | some o =>
      simp only [ho] at h
      have go : ∀ (g1 : Gh) (w1 : World) (s1 : St) (a1 : Act), Good n0 g w g1 w1 → StRel c g1 n0 K b s1 a1 w1 → execOps c C q ops l s1 = some (ax, s') →
          step c.P (lone (b.atR a (.inRegion ops (i :: l) :: k)) (K.cs s.p) w) = .next (lone (b.atR a1 (.inRegion ops l :: k)) (K.cs s1.p) w1) →
          ∃ g' a' w', Good n0 g w g' w' ∧ StRel c g' n0 K b s' a' w' ∧ Arr c.P g' (lone (b.atR a (.inRegion ops (i :: l) :: k)) (K.cs s.p) w) b k (K.cs s'.p) ax a' w' := by
        intro g1 w1 s1 a1 hgood hr1 hex hst
        obtain ⟨g', a', w', e1, e2, e3⟩ := execOps_sim hC q ops l s1 ax s' hex g1 n0 K b a1 w1 k hr1
        exact ⟨g', a', w', hgood.trans e1, e2, .of_steps (.one hst) e3⟩
      cases hw : wantedV ops o s.t with
      | none => simp [hw] at h
      | some wb =>
        have hwant := wantedV_ok hr.t hw
        cases wb with
        | false =>
          simp only [hw] at h
          refine go g w _ (a.put o.dst Go.undef) (Good.refl _ _ _) (hr.put (.refl g) hr.inv o.dst Rep.tuple0) h ?_
          have := stepR_op_skip (P := c.P) (b := b) (a := a) (k := k) (cs := K.cs s.p) (w := w) (ops := ops) (i := i) (rest := l) (by simp [ho, hwant])
          simp only [ho, Option.bind_some] at this
          exact this
        | true =>
          simp only [hw] at h
          cases hop : opR c s.h (evT c s.t) o with
          | none => simp [hop] at h
          | some r =>
            have hrun := opR_run (w := w) (a := a) hop hr.inv hr.glob hr.t
            have hnd := opR_defer hop
            have hsem : (∀ d, r ≠ .dfr d) → o.semAt b.roundOf a.eval = execOp a.eval o := fun hd => Oper.semAt_eq _ _ _ (hnd hd)
            simp only [hop] at h
            cases r with
            | val v h' =>
              simp only at h
              obtain ⟨g', w', u, r1, r2, r3, r4⟩ := hrun
              refine go g' w' _ (a.put o.dst u) r2 (hr.put r2.le r3 o.dst r4) h ?_
              exact step_op_value ho hwant (by rw [hsem (by simp)]; exact r1)
            | skip h' =>
              simp only at h
              obtain ⟨g', w', r1, r2, r3⟩ := hrun
              refine go g' w' _ (a.put o.dst Go.undef) r2 (hr.put r2.le r3 o.dst Rep.tuple0) h ?_
              exact step_op_skip' ho hwant (by rw [hsem (by simp)]; exact r1)
            | dfr d =>
              simp only at h
              split at h
              · cases h
              · rename_i hro
                simp only [Bool.not_eq_true] at hro
                have hb := roundOf_none hr.ro hro
                cases d with
                | mark m => exact hrun.elim
                | call fv args =>
                  obtain ⟨d, r1, vf, vs, r2, r3, r4⟩ := hrun
                  refine go g w _ ({ a with defers := d :: a.defers }.put o.dst Go.undef) (Good.refl _ _ _) ?_ h ?_
                  · have := hr.put (.refl g) hr.inv o.dst Rep.tuple0
                    refine ⟨?_, hr.inv, hr.glob, ?_, hr.p, hr.ro, hr.kind⟩
                    · have := this.t
                      rw [put_tmps] at this ⊢
                      exact this
                    · rw [put_defers]
                      exact ⟨d, a.defers, rfl, ⟨vf, vs, r2, r3, by
                        have hf := r2
                        unfold Deferred.ofValue at r4 ⊢
                        split at r4
                        · simp only [Sem.run_pure, Result.ok.injEq, and_true] at r4; rw [← r4]
                        · simp only [Sem.run_pure, Result.ok.injEq, and_true] at r4; rw [← r4]
                        · simp at r4⟩, hr.d⟩
                  · refine step_op_defer ho hwant ?_
                    rw [hb, Oper.semAt_none]; exact r1
            | pan v =>
              simp only at h
              split at h
              · cases h
              · simp only [Option.some.injEq, Prod.mk.injEq] at h
                obtain ⟨rfl, rfl⟩ := h
                obtain ⟨u, r1, r2⟩ := hrun
                exact ⟨g, a, w, Good.refl _ _ _, hr, _, u, r2, .one (step_op_panic ho hwant (by rw [hsem (by simp)]; exact r1))⟩
            | recover =>
              simp only at h
              split at h
              · cases h
              · rename_i hro
                simp only [Bool.not_eq_true] at hro
                have hb := roundOf_none hr.ro hro
                have hrun' : (o.semAt b.roundOf a.eval).run c.P w = .ok .recover w := by rw [hsem (by simp)]; exact hrun
                have hk := hr.kind
                have hp := hr.p
                split at h
                · rename_i v hsp
                  cases K with
                  | nrm cs => rw [hsp] at hp; exact hp.elim
                  | dfr c0 rest u =>
                    rw [hsp] at hp
                    simp only [PanOk] at hp
                    simp only [Ctx.kind] at hk
                    refine go g w _ (a.put o.dst u) (Good.refl _ _ _) ?_ h ?_
                    · have := hr.put (.refl g) hr.inv o.dst (x := v) hp
                      exact ⟨this.t, this.inv, this.glob, this.d, hp, this.ro, hr.kind⟩
                    · refine step_op_recover_some ho hwant hb hrun' ?_
                      simp [tryRecover, Frame.atR, hk, Ctx.cs, pmode, hsp]
                · rename_i hne
                  refine go g w _ (a.put o.dst .nilIface) (Good.refl _ _ _) (hr.put (.refl g) hr.inv o.dst (x := .niliface) (by simp [Rep])) h ?_
                  refine step_op_recover_none ho hwant hb hrun' ?_
                  cases K with
                  | nrm cs => simp only [Ctx.kind] at hk; simp [tryRecover, Frame.atR, hk]
                  | dfr c0 rest u =>
                    simp only [Ctx.kind] at hk
                    cases hsp : s.p with
                    | pan v => exact absurd hsp (hne v)
                    | no => simp [tryRecover, Frame.atR, hk, Ctx.cs, pmode]
                    | got v => simp [tryRecover, Frame.atR, hk, Ctx.cs, pmode]
            | call fv args =>
              simp only at h
              split at h
              · cases h
              · obtain ⟨vf, vs, r1, r2, r3⟩ := hrun
                have hrun' : (o.semAt b.roundOf a.eval).run c.P w = (do let d ← Deferred.ofValue vf vs; invoke d.target d.args : Sem Next).run c.P w := by rw [hsem (by simp), r3]
                have fin : ∀ (r : CRes) (h' : Heap), C fv args s.h = some (r, h') →
                    ∃ g1 w1, Good n0 g w g1 w1 ∧ Inv g1 n0 h' w1 ∧ Back c.P g1 (lone (b.atR a (.inRegion ops (i :: l) :: k)) (K.cs s.p) w) (b.atR a (.inRegion ops (i :: l) :: k)) (K.cs s.p) w1 r := by
                  intro r h' hcall
                  rcases hC fv args s.h r h' hcall g n0 w vf vs hr.inv hr.glob r1 r2 with ⟨f, ar, e1, e2⟩ | ⟨l', f, tm, as, bo, e1, e2⟩
                  · obtain ⟨g1, w1, q1, q2, q3⟩ := e2 (b.atR a (.inRegion ops (i :: l) :: k)) (K.cs s.p)
                    refine ⟨g1, w1, q1, q2, ?_⟩
                    have hst := step_op_enter (P := c.P) (b := b) (a := a) (k := k) (cs := K.cs s.p) (rest := l) ho hwant (by rw [hrun', e1])
                    cases r with
                    | ret v => obtain ⟨u, u1, u2⟩ := q3; exact ⟨u, u1, .head hst u2⟩
                    | panic v => obtain ⟨u, u1, u2⟩ := q3; exact ⟨u, u1, .head hst u2⟩
                  · obtain ⟨g1, w1, q1, q2, q3⟩ := e2 (b.atR a (.inRegion ops (i :: l) :: k)) (K.cs s.p)
                    refine ⟨g1, w1, q1, q2, ?_⟩
                    have hst := step_op_round (P := c.P) (b := b) (a := a) (k := k) (cs := K.cs s.p) (rest := l) ho hwant (by rw [hrun', e1])
                    cases r with
                    | ret v => obtain ⟨u, u1, u2⟩ := q3; exact ⟨u, u1, .head hst u2⟩
                    | panic v => obtain ⟨u, u1, u2⟩ := q3; exact ⟨u, u1, .head hst u2⟩
                split at h
                · rename_i v h' hcall
                  obtain ⟨g1, w1, q1, q2, u, u1, u2⟩ := fin _ _ hcall
                  rw [fin_at ho] at u2
                  obtain ⟨g', a', w', e1, e2, e3⟩ := execOps_sim hC q ops l _ ax s' h g1 n0 K b (a.put o.dst u) w1 k (hr.put q1.le q2 o.dst u1)
                  exact ⟨g', a', w', q1.trans e1, e2, .of_steps u2 e3⟩
                · rename_i v h' hcall
                  split at h
                  · cases h
                  · simp only [Option.some.injEq, Prod.mk.injEq] at h
                    obtain ⟨rfl, rfl⟩ := h
                    obtain ⟨g1, w1, q1, q2, u, u1, u2⟩ := fin _ _ hcall
                    rw [Frame.raise_atR] at u2
                    exact ⟨g1, a, w1, q1, ⟨RepL.mono q1.le _ _ hr.t, q2, hr.glob.mono q1.le, hr.d.mono q1.le, hr.p.mono q1.le, hr.ro.mono q1.le, hr.kind⟩, _, u, u1, u2⟩
                · cases h

end Go.Ab
