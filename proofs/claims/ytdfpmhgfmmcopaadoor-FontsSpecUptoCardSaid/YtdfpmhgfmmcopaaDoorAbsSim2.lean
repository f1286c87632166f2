/- Code: what 'execS' says is what the machine does. -/
import Derived.Test.YtdfpmhgfmmcopaaDoorAbsSim1
import Derived.RangeFuncIn
set_option linter.unusedVariables false
set_option linter.unusedSimpArgs false
set_option linter.unusedSectionVars false
set_option linter.deprecated false
namespace Go.Ab
open Go.RowKit (Below)

section
variable {P : Program} {b : Frame} {a : Act} {k : List Item} {cs : List Frame} {w : World}
theorem step_rf_enter {g : Operand} {ps : Array Tmp} {assign body : Code} {l : Nat} {mark : List Deferred} {w₁ w₂ : World} {f : FuncId} {args : Array Value}
    (he : (Instr.enterLoop b.fn a.tmps ps assign body b.roundOf).run P w = .ok (l, mark) w₁)
    (hinv : (do let d ← Deferred.ofValue (a.eval g) #[.func (.yield l) #[] #[]]; invoke d.target d.args : Sem Next).run P w₁ = .ok (.enter f args) w₂) :
    step P (lone (b.atR a (.code (.rangeFunc g ps assign body) :: k)) cs w) =
      .next (lone (Frame.enter P f args .normal) (b.atR { a with defers := mark ++ a.defers } (.inRangeFunc l :: k) :: cs) w₂) :=
  step_lone_go (by
    have hev := Frame.eval_atR b { a with defers := mark ++ a.defers } (.inRangeFunc l :: k)
    simp only [Frame.atR] at hev
    have hres : ({ tmps := a.tmps, defers := mark ++ a.defers } : Act).eval = a.eval := by funext x; cases x <;> rfl
    have hr : (do let d ← resolve a.eval { callee := .value g, args := #[.const (.func (.yield l) #[] #[])], argTypes := #[] } 0; invoke d.target d.args : Sem Next).run P w₁ = .ok (.enter f args) w₂ := by simpa [resolve, Act.eval] using hinv
    simp only [stepG, stepG.exec, Frame.atR, Sem.runT_eq, he, GStep.bare_after, stepG.apply, hev, hres, hr]
    simp)
theorem step_rf_round {g : Operand} {ps : Array Tmp} {assign body : Code} {l : Nat} {mark : List Deferred} {w₁ w₂ : World} {l' : Nat} {f : FuncId} {tm : Array Value} {as bo : Code}
    (he : (Instr.enterLoop b.fn a.tmps ps assign body b.roundOf).run P w = .ok (l, mark) w₁)
    (hinv : (do let d ← Deferred.ofValue (a.eval g) #[.func (.yield l) #[] #[]]; invoke d.target d.args : Sem Next).run P w₁ = .ok (.round l' f tm as bo) w₂) :
    step P (lone (b.atR a (.code (.rangeFunc g ps assign body) :: k)) cs w) =
      .next (lone (Frame.round l' f tm as bo .normal) (b.atR { a with defers := mark ++ a.defers } (.inRangeFunc l :: k) :: cs) w₂) :=
  step_lone_go (by
    have hev := Frame.eval_atR b { a with defers := mark ++ a.defers } (.inRangeFunc l :: k)
    simp only [Frame.atR] at hev
    have hres : ({ tmps := a.tmps, defers := mark ++ a.defers } : Act).eval = a.eval := by funext x; cases x <;> rfl
    have hr : (do let d ← resolve a.eval { callee := .value g, args := #[.const (.func (.yield l) #[] #[])], argTypes := #[] } 0; invoke d.target d.args : Sem Next).run P w₁ = .ok (.round l' f tm as bo) w₂ := by simpa [resolve, Act.eval] using hinv
    simp only [stepG, stepG.exec, Frame.atR, Sem.runT_eq, he, GStep.bare_after, stepG.apply, hev, hres, hr]
    simp)
end

theorem killT_rep {g : Gh} {vs : List Value} : ∀ (ks : List Nat) (t : List V), RepL g t vs → RepL g (killT ks t) vs
  | [], t, h => h
  | k :: ks, t, h => by
    simp only [killT, List.foldl_cons]
    exact killT_rep ks _ (h.forget k)

/-- The statement about regions whose order is drawn, proved elsewhere. -/
def RegOk (c : Cfg) (C : CallF) : Prop :=
  ∀ (ops : Array Oper) (s : St) (r : Ax × St) (t : Nat), (drawOk c ops || drawOkT c ops s.t) = true → execOps c C true ops (List.range ops.size) s = some r →
    execOps c C true ops (Region.schedule (c.P.follows .mixedOrders) ops t) s = some r

theorem getLoop_blk {g : Gh} {n0 : Nat} {H : Heap} {w : World} (hI : Inv g n0 H w) {a : Nat} {t : List V} {ps : List Nat} {as bo : Code} {st : LoopState} {pend : Option Code} {db : Nat}
    (h : H.bs[a]? = some (.loop t ps as bo st pend db)) : ∃ B L, g.mu a = some B ∧ n0 ≤ B ∧ g.be B = some (.blk a) ∧ w.heap[B]? = some (.loop L) ∧ RepL g t L.tmps.toList ∧ L.params.toList = ps ∧
      L.assign = as ∧ L.body = bo ∧ L.state = st ∧ L.pending = pend ∧ g.mu db = some L.defers ∧ a < H.bs.length ∧ B < w.heap.size ∧ ∀ o, g.G B o = none := by
  obtain ⟨B, hmu, hn, hbe, L, h1, h2, h3, h4, h5, h6, h7, h8⟩ := hI.blk a _ h
  refine ⟨B, L, hmu, hn, hbe, h1, h2, h3, h4, h5, h6, h7, h8, (List.getElem?_eq_some_iff.1 h).1, hI.own_lt hbe, fun o => ?_⟩
  cases hgo : g.G B o with
  | none => rfl
  | some v => have := hI.agree B o v hgo; simp [World.cell?, h1] at this

/-- A loop's record is written anew. -/
theorem Inv.setLoop {g : Gh} {n0 : Nat} {H : Heap} {w : World} (hI : Inv g n0 H w) {a : Nat} {t : List V} {ps : List Nat} {as bo : Code} {st : LoopState} {pend : Option Code} {db : Nat}
    (h : H.bs[a]? = some (.loop t ps as bo st pend db)) {B : Nat} {L : Loop} (hmu : g.mu a = some B) (hL : w.heap[B]? = some (.loop L)) (st' : LoopState) (pend' : Option Code) :
    Inv g n0 { H with bs := H.bs.set a (.loop t ps as bo st' pend' db) } (w.putObj B (.loop { L with state := st', pending := pend' })) ∧ Good n0 g w g (w.putObj B (.loop { L with state := st', pending := pend' })) := by
  obtain ⟨B', L', h1, h2, h3, h4, h5, h6, h7, h8, h9, h10, h11, h12, h13, h14⟩ := getLoop_blk hI h
  rw [hmu] at h1
  simp only [Option.some.injEq] at h1
  subst h1
  rw [hL] at h4
  simp only [Option.some.injEq, Obj.loop.injEq] at h4
  subst h4
  exact hI.updBlk (.loop t ps as bo st' pend' db) h12 hmu h2 h3 h14 (But.putObj w B _) ⟨h3, _, World.putObj_heap_same h13, h5, h6, h7, h8, rfl, rfl, h11⟩

set_option maxHeartbeats 1000000 in
theorem rangeFunc_sim {c : Cfg} {E : ExecF} {C : CallF} (hC : CSim c C) (f : Operand) (ps : Array Tmp) (assign body : Code) (s : St) (ax : Ax) (s' : St)
    (h : execS c E C (.rangeFunc f ps assign body) s = some (ax, s')) (g : Gh) (n0 : Nat) (K : Ctx) (b : Frame) (a : Act) (w : World) (k : List Item) (hr : StRel c g n0 K b s a w) :
    ∃ g' a' w', Good n0 g w g' w' ∧ StRel c g' n0 K b s' a' w' ∧ Arr c.P g' (lone (b.atR a (.code (.rangeFunc f ps assign body) :: k)) (K.cs s.p) w) b k (K.cs s'.p) ax a' w' := by
  -- what is common behind the entering
  have main : ∀ (g1 : Gh) (w1 : World) (h1 : Heap) (db DB : Nat) (mark : List Deferred) (d : List Def), Good n0 g w g1 w1 → Inv g1 n0 h1 w1 → g1.mu db = some DB → DefsOk g1 d (mark ++ a.defers) →
      (∀ (o : Obj), True) →
      (Instr.enterLoop b.fn a.tmps ps assign body b.roundOf).run c.P w = .ok (w1.heap.size, mark) (w1.alloc (.loop { state := .ready, pending := none, fn := b.fn, tmps := a.tmps, params := ps, assign, body, defers := DB })) →
      rangeGo c C s f ps assign body h1 db d = some (ax, s') →
      ∃ g' a' w', Good n0 g w g' w' ∧ StRel c g' n0 K b s' a' w' ∧ Arr c.P g' (lone (b.atR a (.code (.rangeFunc f ps assign body) :: k)) (K.cs s.p) w) b k (K.cs s'.p) ax a' w' := by
    intro g1 w1 h1 db DB mark d hgood hI1 hdb hdefs _ hent hgo
    unfold rangeGo at hgo
    let L0 : Loop := { state := .ready, pending := none, fn := b.fn, tmps := a.tmps, params := ps, assign, body, defers := DB }
    have hle1 := Gh.addB_le (hI1.new _ (Nat.le_refl _)) (B := w1.heap.size) (c := 0)
    obtain ⟨k1, k2, k3⟩ := hI1.newBlk (.loop L0) (.loop s.t ps.toList assign body .ready none db) 0 (by
      refine ⟨by simp [Gh.addB], L0, World.alloc_heap_new _ _, RepL.mono (hgood.le.trans hle1) _ _ hr.t, rfl, rfl, rfl, rfl, rfl, hle1.mu _ _ hdb⟩)
    generalize hg2 : g1.addB h1.bs.length w1.heap.size 0 = g2 at k1 k2 k3 hle1
    have hgood2 := hgood.trans k2
    have hargs : RepL g2 [.yld h1.bs.length] (#[Value.func (.yield w1.heap.size) #[] #[]] : Array Value).toList :=
      RepL.cons (by simp only [Rep]; exact ⟨_, k3, rfl⟩) (RepL.nil _)
    have hfv : Rep g2 (evT c s.t f) (a.eval f) := (ev_rep hr.glob hr.t f).mono hgood2.le
    -- the call
    have call : ∀ (r : CRes) (h' : Heap), C (evT c s.t f) [.yld h1.bs.length] (newB h1 (.loop s.t ps.toList assign body .ready none db)) = some (r, h') →
        ∃ g3 w3, Good n0 g2 (w1.alloc (.loop L0)) g3 w3 ∧ Inv g3 n0 h' w3 ∧
          Back c.P g3 (lone (b.atR a (.code (.rangeFunc f ps assign body) :: k)) (K.cs s.p) w) (b.atR { a with defers := mark ++ a.defers } (.inRangeFunc w1.heap.size :: k)) (K.cs s.p) w3 r := by
      intro r h' hcall
      rcases hC _ _ _ r h' hcall g2 n0 (w1.alloc (.loop L0)) (a.eval f) _ k1 (hr.glob.mono hgood2.le) hfv hargs with ⟨f', ar, e1, e2⟩ | ⟨l', f', tm, as, bo, e1, e2⟩
      · obtain ⟨g3, w3, q1, q2, q3⟩ := e2 (b.atR { a with defers := mark ++ a.defers } (.inRangeFunc w1.heap.size :: k)) (K.cs s.p)
        refine ⟨g3, w3, q1, q2, ?_⟩
        have hst := step_rf_enter (P := c.P) (b := b) (a := a) (k := k) (cs := K.cs s.p) hent e1
        cases r with
        | ret v => obtain ⟨u, u1, u2⟩ := q3; exact ⟨u, u1, .head hst u2⟩
        | panic v => obtain ⟨u, u1, u2⟩ := q3; exact ⟨u, u1, .head hst u2⟩
      · obtain ⟨g3, w3, q1, q2, q3⟩ := e2 (b.atR { a with defers := mark ++ a.defers } (.inRangeFunc w1.heap.size :: k)) (K.cs s.p)
        refine ⟨g3, w3, q1, q2, ?_⟩
        have hst := step_rf_round (P := c.P) (b := b) (a := a) (k := k) (cs := K.cs s.p) hent e1
        cases r with
        | ret v => obtain ⟨u, u1, u2⟩ := q3; exact ⟨u, u1, .head hst u2⟩
        | panic v => obtain ⟨u, u1, u2⟩ := q3; exact ⟨u, u1, .head hst u2⟩
    split at hgo
    · rename_i v h' hcall
      obtain ⟨g3, w3, q1, q2, u, u1, u2⟩ := call _ _ hcall
      split at hgo
      · rename_i t p as bo st pend db' hbl
        split at hgo
        · cases hgo
        · rename_i hnb
          obtain ⟨B, L, m1, m2, m3, m4, m5, m6, m7, m8, m9, m10, m11, m12, m13, m14⟩ := getLoop_blk q2 hbl
          have hB : B = w1.heap.size := by
            have := q1.le.mu _ _ k3
            rw [m1] at this
            simpa using this
          subst hB
          obtain ⟨n1, n2⟩ := q2.setLoop hbl m1 m4 .exhausted pend
          have hend := run_endLoop (P := c.P) m4 (by rw [m9]; exact hnb)
          have hpend : ({ L with state := .exhausted, pending := pend } : Loop) = { L with state := .exhausted } := by rw [← m10]
          rw [hpend] at n1 n2
          have hj : (L.pending.map Item.code).toList = (pend.map Item.code).toList := by rw [m10]
          rw [finish_atR_inRangeFunc] at u2
          have hst := stepR_endRangeFunc (P := c.P) (b := b) (a := { a with defers := mark ++ a.defers }) (k := k) (cs := K.cs s.p) hend
          rw [hj] at hst
          clear hj m10 hpend
          generalize ({ L with state := LoopState.exhausted } : Loop) = L1 at hst n1 n2 hend
          have hg3 := hgood2.trans (q1.trans n2)
          have hle3 := hg3.le
          have hst3 : StRel c g3 n0 K b { s with h := { h' with bs := h'.bs.set h1.bs.length (.loop t p as bo .exhausted pend db') }, d } { a with defers := mark ++ a.defers } (w3.putObj w1.heap.size (.loop L1)) :=
            ⟨RepL.mono hle3 _ _ hr.t, n1, hr.glob.mono hle3, hdefs.mono (hle1.trans q1.le), hr.p.mono hle3, hr.ro.mono hle3, hr.kind⟩
          have hsteps := u2.trans (.one hst)
          simp only at hgo
          split at hgo
          · simp only [Option.some.injEq, Prod.mk.injEq] at hgo
            obtain ⟨rfl, rfl⟩ := hgo
            exact ⟨g3, _, _, hg3, hst3, by simp only [Arr]; simpa using hsteps⟩
          · simp only [Option.some.injEq, Prod.mk.injEq] at hgo
            obtain ⟨rfl, rfl⟩ := hgo
            exact ⟨g3, _, _, hg3, hst3, k, by simpa using hsteps⟩
          · simp only [Option.some.injEq, Prod.mk.injEq] at hgo
            obtain ⟨rfl, rfl⟩ := hgo
            exact ⟨g3, _, _, hg3, hst3, k, rfl, by simpa using hsteps⟩
          · cases hgo
      · cases hgo
    · rename_i v h' hcall
      simp only [Option.some.injEq, Prod.mk.injEq] at hgo
      obtain ⟨rfl, rfl⟩ := hgo
      obtain ⟨g3, w3, q1, q2, u, u1, u2⟩ := call _ _ hcall
      rw [Frame.raise_atR] at u2
      have hg3 := hgood2.trans q1
      exact ⟨g3, { a with defers := mark ++ a.defers }, w3, hg3, ⟨RepL.mono hg3.le _ _ hr.t, q2, hr.glob.mono hg3.le, hdefs.mono (hle1.trans q1.le), hr.p.mono hg3.le, hr.ro.mono hg3.le, hr.kind⟩, _, u, u1, u2⟩
    · cases hgo
  simp only [execS] at h
  split at h
  · cases h
  · cases hro : s.ro with
    | none =>
      simp only [hro] at h
      have hb : b.roundOf = none := by have := hr.ro; rw [hro] at this; exact this
      obtain ⟨k1, k2, k3⟩ := hr.inv.newBlk (.deferred (some [])) (.dfr true) 0 ⟨by simp [Gh.addB], World.alloc_heap_new _ _⟩
      refine main _ (w.alloc (.deferred (some []))) (newB s.h (.dfr true)) s.h.bs.length w.heap.size [{ target := .collected w.heap.size, args := #[] }] (.mark s.h.bs.length :: s.d) k2 k1 k3
        ⟨_, a.defers, rfl, ⟨_, k3, rfl⟩, hr.d.mono k2.le⟩ (fun _ => trivial) ?_ h
      rw [hb]
      have := run_enterLoop_outer (P := c.P) (w := w) b.fn a.tmps ps assign body
      rw [this]
      simp
    | some l =>
      simp only [hro] at h
      split at h
      · rename_i t0 ps0 as0 bo0 st0 pe0 db hbl
        obtain ⟨B, L, m1, m2, m3, m4, m5, m6, m7, m8, m9, m10, m11, m12, m13, m14⟩ := getLoop_blk hr.inv hbl
        have hb : b.roundOf = some B := by
          have := hr.ro
          rw [hro] at this
          obtain ⟨B', h1, h2⟩ := this
          rw [m1] at h1
          simp only [Option.some.injEq] at h1
          rw [h2, h1]
        refine main g w s.h db L.defers [] s.d (Good.refl _ _ _) hr.inv m11 (by simpa using hr.d) (fun _ => trivial) ?_ h
        rw [hb]
        simp [Instr.enterLoop, run_getLoop m4]
      · cases h

theorem steps_loop {P : Program} {b : Frame} {a : Act} {k : List Item} {cs : List Frame} {w : World} {x : Code} {m' : Machine} (h : Steps P (lone (b.atR a (.code (.loop x) :: k)) cs w) m')
    (hne : m' ≠ lone (b.atR a (.code (.loop x) :: k)) cs w) : Steps P (lone (b.atR a (.inLoop x :: k)) cs w) m' := by
  obtain ⟨n, hn⟩ := h
  cases n with
  | zero => simp only [runN, Stepped.next.injEq] at hn; exact absurd hn.symm hne
  | succ n =>
    refine ⟨n + 1, ?_⟩
    simp only [runN, stepR_loop] at hn
    simp only [runN, stepR_inLoop]
    exact hn

theorem lone_todo {f1 f2 : Frame} {c1 c2 : List Frame} {w1 w2 : World} (h : lone f1 c1 w1 = lone f2 c2 w2) : f1.todo = f2.todo ∧ f1.mode = f2.mode := by
  have hg := congrArg Machine.gs h
  simp only [lone] at hg
  have := congrArg Array.toList hg
  simp only [List.cons.injEq, Goroutine.mk.injEq, and_true] at this
  exact ⟨by rw [this.1], by rw [this.1]⟩

theorem Arr.loop_of {P : Program} {g : Gh} {b : Frame} {a a' : Act} {k : List Item} {cs cs' : List Frame} {w w' : World} {x : Code} {ax : Ax}
    (h : Arr P g (lone (b.atR a (.code (.loop x) :: k)) cs w) b k cs' ax a' w') : Arr P g (lone (b.atR a (.inLoop x :: k)) cs w) b k cs' ax a' w' := by
  cases ax with
  | normal =>
    refine steps_loop h fun e => ?_
    have := (lone_todo e).1
    simp only [Frame.atR] at this
    exact List.cons_ne_self _ _ this.symm
  | exit id =>
    obtain ⟨k1, h1, h2⟩ := h
    refine ⟨k1, h1, steps_loop h2 fun e => ?_⟩
    have := (lone_todo e).1
    simp [Frame.atR] at this
  | ret =>
    obtain ⟨k1, h2⟩ := h
    refine ⟨k1, steps_loop h2 fun e => ?_⟩
    have := (lone_todo e).1
    simp [Frame.atR] at this
  | panic v =>
    obtain ⟨td, u, h1, h2⟩ := h
    refine ⟨td, u, h1, steps_loop h2 fun e => ?_⟩
    have := (lone_todo e).2
    simp [Frame.atR] at this

theorem execS_sim {c : Cfg} {E : ExecF} {C : CallF} (hE : ESim c E) (hC : CSim c C) (hR : RegOk c C) : ESim c (execS c E C) := by
  intro code s ax s' h g n0 K b a w k hr
  cases code with
  | skip =>
    simp only [execS, Option.some.injEq, Prod.mk.injEq] at h
    obtain ⟨rfl, rfl⟩ := h
    exact ⟨g, a, w, Good.refl _ _ _, hr, .one stepR_skip⟩
  | label l =>
    simp only [execS, Option.some.injEq, Prod.mk.injEq] at h
    obtain ⟨rfl, rfl⟩ := h
    exact ⟨g, a, w, Good.refl _ _ _, hr, .one stepR_label⟩
  | seq x y =>
    simp only [execS] at h
    cases hx : E x s with
    | none => simp [hx] at h
    | some p =>
      obtain ⟨ax1, s1⟩ := p
      obtain ⟨g1, a1, w1, e1, e2, e3⟩ := hE x s ax1 s1 hx g n0 K b a w (.code y :: k) hr
      cases ax1 with
      | normal =>
        simp only [hx] at h
        obtain ⟨g2, a2, w2, f1, f2, f3⟩ := hE y s1 ax s' h g1 n0 K b a1 w1 k e2
        exact ⟨g2, a2, w2, e1.trans f1, f2, .of_steps (.head stepR_seq e3) f3⟩
      | exit id =>
        simp only [hx, Option.some.injEq, Prod.mk.injEq] at h
        obtain ⟨rfl, rfl⟩ := h
        exact ⟨g1, a1, w1, e1, e2, .of_steps (.one stepR_seq) (.pass (x := .code y) rfl (by simp) e3)⟩
      | ret =>
        simp only [hx, Option.some.injEq, Prod.mk.injEq] at h
        obtain ⟨rfl, rfl⟩ := h
        exact ⟨g1, a1, w1, e1, e2, .of_steps (.one stepR_seq) (.pass (x := .code y) rfl (by simp) e3)⟩
      | panic v =>
        simp only [hx, Option.some.injEq, Prod.mk.injEq] at h
        obtain ⟨rfl, rfl⟩ := h
        exact ⟨g1, a1, w1, e1, e2, .of_steps (.one stepR_seq) (.pass (x := .code y) rfl (by simp) e3)⟩
  | cond q x y =>
    simp only [execS] at h
    have hq := ev_rep hr.glob hr.t q
    split at h
    · rename_i hb
      rw [hb] at hq
      obtain ⟨g1, a1, w1, e1, e2, e3⟩ := hE x s ax s' h g n0 K b a w k hr
      exact ⟨g1, a1, w1, e1, e2, .of_steps (.one (stepR_cond (t := true) (rep_bool hq))) e3⟩
    · rename_i hb
      rw [hb] at hq
      obtain ⟨g1, a1, w1, e1, e2, e3⟩ := hE y s ax s' h g n0 K b a w k hr
      exact ⟨g1, a1, w1, e1, e2, .of_steps (.one (stepR_cond (t := false) (rep_bool hq))) e3⟩
    · cases h
  | block id x =>
    simp only [execS] at h
    cases hx : E x s with
    | none => simp [hx] at h
    | some p =>
      obtain ⟨ax1, s1⟩ := p
      obtain ⟨g1, a1, w1, e1, e2, e3⟩ := hE x s ax1 s1 hx g n0 K b a w (.inBlock id :: k) hr
      cases ax1 with
      | normal =>
        simp only [hx, Option.some.injEq, Prod.mk.injEq] at h
        obtain ⟨rfl, rfl⟩ := h
        exact ⟨g1, a1, w1, e1, e2, .head stepR_block (Steps.trans e3 (.one stepR_inBlock))⟩
      | exit id' =>
        simp only [hx] at h
        obtain ⟨k1, f1, f2⟩ := e3
        by_cases hid : id' = id
        · simp only [hid, if_true, Option.some.injEq, Prod.mk.injEq] at h
          obtain ⟨rfl, rfl⟩ := h
          subst hid
          refine ⟨g1, a1, w1, e1, e2, .head stepR_block (f2.trans (.one (stepR_exit ?_)))⟩
          rw [f1]
          simp [exitTo]
        · simp only [hid, if_false, Option.some.injEq, Prod.mk.injEq] at h
          obtain ⟨rfl, rfl⟩ := h
          refine ⟨g1, a1, w1, e1, e2, k1, ?_, .head stepR_block f2⟩
          rw [f1]
          have : (id == id') = false := by simp; exact fun e => hid e.symm
          simp [exitTo, this]
      | ret =>
        simp only [hx, Option.some.injEq, Prod.mk.injEq] at h
        obtain ⟨rfl, rfl⟩ := h
        obtain ⟨k1, f2⟩ := e3
        exact ⟨g1, a1, w1, e1, e2, k1, .head stepR_block f2⟩
      | panic v =>
        simp only [hx, Option.some.injEq, Prod.mk.injEq] at h
        obtain ⟨rfl, rfl⟩ := h
        obtain ⟨td, u, f1, f2⟩ := e3
        exact ⟨g1, a1, w1, e1, e2, td, u, f1, .head stepR_block f2⟩
  | loop x =>
    simp only [execS] at h
    have kill : ∀ {g : Gh} {s : St} {a : Act} {w : World}, StRel c g n0 K b s a w → StRel c g n0 K b (killS c x s) a w := by
      intro g s a w hr
      unfold killS
      split
      · exact ⟨killT_rep _ _ hr.t, hr.inv, hr.glob, hr.d, hr.p, hr.ro, hr.kind⟩
      · exact hr
    have killp : ∀ s : St, (killS c x s).p = s.p := by intro s; unfold killS; split <;> rfl
    have hr0 := kill hr
    have hp0 := killp s
    generalize killS c x s = s0 at h hr0 hp0
    cases hx : E x s0 with
    | none => simp [hx] at h
    | some p =>
      obtain ⟨ax1, s1⟩ := p
      obtain ⟨g1, a1, w1, e1, e2, e3⟩ := hE x s0 ax1 s1 hx g n0 K b a w (.inLoop x :: k) hr0
      rw [hp0] at e3
      cases ax1 with
      | normal =>
        simp only [hx] at h
        obtain ⟨g2, a2, w2, f1, f2, f3⟩ := hE (.loop x) s1 ax s' h g1 n0 K b a1 w1 k e2
        refine ⟨g2, a2, w2, e1.trans f1, f2, ?_⟩
        exact .of_steps (.head stepR_loop e3) f3.loop_of
      | exit id =>
        simp only [hx, Option.some.injEq, Prod.mk.injEq] at h
        obtain ⟨rfl, rfl⟩ := h
        refine ⟨g1, a1, w1, e1, kill e2, ?_⟩
        rw [killp]
        exact .of_steps (.one stepR_loop) (.pass (x := .inLoop x) rfl (by simp) e3)
      | ret =>
        simp only [hx, Option.some.injEq, Prod.mk.injEq] at h
        obtain ⟨rfl, rfl⟩ := h
        refine ⟨g1, a1, w1, e1, kill e2, ?_⟩
        rw [killp]
        exact .of_steps (.one stepR_loop) (.pass (x := .inLoop x) rfl (by simp) e3)
      | panic v =>
        simp only [hx, Option.some.injEq, Prod.mk.injEq] at h
        obtain ⟨rfl, rfl⟩ := h
        refine ⟨g1, a1, w1, e1, kill e2, ?_⟩
        rw [killp]
        exact .of_steps (.one stepR_loop) (.pass (x := .inLoop x) rfl (by simp) e3)
  | region id ops draw =>
    simp only [execS] at h
    split at h
    · cases h
    · rename_i hd
      cases draw with
      | false =>
        obtain ⟨g1, a1, w1, e1, e2, e3⟩ := execOps_sim hC false ops _ s ax s' h g n0 K b a w k hr
        exact ⟨g1, a1, w1, e1, e2, .of_steps (.one stepR_region) e3⟩
      | true =>
        simp only [Bool.true_and, Bool.not_eq_true', Bool.not_eq_false] at hd
        have h' := hR ops s (ax, s') (w.tape w.drawn (.order b.fn id)) hd h
        obtain ⟨g1, a1, w1, e1, e2, e3⟩ := execOps_sim hC true ops _ s ax s' h' g n0 K b a w.drew k ⟨hr.t, hr.inv.drew, hr.glob, hr.d, hr.p, hr.ro, hr.kind⟩
        exact ⟨g1, a1, w1, (Good.drew n0 g w).trans e1, e2, .of_steps (.one stepR_region_draw) e3⟩
  | exit id =>
    simp only [execS, Option.some.injEq, Prod.mk.injEq] at h
    obtain ⟨rfl, rfl⟩ := h
    exact ⟨g, a, w, Good.refl _ _ _, hr, k, rfl, .refl _ _⟩
  | ret =>
    simp only [execS, Option.some.injEq, Prod.mk.injEq] at h
    obtain ⟨rfl, rfl⟩ := h
    exact ⟨g, a, w, Good.refl _ _ _, hr, k, .refl _ _⟩
  | rangeFunc f ps assign body => exact rangeFunc_sim hC f ps assign body s ax s' h g n0 K b a w k hr
  | _ => simp [execS] at h

end Go.Ab
