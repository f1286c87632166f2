/- Calls: bodies, deferred calls, rounds. -/
import Derived.Test.YtdfpmhgfmmcopaaDoorAbsSim2
import Derived.Defers
import Derived.RangeFuncLeaves
set_option linter.unusedVariables false
set_option linter.unusedSimpArgs false
set_option linter.unusedSectionVars false
set_option linter.deprecated false
namespace Go.Ab
open Go.RowKit (Below)

/-- What is asked of a program once. -/
structure PrOk (P : Program) : Prop where
  names : ∀ (f : FuncId) (fn : Func), P.funcs[f]? = some fn → fn.name ≠ "runtime.NumGoroutine"
  follows : P.follows .mixedOrders = true

theorem callFunc_run {P : Program} (hP : PrOk P) {f : FuncId} {fn : Func} {code : Code} (hf : P.funcs[f]? = some fn) (hb : fn.body = some code) (args : Array Value) (w : World) :
    (callFunc f args).run P w = .ok (.enter f args) w := by
  have hn := hP.names f fn hf
  simp [callFunc, hf, hn, hb]

theorem readRes_run {c : Cfg} {g : Gh} {n0 : Nat} {H : Heap} {w : World} (hI : Inv g n0 H w) {t : List V} {tm : Array Value} (ht : RepL g t tm.toList) (F : ResultVar → Sem Value)
    (F1 : ∀ i, F (.tmp i) = pure (tm.getD i Go.undef)) (F2 : ∀ a ty, F (.cell a ty) = (do loadVar ty (← asAddr (tm.getD a Go.undef)))) : ∀ (rs : List ResultVar) (vs : List V), readRes c.P H t rs = some vs →
    ∃ us : List Value, (rs.mapM F).run c.P w = .ok us w ∧ RepL g vs us
  | [], vs, h => by
    simp only [readRes, Option.some.injEq] at h
    subst h
    exact ⟨[], by simp, RepL.nil g⟩
  | r :: rs, vs, h => by
    have getD_rep : ∀ i, Rep g (t.getD i .undef) (tm.getD i Go.undef) := by
      intro i
      cases hx : t[i]? with
      | none => simp [List.getD, hx, Rep]
      | some y =>
        obtain ⟨v, hv, hr⟩ := ht.get hx
        have hv' : tm[i]? = some v := by simpa using hv
        have : i < tm.size := (Array.getElem?_eq_some_iff.1 hv').1
        have e1 : tm.getD i Go.undef = v := by
          have := (Array.getElem?_eq_some_iff.1 hv').2
          simp [Array.getD, *]
        rw [e1]
        simpa [List.getD, hx] using hr
    cases r with
    | tmp i =>
      simp only [readRes, Option.map_eq_some_iff] at h
      obtain ⟨vs', h1, rfl⟩ := h
      obtain ⟨us, e1, e2⟩ := readRes_run hI ht F F1 F2 rs vs' h1
      refine ⟨_ :: us, ?_, RepL.cons (getD_rep i) e2⟩
      rw [List.mapM_cons, F1]
      simp only [Sem.run_bind, Sem.run_pure, Result.andThen_ok, e1]
    | cell a ty =>
      simp only [readRes] at h
      split at h
      · rename_i v vs' h1 h2
        simp only [Option.some.injEq] at h
        subst h
        obtain ⟨us, e1, e2⟩ := readRes_run hI ht F F1 F2 rs vs' h2
        obtain ⟨u, B, o, f1, f2, f3⟩ := loadP_run h1 hI (getD_rep a)
        refine ⟨u :: us, ?_, RepL.cons f3 e2⟩
        rw [List.mapM_cons, F2, f1]
        simp only [asAddr, Sem.run_bind, Sem.run_pure, Result.andThen_ok, f2, e1]
      · cases h

theorem results_run {c : Cfg} {g : Gh} {n0 : Nat} {H : Heap} {w : World} (hI : Inv g n0 H w) {t : List V} {tm : Array Value} (ht : RepL g t tm.toList) {fn : Func} {vs : List V} (h : readRes c.P H t fn.results.toList = some vs) :
    ∃ u, (results fn tm).run c.P w = .ok u w ∧ Rep g (packRes vs) u := by
  have key : ∀ (F : ResultVar → Sem Value), results fn tm = (do let vs ← fn.results.mapM F; pure (if h : vs.size = 1 then vs[0] else .tuple vs)) → (∀ i, F (.tmp i) = pure (tm.getD i Go.undef)) → (∀ a ty, F (.cell a ty) = (do loadVar ty (← asAddr (tm.getD a Go.undef)))) → ∃ u, (results fn tm).run c.P w = .ok u w ∧ Rep g (packRes vs) u := by
    intro F hF F1 F2
    obtain ⟨us, e1, e2⟩ := readRes_run (c := c) hI ht F F1 F2 _ _ h
    have hlen := e2.length
    refine ⟨if h : us.toArray.size = 1 then us.toArray[0] else .tuple us.toArray, ?_, ?_⟩
    · rw [hF, Array.mapM_eq_mapM_toList]
      simp only [Sem.run_bind, Sem.run_map, e1, Result.andThen_ok, Sem.run_pure]
    · match vs, us, e2, hlen with
      | [], [], e2, _ => simp only [packRes, Rep]; exact ⟨#[], by simp, RepL.nil g⟩
      | [v], [u], e2, _ => rw [RepL.cons_iff] at e2; simpa [packRes] using e2.1
      | v :: v2 :: vs, u :: u2 :: us, e2, _ =>
        simp only [packRes, Rep]
        exact ⟨(u :: u2 :: us).toArray, by simp, e2⟩
      | [], _ :: _, _, h => simp at h
      | [_], [], _, h => simp at h
      | [_], _ :: _ :: _, _, h => simp at h
      | _ :: _ :: _, [], _, h => simp at h
      | _ :: _ :: _, [_], _, h => simp at h
  exact key _ rfl (fun _ => rfl) (fun _ _ => rfl)

theorem initT_rep {g : Gh} {args : List V} {vs : Array Value} (h : RepL g args vs.toList) (fn : Func) : RepL g (initT fn args) (vs ++ Array.replicate (fn.ntmps - vs.size) Go.undef).toList := by
  have hl := h.length
  simp at hl
  rw [Array.toList_append, initT, Array.toList_replicate, hl]
  exact h.append (RepL.replicate Rep.tuple0 _)

/-- What a simulation of deferred calls says. -/
def DSim (c : Cfg) (D : DCallF) : Prop :=
  ∀ (fv : V) (args : List V) (h : Heap) (p : Pan) (h' : Heap) (p' : Pan), D fv args h p = some (h', p') → ∀ (g : Gh) (n0 : Nat) (w : World) (vf : Value) (vs : Array Value) (d : Deferred), Inv g n0 h w → GlobOk c g → Rep g fv vf → RepL g args vs.toList →
    Deferred.ofValue vf vs = pure d →
    ∃ fnv cap f ar, d.target = .fn fnv cap ∧ (invoke d.target d.args).run c.P w = .ok (.enter f ar) w ∧ ∀ (c0 : Frame) (rest : List Frame) (u : Value), PanOk g (.dfr c0 rest u) p →
      ∃ g' w' frX v, Good n0 g w g' w' ∧ Inv g' n0 h' w' ∧ PanOk g' (.dfr c0 rest u) p' ∧ Steps c.P (lone (Frame.enter c.P f ar .deferred) ((Ctx.dfr c0 rest u).cs p) w) (lone frX ((Ctx.dfr c0 rest u).cs p') w') ∧
        frX.kind = .deferred ∧ frX.going c.P w' (.returned v)

theorem func_rep {g : Gh} {f : FuncId} {first cap : List V} {vf : Value} {args : List V} {vs : Array Value} (r : Rep g (.func (.func f) first cap) vf) (ra : RepL g args vs.toList) :
    ∃ first' cap', vf = .func (.func f) first' cap' ∧ RepL g (first ++ args ++ cap) (first' ++ vs ++ cap').toList := by
  simp only [Rep] at r
  obtain ⟨a', b', rfl, h1, h2⟩ := r
  exact ⟨a', b', rfl, by simp only [Array.toList_append]; exact (h1.append ra).append h2⟩

theorem dbodyS_sim {c : Cfg} (hP : PrOk c.P) {E : ExecF} (hE : ESim c E) : DSim c (dbodyS c E) := by
  intro fv args h p h' p' hd g n0 w vf vs d hI hG rf ra hdv
  unfold dbodyS at hd
  split at hd
  · rename_i f first cap
    split at hd
    · cases hd
    · rename_i fn hf
      split at hd
      · cases hd
      · rename_i code hb
        obtain ⟨first', cap', rfl, rargs⟩ := func_rep rf ra
        have hd0 : d = { target := .fn (.func f) cap', args := first' ++ vs } := by
          have h1 := congrArg (fun s => Sem.run c.P s w) hdv
          simp only [Deferred.ofValue, Sem.run_pure, Result.ok.injEq, and_true] at h1
          exact h1.symm
        subst hd0
        refine ⟨.func f, cap', f, first' ++ vs ++ cap', rfl, ?_, ?_⟩
        · simp only [invoke]
          exact callFunc_run hP hf hb _ w
        · intro c0 rest u hpan
          let b : Frame := { (default : Frame) with fn := f, kind := .deferred, roundOf := none }
          have henter : Frame.enter c.P f (first' ++ vs ++ cap') .deferred =
              b.atR { tmps := (first' ++ vs ++ cap') ++ Array.replicate (fn.ntmps - (first' ++ vs ++ cap').size) Go.undef, defers := [] } [.code code] := by
            simp [Frame.enter, Frame.atR, hf, hb, b]
          have hst : StRel c g n0 (.dfr c0 rest u) b { t := initT fn (first ++ args ++ cap), h, d := [], p, ro := none }
              { tmps := (first' ++ vs ++ cap') ++ Array.replicate (fn.ntmps - (first' ++ vs ++ cap').size) Go.undef, defers := [] } w :=
            ⟨initT_rep rargs fn, hI, hG, rfl, hpan, rfl, rfl⟩
          have fin : ∀ (ax : Ax) (s : St), (ax = .normal ∨ ax = .ret) → E code { t := initT fn (first ++ args ++ cap), h, d := [], p, ro := none } = some (ax, s) →
              (match s.d, readRes c.P s.h s.t fn.results.toList with
                | [], some _ => some (s.h, s.p)
                | _, _ => none : Option (Heap × Pan)) = some (h', p') →
              ∃ g' w' frX v, Good n0 g w g' w' ∧ Inv g' n0 h' w' ∧ PanOk g' (.dfr c0 rest u) p' ∧ Steps c.P (lone (Frame.enter c.P f (first' ++ vs ++ cap') .deferred) ((Ctx.dfr c0 rest u).cs p) w) (lone frX ((Ctx.dfr c0 rest u).cs p') w') ∧
                frX.kind = .deferred ∧ frX.going c.P w' (.returned v) := by
            intro ax s hax hex hm
            obtain ⟨g', a', w', e1, e2, e3⟩ := hE code _ ax s hex g n0 (.dfr c0 rest u) b _ w [] hst
            rw [← henter] at e3
            cases hsd : s.d with
            | cons x xs => rw [hsd] at hm; simp at hm
            | nil =>
              rw [hsd] at hm
              cases hrr : readRes c.P s.h s.t fn.results.toList with
              | none => rw [hrr] at hm; cases hm
              | some rs =>
                simp only [hrr, Option.some.injEq, Prod.mk.injEq] at hm
                obtain ⟨rfl, rfl⟩ := hm
                obtain ⟨v, hv, _⟩ := results_run (c := c) e2.inv e2.t hrr
                have hde : a'.defers = [] := by have := e2.d; rw [hsd] at this; exact this
                rcases hax with rfl | rfl
                · exact ⟨g', w', { b.atR a' [] with mode := .returning }, v, e1, e2.inv, e2.p, Steps.trans e3 (.one (stepR_end rfl)), rfl, rfl, hde, fn, hf, hv⟩
                · obtain ⟨k1, e3⟩ := e3
                  exact ⟨g', w', { b.atR a' (.code .ret :: k1) with mode := .returning }, v, e1, e2.inv, e2.p, Steps.trans e3 (.one (stepR_ret rfl)), rfl, rfl, hde, fn, hf, hv⟩
          split at hd
          · rename_i s hex; exact fin _ s (.inl rfl) hex hd
          · rename_i s hex; exact fin _ s (.inr rfl) hex hd
          · cases hd
  · cases hd

/-- How a frame stands on its way out. -/
def MdOk (g : Gh) : Md → FrameMode → Prop
  | .ret, m => m = .returning
  | .pan v, m => ∃ u, Rep g v u ∧ m = .panicking [{ v := u, recovered := false }]

theorem leaveS_sim {c : Cfg} (hP : PrOk c.P) {D : DCallF} (hD : DSim c D) : ∀ (ds : List Def) (h : Heap) (m : Md) (h' : Heap) (m' : Md), leaveS D ds h m = some (h', m') →
    ∀ (g : Gh) (n0 : Nat) (w : World) (fr : Frame) (cs : List Frame), Inv g n0 h w → GlobOk c g → DefsOk g ds fr.defers → MdOk g m fr.mode →
    ∃ g' w' mo, Good n0 g w g' w' ∧ Inv g' n0 h' w' ∧ MdOk g' m' mo ∧ Steps c.P (lone fr cs w) (lone { fr with defers := [], mode := mo } cs w')
  | [], h, m, h', m', hl, g, n0, w, fr, cs, hI, hG, hd, hm => by
    simp only [leaveS, Option.some.injEq, Prod.mk.injEq] at hl
    obtain ⟨rfl, rfl⟩ := hl
    have hd' : fr.defers = [] := hd
    exact ⟨g, w, fr.mode, Good.refl _ _ _, hI, hm, by rw [show ({ fr with defers := [], mode := fr.mode } : Frame) = fr by rw [← hd']]; exact .refl _ _⟩
  | .mark a :: ds, h, m, h', m', hl, g, n0, w, fr, cs, hI, hG, hd, hm => by
    obtain ⟨d, r, hd1, ⟨B, hB, rfl⟩, hd3⟩ := hd
    simp only [leaveS] at hl
    split at hl
    · rename_i hbl
      obtain ⟨B', hmu, hn, hbe, hh⟩ := hI.blk a _ hbl
      rw [hB] at hmu
      simp only [Option.some.injEq] at hmu
      subst hmu
      simp only [if_true] at hh
      have hmode : fr.mode ≠ .run := by
        cases m with
        | ret => rw [hm]; simp
        | pan v => obtain ⟨u, _, e⟩ := hm; rw [e]; simp
      have hBl := hI.own_lt hbe
      have hGn : ∀ o, g.G B o = none := fun o => by
        cases hgo : g.G B o with
        | none => rfl
        | some v => have := hI.agree B o v hgo; simp [World.cell?, hh] at this
      have hst := step_collected (P := c.P) (cs := cs) hmode hd1 rfl (run_takeDeferred hh)
      obtain ⟨k1, k2⟩ := hI.updBlk (.dfr false) (List.getElem?_eq_some_iff.1 hbl).1 hB hn hbe hGn (But.putObj w B (.deferred none)) ⟨hbe, World.putObj_heap_same hBl⟩
      obtain ⟨g', w', mo, e1, e2, e3, e4⟩ := leaveS_sim hP hD ds _ m h' m' hl g n0 _ { fr with defers := [] ++ r } cs k1 (hG.mono k2.le) (by simpa using hd3) hm
      exact ⟨g', w', mo, k2.trans e1, e2, e3, .head hst e4⟩
    · cases hl
  | .call fv args :: ds, h, m, h', m', hl, g, n0, w, fr, cs, hI, hG, hd, hm => by
    obtain ⟨d, r, hd1, ⟨vf, vs, r1, r2, r3⟩, hd3⟩ := hd
    cases m with
    | ret =>
      simp only [leaveS] at hl
      split at hl
      · rename_i h1 hdc
        obtain ⟨fnv, cap, f, ar, t1, t2, t3⟩ := hD fv args h .no h1 .no hdc g n0 w vf vs d hI hG r1 r2 r3
        have hmode : fr.mode = .returning := hm
        have hst := step_defer (P := c.P) (cs := cs) (by rw [hmode]; simp) hd1 t1 t2
        obtain ⟨g1, w1, frX, v, q1, q2, q3, q4, q5, q6⟩ := t3 { fr with defers := r } cs (.bool true) trivial
        have hcs : (Ctx.dfr { fr with defers := r } cs (.bool true)).cs .no = { fr with defers := r } :: cs := by simp [Ctx.cs, pmode, ← hmode]
        rw [hcs] at q4
        have hgo := step_going_returned (P := c.P) (c := { fr with defers := r }) (cs := cs) q5 q6
        have hse : ({ ({ fr with defers := r } : Frame) with mode := settle ({ fr with defers := r } : Frame).mode } : Frame) = { fr with defers := r } := by
          simp [settle, hmode]
        rw [hse] at hgo
        obtain ⟨g', w', mo, e1, e2, e3, e4⟩ := leaveS_sim hP hD ds h1 .ret h' m' hl g1 n0 w1 { fr with defers := r } cs q2 (hG.mono q1.le) (hd3.mono q1.le) hm
        exact ⟨g', w', mo, q1.trans e1, e2, e3, .head hst (q4.trans (.head hgo e4))⟩
      · cases hl
    | pan v =>
      obtain ⟨u, ru, hmode⟩ := hm
      simp only [leaveS] at hl
      have go : ∀ (h1 : Heap) (p1 : Pan) (m1 : Md), D fv args h (.pan v) = some (h1, p1) → (∀ g1 : Gh, PanOk g1 (.dfr { fr with defers := r } cs u) p1 → MdOk g1 m1 (settle (pmode u p1))) → leaveS D ds h1 m1 = some (h', m') →
          ∃ g' w' mo, Good n0 g w g' w' ∧ Inv g' n0 h' w' ∧ MdOk g' m' mo ∧ Steps c.P (lone fr cs w) (lone { fr with defers := [], mode := mo } cs w') := by
        intro h1 p1 m1 hdc hmd hl
        obtain ⟨fnv, cap, f, ar, t1, t2, t3⟩ := hD fv args h (.pan v) h1 p1 hdc g n0 w vf vs d hI hG r1 r2 r3
        have hst := step_defer (P := c.P) (cs := cs) (by rw [hmode]; simp) hd1 t1 t2
        obtain ⟨g1, w1, frX, v', q1, q2, q3, q4, q5, q6⟩ := t3 { fr with defers := r } cs u ru
        have hcs : (Ctx.dfr { fr with defers := r } cs u).cs (.pan v) = { fr with defers := r } :: cs := by simp [Ctx.cs, pmode, ← hmode]
        rw [hcs] at q4
        have hgo := step_going_returned (P := c.P) (c := { fr with defers := r, mode := pmode u p1 }) (cs := cs) q5 q6
        obtain ⟨g', w', mo, e1, e2, e3, e4⟩ := leaveS_sim hP hD ds h1 m1 h' m' hl g1 n0 w1 { fr with defers := r, mode := settle (pmode u p1) } cs q2 (hG.mono q1.le) (hd3.mono q1.le) (hmd g1 q3)
        exact ⟨g', w', mo, q1.trans e1, e2, e3, .head hst (q4.trans (.head hgo e4))⟩
      split at hl
      · rename_i h1 v1 hdc
        exact go h1 (.pan v1) (.pan v1) hdc (fun g1 hp => ⟨u, hp, by simp [settle, pmode]⟩) hl
      · rename_i h1 v1 hdc
        exact go h1 (.got v1) .ret hdc (fun g1 hp => by simp [settle, pmode, MdOk]) hl
      · cases hl

end Go.Ab
