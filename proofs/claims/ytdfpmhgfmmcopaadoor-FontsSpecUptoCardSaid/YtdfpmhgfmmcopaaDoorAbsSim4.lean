/- Bodies of functions and rounds. -/
import Derived.Test.YtdfpmhgfmmcopaaDoorAbsSim3
set_option linter.unusedVariables false
set_option linter.unusedSimpArgs false
set_option linter.unusedSectionVars false
set_option linter.deprecated false
namespace Go.Ab
open Go.RowKit (Below)

/-- A frame on the point of leaving. -/
def LeaveR (P : Program) (g : Gh) (fr : Frame) (w : World) : CRes → Prop
  | .ret v => ∃ u, Rep g v u ∧ fr.leaving P w (.returned u)
  | .panic v => ∃ u, Rep g v u ∧ fr.leaving P w (.panicked [{ v := u, recovered := false }])

/-- What a simulation of a function's body says. -/
def BSim (c : Cfg) (f : FuncId) (args : List V) (h : Heap) (r : CRes) (h' : Heap) : Prop :=
  ∀ (g : Gh) (n0 : Nat) (w : World) (vs : Array Value), Inv g n0 h w → GlobOk c g → RepL g args vs.toList →
    (callFunc f vs).run c.P w = .ok (.enter f vs) w ∧ ∀ cs, ∃ g' w' frL, Good n0 g w g' w' ∧ Inv g' n0 h' w' ∧ Steps c.P (lone (Frame.enter c.P f vs .normal) cs w) (lone frL cs w') ∧ frL.fn = f ∧ LeaveR c.P g' frL w' r

theorem bodyS_sim {c : Cfg} (hP : PrOk c.P) {E : ExecF} {D : DCallF} (hE : ESim c E) (hD : DSim c D) {f : FuncId} {args : List V} {h h' : Heap} {r : CRes} (hb : bodyS c E D f args h = some (r, h')) :
    BSim c f args h r h' := by
  intro g n0 w vs hI hG ra
  unfold bodyS at hb
  split at hb
  · cases hb
  · rename_i fn hf
    split at hb
    · cases hb
    · rename_i code hcode
      refine ⟨callFunc_run hP hf hcode _ w, fun cs => ?_⟩
      let b : Frame := { (default : Frame) with fn := f, kind := .normal, roundOf := none }
      have henter : Frame.enter c.P f vs .normal = b.atR { tmps := vs ++ Array.replicate (fn.ntmps - vs.size) Go.undef, defers := [] } [.code code] := by
        simp [Frame.enter, Frame.atR, hf, hcode, b]
      have hst : StRel c g n0 (.nrm cs) b { t := initT fn args, h, d := [], p := .no, ro := none } { tmps := vs ++ Array.replicate (fn.ntmps - vs.size) Go.undef, defers := [] } w :=
        ⟨initT_rep ra fn, hI, hG, rfl, trivial, rfl, rfl⟩
      have fin : ∀ (s : St) (m : Md) (g1 : Gh) (a1 : Act) (w1 : World) (fr : Frame), StRel c g1 n0 (.nrm cs) b s a1 w1 → Good n0 g w g1 w1 → MdOk g1 m fr.mode → fr.defers = a1.defers → fr.tmps = a1.tmps → fr.fn = f → fr.kind = .normal →
          Steps c.P (lone (Frame.enter c.P f vs .normal) cs w) (lone fr cs w1) →
          (match leaveS D s.d s.h m with
            | some (h, .ret) => match readRes c.P h s.t fn.results.toList with
              | some vs => some (CRes.ret (packRes vs), h)
              | none => none
            | some (h, .pan v) => some (.panic v, h)
            | none => none) = some (r, h') →
          ∃ g' w' frL, Good n0 g w g' w' ∧ Inv g' n0 h' w' ∧ Steps c.P (lone (Frame.enter c.P f vs .normal) cs w) (lone frL cs w') ∧ frL.fn = f ∧ LeaveR c.P g' frL w' r := by
        intro s m g1 a1 w1 fr hs hg hm hd ht hfn hk hsteps hl
        cases hlv : leaveS D s.d s.h m with
        | none => rw [hlv] at hl; cases hl
        | some x =>
          obtain ⟨h2, m2⟩ := x
          obtain ⟨g2, w2, mo, e1, e2, e3, e4⟩ := leaveS_sim hP hD s.d s.h m h2 m2 hlv g1 n0 w1 fr cs hs.inv hs.glob (by rw [hd]; exact hs.d) hm
          rw [hlv] at hl
          cases m2 with
          | ret =>
            cases hrr : readRes c.P h2 s.t fn.results.toList with
            | none => simp only [hrr] at hl; cases hl
            | some rs =>
              simp only [hrr, Option.some.injEq, Prod.mk.injEq] at hl
              obtain ⟨rfl, rfl⟩ := hl
              obtain ⟨u, u1, u2⟩ := results_run (c := c) e2 (t := s.t) (tm := a1.tmps) (RepL.mono e1.le _ _ hs.t) hrr
              exact ⟨g2, w2, _, hg.trans e1, e2, hsteps.trans e4, hfn, u, u2, e3, rfl, hk, fn, by simpa [hfn] using hf, by simpa [ht] using u1⟩
          | pan v =>
            simp only [Option.some.injEq, Prod.mk.injEq] at hl
            obtain ⟨rfl, rfl⟩ := hl
            obtain ⟨u, u1, u2⟩ := e3
            exact ⟨g2, w2, _, hg.trans e1, e2, hsteps.trans e4, hfn, u, u1, u2, rfl, fn, by simpa [hfn] using hf⟩
      cases hex : E code { t := initT fn args, h, d := [], p := .no, ro := none } with
      | none => simp [hex] at hb
      | some x =>
        obtain ⟨ax, s⟩ := x
        obtain ⟨g1, a1, w1, e1, e2, e3⟩ := hE code _ ax s hex g n0 (.nrm cs) b _ w [] hst
        rw [← henter] at e3
        rw [hex] at hb
        cases ax with
        | normal => exact fin s .ret g1 a1 w1 { b.atR a1 [] with mode := .returning } e2 e1 rfl rfl rfl rfl rfl (Steps.trans e3 (.one (stepR_end rfl))) hb
        | ret =>
          obtain ⟨k1, e3⟩ := e3
          exact fin s .ret g1 a1 w1 { b.atR a1 (.code .ret :: k1) with mode := .returning } e2 e1 rfl rfl rfl rfl rfl (Steps.trans e3 (.one (stepR_ret rfl))) hb
        | panic v =>
          obtain ⟨td, u, u1, u2⟩ := e3
          exact fin s (.pan v) g1 a1 w1 _ e2 e1 ⟨u, u1, rfl⟩ rfl rfl rfl rfl u2 hb
        | exit id => cases hb

theorem BSim.back {c : Cfg} {f : FuncId} {args : List V} {h h' : Heap} {r : CRes} (hb : BSim c f args h r h') {g : Gh} {n0 : Nat} {w : World} {vs : Array Value} (hI : Inv g n0 h w) (hG : GlobOk c g) (ra : RepL g args vs.toList)
    (fr : Frame) (cs : List Frame) : ∃ g' w', Good n0 g w g' w' ∧ Inv g' n0 h' w' ∧ Back c.P g' (lone (Frame.enter c.P f vs .normal) (fr :: cs) w) fr cs w' r := by
  obtain ⟨_, h2⟩ := hb g n0 w vs hI hG ra
  obtain ⟨g', w', frL, e1, e2, e3, e4, e5⟩ := h2 (fr :: cs)
  refine ⟨g', w', e1, e2, ?_⟩
  cases r with
  | ret v => obtain ⟨u, u1, u2⟩ := e5; exact ⟨u, u1, e3.trans (.one (step_leave_returned u2))⟩
  | panic v => obtain ⟨u, u1, u2⟩ := e5; exact ⟨u, u1, e3.trans (.one (step_leave_panicked u2))⟩

theorem setAll_rep {g : Gh} : ∀ (ps : List Nat) (t : List V) (tm : Array Value) (args : List V) (vs : List Value), RepL g t tm.toList → RepL g args vs → RepL g ((ps.zip args).foldl (fun t (x : Nat × V) => t.set x.1 x.2) t) ((ps.zip vs).foldl (fun tm (x : Nat × Value) => tm.setIfInBounds x.1 x.2) tm).toList
  | [], t, tm, args, vs, h, ha => by simpa using h
  | p :: ps, t, tm, [], vs, h, ha => by rw [RepL.nil_iff] at ha; subst ha; simpa using h
  | p :: ps, t, tm, x :: args, [], h, ha => by simp [RepL] at ha
  | p :: ps, t, tm, x :: args, v :: vs, h, ha => by
    rw [RepL.cons_iff] at ha
    simp only [List.zip_cons_cons, List.foldl_cons]
    exact setAll_rep ps _ _ args vs (by rw [Array.toList_setIfInBounds]; exact h.set ha.1) ha.2

set_option maxHeartbeats 1000000 in
theorem roundS_sim {c : Cfg} {E : ExecF} (hE : ESim c E) {a : Nat} {args : List V} {h h' : Heap} {r : CRes} (hb : roundS E a args h = some (r, h')) {g : Gh} {n0 : Nat} {w : World} {vf : Value} {vs : Array Value}
    (hI : Inv g n0 h w) (hG : GlobOk c g) (rf : Rep g (.yld a) vf) (ra : RepL g args vs.toList) :
    ∃ l f tm as bo, (do let d ← Deferred.ofValue vf vs; invoke d.target d.args : Sem Next).run c.P w = .ok (.round l f tm as bo) w ∧
      ∀ fr cs, ∃ g' w', Good n0 g w g' w' ∧ Inv g' n0 h' w' ∧ Back c.P g' (lone (Frame.round l f tm as bo .normal) (fr :: cs) w) fr cs w' r := by
  unfold roundS at hb
  split at hb
  · rename_i t ps assign body db hbl
    split at hb
    · cases hb
    · rename_i hlen
      obtain ⟨B, L, m1, m2, m3, m4, m5, m6, m7, m8, m9, m10, m11, m12, m13, m14⟩ := getLoop_blk hI hbl
      have hlen' : args.length = ps.length := by simpa using hlen
      have hvf : vf = .func (.yield B) #[] #[] := by
        simp only [Rep] at rf
        obtain ⟨B', b1, b2⟩ := rf
        rw [m1] at b1
        simp only [Option.some.injEq] at b1
        subst b1
        exact b2
      subst hvf
      have hsz : vs.size = L.params.size := by
        have := ra.length
        simp only [Array.length_toList] at this
        rw [← this, hlen', ← m6, Array.length_toList]
      refine ⟨B, L.fn, (L.params.zip vs).foldl (fun tmps (t, a) => tmps.setIfInBounds t a) L.tmps, L.assign, L.body, ?_, ?_⟩
      · simp only [Deferred.ofValue, Sem.run_bind, Sem.run_pure, Result.andThen_ok, invoke, Array.empty_append]
        exact run_yield m4 hsz
      · intro fr cs
        rw [m7, m8]
        let b : Frame := { (default : Frame) with fn := L.fn, kind := .normal, roundOf := some B }
        let tm := (L.params.zip vs).foldl (fun tmps (t, a) => tmps.setIfInBounds t a) L.tmps
        have htm : RepL g ((ps.zip args).foldl (fun t (x : Nat × V) => t.set x.1 x.2) t) tm.toList := by
          have := setAll_rep ps t L.tmps args vs.toList m5 ra
          rw [← m6] at this ⊢
          have e : tm = (L.params.toList.zip vs.toList).foldl (fun tm (x : Nat × Value) => tm.setIfInBounds x.1 x.2) L.tmps := by
            rw [← Array.toList_zip, Array.foldl_toList]
          rw [e]
          exact this
        have henter : Frame.round B L.fn tm assign body .normal = b.atR { tmps := tm, defers := [] } [.code assign, .beginRound, .code body] := rfl
        show ∃ g' w', Good n0 g w g' w' ∧ Inv g' n0 h' w' ∧ Back c.P g' (lone (Frame.round B L.fn tm assign body .normal) (fr :: cs) w) fr cs w' r
        rw [henter]
        have hst : StRel c g n0 (.nrm (fr :: cs)) b { t := (ps.zip args).foldl (fun t (x : Nat × V) => t.set x.1 x.2) t, h, d := [], p := .no, ro := some a } { tmps := tm, defers := [] } w :=
          ⟨htm, hI, hG, rfl, trivial, ⟨B, m1, rfl⟩, rfl⟩
        split at hb
        · rename_i s hex
          obtain ⟨g1, a1, w1, e1, e2, e3⟩ := hE assign _ .normal s hex g n0 (.nrm (fr :: cs)) b _ w [.beginRound, .code body] hst
          simp only [Arr] at e3
          split at hb
          · rename_i t2 ps2 assign2 body2 db2 hbl2
            obtain ⟨B', L1, n1, n2, n3, n4, n5, n6, n7, n8, n9, n10, n11, n12, n13, n14⟩ := getLoop_blk e2.inv hbl2
            have hB : B' = B := by
              have := e1.le.mu _ _ m1
              rw [n1] at this
              simpa using this
            subst hB
            obtain ⟨q1, q2⟩ := e2.inv.setLoop hbl2 n1 n4 .busy none
            have hpend : ({ L1 with state := .busy, pending := none } : Loop) = { L1 with state := .busy } := by rw [← n10]
            rw [hpend] at q1 q2
            have hst1 := stepR_beginRound (P := c.P) (b := b) (a := a1) (k := [.code body]) (cs := fr :: cs) (l := B') rfl (run_beginRound n4 n9)
            have hst2 : StRel c g1 n0 (.nrm (fr :: cs)) b { s with h := { s.h with bs := s.h.bs.set a (.loop t2 ps2 assign2 body2 .busy none db2) } } a1 (w1.putObj B' (.loop { L1 with state := .busy })) :=
              ⟨e2.t, q1, e2.glob, e2.d, e2.p, e2.ro, e2.kind⟩
            have fin : ∀ (s3 : St) (j : Option Code) (g3 : Gh) (a3 : Act) (w3 : World) , StRel c g3 n0 (.nrm (fr :: cs)) b s3 a3 w3 → Good n0 g w g3 w3 →
                (∀ w4, (Instr.endRound B' j).run c.P w3 = .ok (.bool j.isNone) w4 → Steps c.P (lone (b.atR { tmps := tm, defers := [] } [.code assign, .beginRound, .code body]) (fr :: cs) w) (lone (fr.finish (.bool j.isNone)) cs w4)) →
                (match s3.h.bs[a]? with
                  | some (.loop t' ps' assign' body' _ _ db') =>
                    some (CRes.ret (.bool j.isNone), { s3.h with bs := s3.h.bs.set a (.loop t' ps' assign' body' (if j.isNone then .ready else .done) j db') })
                  | _ => none) = some (r, h') →
                ∃ g' w', Good n0 g w g' w' ∧ Inv g' n0 h' w' ∧ Back c.P g' (lone (b.atR { tmps := tm, defers := [] } [.code assign, .beginRound, .code body]) (fr :: cs) w) fr cs w' r := by
              intro s3 j g3 a3 w3 hs3 hg3 hsteps hl
              split at hl
              · rename_i t4 ps4 assign4 body4 st4 pend4 db4 hbl4
                obtain ⟨B4, L4, o1, o2, o3, o4, o5, o6, o7, o8, o9, o10, o11, o12, o13, o14⟩ := getLoop_blk hs3.inv hbl4
                have hB4 : B4 = B' := by
                  have := hg3.le.mu _ _ m1
                  rw [o1] at this
                  simpa using this
                subst hB4
                simp only [Option.some.injEq, Prod.mk.injEq] at hl
                obtain ⟨rfl, rfl⟩ := hl
                obtain ⟨p1, p2⟩ := hs3.inv.setLoop hbl4 o1 o4 (if j.isNone then .ready else .done) j
                exact ⟨g3, _, hg3.trans p2, p1, _, by simp [Rep], hsteps _ (run_endRound j o4)⟩
              · cases hl
            cases hex2 : E body { s with h := { s.h with bs := s.h.bs.set a (.loop t2 ps2 assign2 body2 .busy none db2) } } with
            | none => simp [hex2] at hb
            | some x =>
              obtain ⟨ax, s3⟩ := x
              obtain ⟨g3, a3, w3, f1, f2, f3⟩ := hE body _ ax s3 hex2 g1 n0 (.nrm (fr :: cs)) b a1 _ [] hst2
              have hg3 := e1.trans (q2.trans f1)
              have f4 := Arr.of_steps (e3.trans (.one hst1)) f3
              rw [hex2] at hb
              cases ax with
              | normal => exact fin s3 none g3 a3 w3 f2 hg3 (fun w4 h4 => Steps.trans f4 (.one (stepR_round_end rfl rfl h4))) hb
              | ret =>
                obtain ⟨k1, f4⟩ := f4
                exact fin s3 (some .ret) g3 a3 w3 f2 hg3 (fun w4 h4 => Steps.trans f4 (.one (stepR_round_ret rfl rfl h4))) hb
              | exit id =>
                obtain ⟨k1, hk1, f4⟩ := f4
                exact fin s3 (some (.exit id)) g3 a3 w3 f2 hg3 (fun w4 h4 => Steps.trans f4 (.one (stepR_round_exit rfl rfl (by rw [hk1]; rfl) h4))) hb
              | panic v => cases hb
          · cases hb
        · cases hb
  · cases hb

end Go.Ab
