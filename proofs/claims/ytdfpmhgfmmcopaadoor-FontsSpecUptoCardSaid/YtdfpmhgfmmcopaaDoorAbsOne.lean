/- One operation: what 'opR' says is what 'execOp' does. -/
import Derived.Test.YtdfpmhgfmmcopaaDoorAbsMap
set_option linter.unusedVariables false
set_option linter.unusedSimpArgs false
set_option linter.unusedSectionVars false
set_option linter.deprecated false
namespace Go.Ab
open Go.RowKit (Below)
variable {P : Program} {g : Gh} {n0 : Nat} {H : Heap} {w : World}

theorem makeSliceV_run {t : TypeId} {lc : Bool} {l c y : V} {H' : Heap} (h : makeSliceV P H t lc l c = some (y, H')) (hI : Inv g n0 H w) {vl vc : Value} (rl : Rep g l vl) (rc : Rep g c vc) :
    ∃ g' w' u, (Instr.makeSlice t vl vc).run P w = .ok u w' ∧ Good n0 g w g' w' ∧ Inv g' n0 H' w' ∧ Rep g' y u := by
  unfold makeSliceV at h
  split at h
  · rename_i e l' c' he hl hc
    split at h
    · rename_i i z hi hz
      split at h
      · rename_i hcond
        obtain ⟨h1, h2, h3, h4⟩ := hcond
        obtain ⟨i', zv, hi', hzv, hr, hz1, hzl, hzs⟩ := zeroCs_run hz g
        rw [hi] at hi'
        simp only [Option.some.injEq] at hi'
        subst hi'
        have hu := run_underlying_slice he
        obtain ⟨kl, rfl⟩ : ∃ k, l = .int k l' := by
          cases l <;> simp [intOf?] at hl
          exact ⟨_, by rw [hl]⟩
        obtain ⟨kc, rfl⟩ : ∃ k, c = .int k c' := by
          cases c <;> simp [intOf?] at hc
          exact ⟨_, by rw [hc]⟩
        have e1 := rep_int rl
        have e2 := rep_int rc
        subst e1; subst e2
        clear hl hc rl rc
        obtain ⟨l, hll⟩ : ∃ l, l = l' := ⟨_, rfl⟩
        obtain ⟨c, hcc⟩ : ∃ c, c = c' := ⟨_, rfl⟩
        subst hll; subst hcc
        simp only [smallRow, Bool.and_eq_true, decide_eq_true_eq] at h3
        have wl : IntKind.i64.wrap l = l := IntWalk.i64_in _ (by omega)
        have wc : IntKind.i64.wrap c = c := IntWalk.i64_in _ (by omega)
        have hby : c.toNat * i.bytes ≤ 140737488355328 := by
          have := Nat.mul_le_mul h3.1 h3.2; omega
        have hbyi : (i.bytes : Int) * c ≤ 281474976710656 := by
          have e1 : (c : Int) = (c.toNat : Int) := by omega
          rw [e1, Int.mul_comm]
          have : ((c.toNat * i.bytes : Nat) : Int) ≤ ((140737488355328 : Nat) : Int) := Int.ofNat_le.2 hby
          rw [Int.natCast_mul] at this
          omega
        have h248 : (2 : Int) ^ 48 = 281474976710656 := by simp
        have e0 : ∀ f : Nat → Value, (Array.range 0).map f = #[] := fun f => by simp
        have hcells : ∀ n, (do
            let zero ← if n = 0 then (pure #[] : Sem (Array Value)) else do pure (← zeroValue e).cells
            let a ← newRow e ((Array.range n).map (zero[· % zero.size]!))
            pure (Value.slice (some a) l.toNat c.toNat)).run P w = .ok (.slice (some ⟨w.heap.size, 0, none⟩) l.toNat c.toNat) (w.alloc (.cells ((Array.range n).map (zv.cells[· % zv.cells.size]!)) e)) := by
          intro n
          by_cases hn : n = 0
          · subst hn
            simp only [if_true, Sem.run_bind, Sem.run_pure, Result.andThen_ok, newRow, run_newObj_alloc, e0]
          · simp only [hn, if_false, Sem.run_bind, run_zeroValue hi hzv, Result.andThen_ok, Sem.run_pure, newRow, run_newObj_alloc]
        have hrun : (Instr.makeSlice t (.int kl l) (.int kc c)).run P w = .ok (.slice (some ⟨w.heap.size, 0, none⟩) l.toNat c.toNat) (w.alloc (.cells ((Array.range (c.toNat * i.size)).map (zv.cells[· % zv.cells.size]!)) e)) := by
          rw [← hcells]
          simp only [Instr.makeSlice, Sem.run_bind, run_underlying hu, Result.andThen_ok, asInt, asIntOf, Sem.run_pure, run_typeInfo hi, wl, wc]
          rw [if_neg (by
            simp only [Bool.or_eq_true, decide_eq_true_eq, not_or, h248]
            refine ⟨⟨⟨by omega, by omega⟩, by omega⟩, by omega⟩)]
          simp only [Sem.run_bind, run_askRoom, Result.andThen_ok, sizeOf, run_typeInfo hi, Sem.run_pure]
        have hfl := rep_flat hr c.toNat
        rw [hzs] at hfl
        split at h
        · split at h
          · rename_i hl0
            simp only [Option.some.injEq, Prod.mk.injEq] at h
            obtain ⟨rfl, rfl⟩ := h
            subst hl0
            obtain ⟨g', k1, k2, k3⟩ := hI.newOwn (e := e) (cs := []) (vs := []) (rest := ((Array.range (c.toNat * i.size)).map (zv.cells[· % zv.cells.size]!)).toList) (RepL.nil g) (by simp) i.size c.toNat (by simp) 0
            simp only [List.nil_append, Array.toArray_toList, Nat.zero_add] at k1 k2 k3
            exact ⟨g', _, _, hrun, k2, k1, k3⟩
          · cases h
        · split at h
          · rename_i hlc
            subst hlc
            simp only [Option.some.injEq, Prod.mk.injEq] at h
            obtain ⟨rfl, rfl⟩ := h
            have hrep := RepL.mono (Gh.addB_le (hI.new _ (Nat.le_refl _)) (B := w.heap.size) (c := l.toNat * i.size)) _ _ hfl
            obtain ⟨k1, k2, k3⟩ := hI.newBlk (.cells ((Array.range (l.toNat * i.size)).map (zv.cells[· % zv.cells.size]!)) e) (.cells ((List.replicate l.toNat z).flatten)) (l.toNat * i.size) (by
              refine ⟨by simp [Gh.addB], fun o => hI.noG (Nat.le_refl _) o, _, e, (0, 0), World.alloc_heap_new _ _, by have := hfl.length; simp at this ⊢; omega, fun j x hx => ?_, fun j _ => by simp,
                by have := hfl.length; simp [Gh.addB] at this ⊢; omega, by simp [Gh.addB], fun j _ => by simp⟩
              obtain ⟨v, hv, hrv⟩ := hrep.get hx
              exact ⟨flat_one hz1 _ x (List.mem_of_getElem? hx), v, by rw [← Array.getElem?_toList, hzs]; exact hv, hrv⟩)
            refine ⟨_, _, _, hrun, k2, k1, ?_⟩
            simp only [Rep]
            exact ⟨_, _, k3, rfl, Nat.le_refl _, by simp [Gh.addB]⟩
          · cases h
      · cases h
    · cases h
  · cases h

theorem newVar_run {cs : List V} {vs : Array Value} (e : TypeId) (hI : Inv g n0 H w) (hr : RepL g cs vs.toList) (h1 : ∀ c ∈ cs, V.one c = true) :
    ∃ g', Good n0 g w g' (w.alloc (.cells vs e)) ∧ Inv g' n0 (newB H (.cells cs)) (w.alloc (.cells vs e)) ∧ Rep g' (.ptr H.bs.length 0) (.pointer (some ⟨w.heap.size, 0, none⟩)) := by
  have hrep := RepL.mono (Gh.addB_le (hI.new _ (Nat.le_refl _)) (B := w.heap.size) (c := vs.size)) _ _ hr
  obtain ⟨k1, k2, k3⟩ := hI.newBlk (.cells vs e) (.cells cs) vs.size (by
    refine ⟨by simp [Gh.addB], fun o => hI.noG (Nat.le_refl _) o, vs, e, (0, 0), World.alloc_heap_new _ _, by have := hr.length; simp at this; omega, fun j x hx => ?_, fun j _ => by simp,
      by have := hr.length; simp [Gh.addB] at this ⊢; omega, by simp [Gh.addB], fun j _ => by simp⟩
    obtain ⟨v, hv, hrv⟩ := hrep.get hx
    exact ⟨h1 x (List.mem_of_getElem? hx), v, by simpa using hv, hrv⟩)
  exact ⟨_, k2, k1, by simp only [Rep]; exact ⟨_, k3, rfl⟩⟩

theorem typeAssertV_run {x y : V} {a xt : TypeId} {ok : Bool} (h : typeAssertV P x a ok = some y) {v : Value} (r : Rep g x v) (w : World) : ∃ u, (Instr.typeAssert v xt a ok).run P w = .ok u w ∧ Rep g y u := by
  unfold typeAssertV at h
  split at h
  · cases h
  · rename_i d hni hu
    have hni : ∀ ms, d ≠ .interface ms := fun ms e => hni ms e
    have hmk : ∀ (z : V), zeroV P a = some z → ∃ zv, (zeroValue a).run P w = .ok zv w ∧ Rep g z zv := fun z hz => let ⟨zv, h1, h2, _⟩ := zeroV_run hz g w; ⟨zv, h1, h2⟩
    split at h
    · rename_i t v'
      simp only [Rep] at r
      obtain ⟨u, rfl, r⟩ := r
      split at h
      · rename_i ht
        subst ht
        simp only [Option.some.injEq] at h
        subst h
        cases ok with
        | true =>
          refine ⟨.tuple #[u, .bool true], ?_, ?_⟩
          · simp only [Instr.typeAssert, Sem.run_bind, run_underlying hu, Result.andThen_ok]
            cases d <;> first | exact absurd rfl (hni _) | simp
          · simp only [if_true, Rep]
            exact ⟨_, rfl, RepL.cons r (RepL.cons (Rep.bool true) (RepL.nil g))⟩
        | false =>
          refine ⟨u, ?_, r⟩
          simp only [Instr.typeAssert, Sem.run_bind, run_underlying hu, Result.andThen_ok]
          cases d <;> first | exact absurd rfl (hni _) | simp
      · rename_i ht
        split at h
        · rename_i hok
          subst hok
          simp only [Option.map_eq_some_iff] at h
          obtain ⟨z, hz, rfl⟩ := h
          obtain ⟨zv, h1, h2⟩ := hmk z hz
          refine ⟨.tuple #[zv, .bool false], ?_, ?_⟩
          · simp only [Instr.typeAssert, Sem.run_bind, run_underlying hu, Result.andThen_ok]
            cases d <;> first | exact absurd rfl (hni _) | simp [ht, h1]
          · simp only [Rep]
            exact ⟨_, rfl, RepL.cons h2 (RepL.cons (Rep.bool false) (RepL.nil g))⟩
        · cases h
    · simp only [Rep] at r
      subst r
      split at h
      · rename_i hok
        subst hok
        simp only [Option.map_eq_some_iff] at h
        obtain ⟨z, hz, rfl⟩ := h
        obtain ⟨zv, h1, h2⟩ := hmk z hz
        refine ⟨.tuple #[zv, .bool false], ?_, ?_⟩
        · simp only [Instr.typeAssert, Sem.run_bind, run_underlying hu, Result.andThen_ok]
          cases d <;> first | exact absurd rfl (hni _) | simp [h1]
        · simp only [Rep]
          exact ⟨_, rfl, RepL.cons h2 (RepL.cons (Rep.bool false) (RepL.nil g))⟩
      · cases h
    · cases h
  · cases h

/-! ### Evaluation -/
/-- What is asked of the cells of the listed variables: they are there and never change. -/
def GlobOk (c : Cfg) (g : Gh) : Prop := ∀ i cs, c.glob i = some cs → RepC g.shut cs i 0

theorem GlobOk.mono {c : Cfg} {g g' : Gh} (h : GlobOk c g) (hle : g.le g') : GlobOk c g' := fun i cs hc => RepC.mono hle.shut _ _ _ (h i cs hc)

theorem ev_rep {c : Cfg} {g : Gh} (hg : GlobOk c g) {t : List V} {a : Act} (ht : RepL g t a.tmps.toList) (x : Operand) : Rep g (evT c t x) (a.eval x) := by
  cases x with
  | tmp i =>
    simp only [evT, Act.eval]
    cases hx : t[i]? with
    | none => simp [List.getD, hx, Rep]
    | some y =>
      obtain ⟨v, hv, hr⟩ := ht.get hx
      have hv' : a.tmps[i]? = some v := by simpa using hv
      have : i < a.tmps.size := (Array.getElem?_eq_some_iff.1 hv').1
      have e1 : a.tmps.getD i Go.undef = v := by
        have := (Array.getElem?_eq_some_iff.1 hv').2
        simp [Array.getD, *]
      rw [e1]
      simpa [List.getD, hx] using hr
  | const v => exact ofVal_rep g v
  | global i =>
    simp only [evT, Act.eval]
    cases hc : c.glob i with
    | none => simp [Rep]
    | some cs => simp only [Rep]; exact ⟨i, 0, rfl, RepC.mono g.shut_le _ _ _ (hg i cs hc)⟩
  | func f => simp only [evT, Act.eval, Rep]; exact ⟨#[], #[], rfl, RepL.nil g, RepL.nil g⟩

theorem ev_list {c : Cfg} {g : Gh} (hg : GlobOk c g) {t : List V} {a : Act} (ht : RepL g t a.tmps.toList) : ∀ l : List Operand, RepL g (l.map (evT c t)) (l.map a.eval)
  | [] => RepL.nil g
  | x :: l => by rw [List.map_cons, List.map_cons, RepL.cons_iff]; exact ⟨ev_rep hg ht x, ev_list hg ht l⟩
theorem ev_parts {c : Cfg} {g : Gh} (hg : GlobOk c g) {t : List V} {a : Act} (ht : RepL g t a.tmps.toList) : ∀ l : List (Nat × Operand), RepP g (l.map fun (i, x) => (i, evT c t x)) (l.map fun (i, x) => (i, a.eval x))
  | [] => rfl
  | (i, x) :: l => ⟨a.eval x, _, rfl, ev_rep hg ht x, ev_parts hg ht l⟩
theorem ev_opt {c : Cfg} {g : Gh} (hg : GlobOk c g) {t : List V} {a : Act} (ht : RepL g t a.tmps.toList) (o : Option Operand) : RepO g (o.map (evT c t)) (o.map a.eval) := by
  cases o with
  | none => trivial
  | some x => exact ev_rep hg ht x

/-- What an operation's asking stands for in the machine. -/
def ORel (P : Program) (g : Gh) (n0 : Nat) (w : World) (a : Act) (o : Oper) : OR → Prop
  | .val v h => ∃ g' w' u, (execOp a.eval o).run P w = .ok (.value u) w' ∧ Good n0 g w g' w' ∧ Inv g' n0 h w' ∧ Rep g' v u
  | .skip h => ∃ g' w', (execOp a.eval o).run P w = .ok .skip w' ∧ Good n0 g w g' w' ∧ Inv g' n0 h w'
  | .dfr (.call f args) => ∃ d, (execOp a.eval o).run P w = .ok (.defer d) w ∧ ∃ vf vs, Rep g f vf ∧ RepL g args vs.toList ∧ (Deferred.ofValue vf vs).run P w = .ok d w
  | .dfr (.mark _) => False
  | .pan v => ∃ u, (execOp a.eval o).run P w = .halt (.panic u) w ∧ Rep g v u
  | .recover => (execOp a.eval o).run P w = .ok .recover w
  | .call f args => ∃ vf vs, Rep g f vf ∧ RepL g args vs.toList ∧ execOp a.eval o = (do let d ← Deferred.ofValue vf vs; invoke d.target d.args)

theorem opR_defer {c : Cfg} {H : Heap} {ev : Operand → V} {o : Oper} {r : OR} (h : opR c H ev o = some r) (hr : ∀ d, r ≠ .dfr d) : ∀ l, o.op ≠ .defer l := by
  intro l hl
  unfold opR at h
  rw [hl] at h
  simp only at h
  split at h
  · split at h
    · cases h
    simp only [Option.some.injEq] at h
    exact hr _ h.symm
  · cases h

theorem ORel.pureV {g : Gh} {a : Act} {o : Oper} {x : V} {u : Value} (hI : Inv g n0 H w) (h : (execOp a.eval o).run P w = .ok (.value u) w) (r : Rep g x u) : ORel P g n0 w a o (.val x H) :=
  ⟨g, w, u, h, Good.refl _ _ _, hI, r⟩

theorem opR_run {c : Cfg} {t : List V} {a : Act} {o : Oper} {r : OR} (h : opR c H (evT c t) o = some r) (hI : Inv g n0 H w) (hg : GlobOk c g) (ht : RepL g t a.tmps.toList) : ORel c.P g n0 w a o r := by
  unfold opR at h
  cases ho : o.op with
  | move x =>
    simp only [ho, Option.some.injEq] at h; subst h
    exact ORel.pureV hI (by simp [execOp, ho]) (ev_rep hg ht x)
  | assign x =>
    simp only [ho, Option.some.injEq] at h; subst h
    exact ORel.pureV hI (by simp [execOp, ho]) (ev_rep hg ht x)
  | pick q x y =>
    simp only [ho] at h
    split at h
    · rename_i b hb
      simp only [Option.some.injEq] at h; subst h
      have := rep_bool (hb ▸ ev_rep hg ht q : Rep g (.bool b) (a.eval q))
      refine ORel.pureV hI (u := if b then a.eval x else a.eval y) (by simp [execOp, ho, this, asBool]) ?_
      cases b
      · exact ev_rep hg ht y
      · exact ev_rep hg ht x
    · cases h
  | alloc e =>
    simp only [ho] at h
    split at h
    · rename_i z hz
      simp only [Option.some.injEq] at h; subst h
      obtain ⟨i, zv, hi, hzv, hr, h1, hzl, hzs⟩ := zeroCs_run hz g
      obtain ⟨g', k1, k2, k3⟩ := newVar_run e hI hr h1
      exact ⟨g', _, _, by simp [execOp, ho, Instr.alloc, run_zeroValue hi hzv, newVar, newRow], k1, k2, k3⟩
    · cases h
  | box e x =>
    simp only [ho] at h
    split at h
    · rename_i cs hcs
      simp only [Option.some.injEq] at h; subst h
      obtain ⟨r1, r2⟩ := cellsO_rep hcs (ev_rep hg ht x)
      obtain ⟨g', k1, k2, k3⟩ := newVar_run e hI r1 r2
      exact ⟨g', _, _, by simp [execOp, ho, Instr.box, newVar, newRow], k1, k2, k3⟩
    · cases h
  | build ty parts =>
    simp only [ho, Option.map_eq_some_iff] at h
    obtain ⟨y, hy, rfl⟩ := h
    obtain ⟨u, h1, h2⟩ := buildV_run hy (vs := parts.map fun (i, x) => (i, a.eval x)) (by rw [Array.toList_map]; exact ev_parts hg ht _) w
    exact ORel.pureV hI (by simp [execOp, ho, h1]) h2
  | buildSlice ty len parts =>
    simp only [ho, Option.map_eq_some_iff] at h
    obtain ⟨y, hy, rfl⟩ := h
    obtain ⟨g', w', u, h1, h2, h3, h4⟩ := buildSliceV_run hy hI (vs := parts.map fun (i, x) => (i, a.eval x)) (by rw [Array.toList_map]; exact ev_parts hg ht _)
    exact ⟨g', w', u, by simp [execOp, ho, h1], h2, h3, h4⟩
  | load ty x =>
    simp only [ho, Option.map_eq_some_iff] at h
    obtain ⟨y, hy, rfl⟩ := h
    obtain ⟨u, h1, h2⟩ := loadAt_run hy hI (ev_rep hg ht x)
    exact ORel.pureV hI (by simp [execOp, ho, h1]) h2
  | store ty x y =>
    simp only [ho, Option.map_eq_some_iff] at h
    obtain ⟨h', hy, rfl⟩ := h
    obtain ⟨w', h1, h2, h3⟩ := storeP_run hy hI (ev_rep hg ht x) (ev_rep hg ht y)
    exact ⟨g, w', by simp [execOp, ho, h1], h2, h3⟩
  | nilCheck x =>
    simp only [ho] at h
    have hx := ev_rep hg ht x
    cases he : evT c t x with
    | undef => simp [he] at h
    | nilptr => simp [he] at h
    | niliface => simp [he] at h
    | nilfunc => simp [he] at h
    | func fn p q =>
      cases fn with
      | func f =>
        simp only [he, Option.some.injEq] at h; subst h
        rw [he] at hx
        have hx0 := hx
        simp only [Rep] at hx
        obtain ⟨p', q', hv, _⟩ := hx
        exact ORel.pureV hI (u := a.eval x) (by simp [execOp, ho, hv]) hx0
      | _ => simp [he] at h
    | _ =>
      simp only [he, Option.some.injEq] at h; subst h
      rw [he] at hx
      have hx0 := hx
      simp only [Rep] at hx
      refine ORel.pureV hI (u := a.eval x) ?_ hx0
      first
        | (simp [execOp, ho, hx]; done)
        | (obtain ⟨_, _, hv, _⟩ := hx; simp [execOp, ho, hv]; done)
        | (obtain ⟨_, hv, _⟩ := hx; simp [execOp, ho, hv]; done)
        | (obtain ⟨_, _, hv⟩ := hx; simp [execOp, ho, hv]; done)
        | (obtain ⟨_, _, _, hv, _⟩ := hx; simp [execOp, ho, hv]; done)
  | binOp op ty x y ty2 =>
    simp only [ho, Option.map_eq_some_iff] at h
    obtain ⟨z, hz, rfl⟩ := h
    obtain ⟨u, h1, h2⟩ := binV_run hz (ev_rep hg ht x) (ev_rep hg ht y) w
    exact ORel.pureV hI (by simp only [execOp, ho, Sem.run_bind] at h1 ⊢; rw [h1]; rfl) h2
  | unOp op ty x =>
    simp only [ho, Option.map_eq_some_iff] at h
    obtain ⟨z, hz, rfl⟩ := h
    obtain ⟨u, h1, h2⟩ := unV_run hz (ev_rep hg ht x) w (P := c.P)
    exact ORel.pureV hI (by simp [execOp, ho, h1]) h2
  | convert s d x =>
    simp only [ho, Option.map_eq_some_iff] at h
    obtain ⟨⟨y, h'⟩, hy, rfl⟩ := h
    obtain ⟨g', w', u, h1, h2, h3, h4⟩ := convV_run hy hI (ev_rep hg ht x)
    exact ⟨g', w', u, by simp [execOp, ho, h1], h2, h3, h4⟩
  | makeInterface ty x =>
    simp only [ho] at h
    have hx := ev_rep hg ht x
    split at h
    · cases h
    · rename_i d hni hu
      split at h
      · cases h
      · rename_i y hy1
        simp only [Option.some.injEq] at h; subst h
        refine ORel.pureV hI (u := .iface ty (a.eval x)) ?_ (by simp only [Rep]; exact ⟨_, rfl, hx⟩)
        simp only [execOp, ho, Instr.makeInterface, Sem.run_bind, run_underlying hu, Result.andThen_ok]
        cases d <;> first | exact absurd rfl (hni _) | simp
    · cases h
  | makeFunc fn first cap =>
    simp only [ho, Option.some.injEq] at h; subst h
    refine ORel.pureV hI (u := .func fn (first.map a.eval) (cap.map a.eval)) (by simp [execOp, ho, Instr.makeFunc]) ?_
    simp only [Rep]
    exact ⟨_, _, rfl, by rw [Array.toList_map]; exact ev_list hg ht _, by rw [Array.toList_map]; exact ev_list hg ht _⟩
  | makeMap ty q =>
    simp only [ho] at h
    have hnew : ∃ g', Good n0 g w g' (w.alloc (.map #[] 0)) ∧ Inv g' n0 (newB H (.map [] 0)) (w.alloc (.map #[] 0)) ∧ Rep g' (.map H.bs.length) (.map (some w.heap.size)) := by
      obtain ⟨k1, k2, k3⟩ := hI.newBlk (.map #[] 0) (.map [] 0) 0 ⟨by simp [Gh.addB], [], World.alloc_heap_new _ _, rfl, by simp⟩
      exact ⟨_, k2, k1, by simp only [Rep]; exact ⟨_, k3, rfl⟩⟩
    obtain ⟨g', k1, k2, k3⟩ := hnew
    cases q with
    | none =>
      simp only [Option.some.injEq] at h; subst h
      exact ⟨g', _, _, by simp [execOp, ho, Instr.makeMap], k1, k2, k3⟩
    | some x =>
      simp only at h
      split at h
      · rename_i kt et n hu hn
        simp only [Option.some.injEq] at h; subst h
        have hx := ev_rep hg ht x
        cases he : evT c t x <;> simp [he, intOf?] at hn
        rw [he] at hx
        have := rep_int hx
        exact ⟨g', _, _, by simp [execOp, ho, Instr.makeMap, run_underlying hu, asInt, asIntOf, this], k1, k2, k3⟩
      · cases h
  | makeSlice ty x y =>
    simp only [ho, Option.map_eq_some_iff] at h
    obtain ⟨⟨z, h'⟩, hy, rfl⟩ := h
    obtain ⟨g', w', u, h1, h2, h3, h4⟩ := makeSliceV_run hy hI (ev_rep hg ht x) (ev_rep hg ht y)
    exact ⟨g', w', u, by simp [execOp, ho, h1], h2, h3, h4⟩
  | slice ty x lo hi mx =>
    simp only [ho, Option.map_eq_some_iff] at h
    obtain ⟨y, hy, rfl⟩ := h
    obtain ⟨u, h1, h2⟩ := sliceV_run hy (ev_rep hg ht x) (ev_opt hg ht lo) (ev_opt hg ht hi) (ev_opt hg ht mx) hI w
    exact ORel.pureV hI (by simp [execOp, ho, h1]) h2
  | fieldAddr s x f =>
    simp only [ho, Option.map_eq_some_iff] at h
    obtain ⟨y, hy, rfl⟩ := h
    obtain ⟨u, h1, h2⟩ := fieldAddrV_run hy (ev_rep hg ht x) w
    exact ORel.pureV hI (by simp [execOp, ho, h1]) h2
  | field s x f =>
    simp only [ho, Option.map_eq_some_iff] at h
    obtain ⟨y, hy, rfl⟩ := h
    obtain ⟨u, h1, h2⟩ := fieldV_run hy (ev_rep hg ht x) w
    exact ORel.pureV hI (by simp [execOp, ho, h1]) h2
  | indexAddr ty x i =>
    simp only [ho, Option.map_eq_some_iff] at h
    obtain ⟨y, hy, rfl⟩ := h
    obtain ⟨u, h1, h2⟩ := indexAddrV_run hy (ev_rep hg ht x) (ev_rep hg ht i) w
    exact ORel.pureV hI (by simp [execOp, ho, h1]) h2
  | index ty x i =>
    simp only [ho, Option.map_eq_some_iff] at h
    obtain ⟨y, hy, rfl⟩ := h
    obtain ⟨u, h1, h2⟩ := indexV_run hy (ev_rep hg ht x) (ev_rep hg ht i) w
    exact ORel.pureV hI (by simp [execOp, ho, h1]) h2
  | lookup ty m k ok =>
    simp only [ho, Option.map_eq_some_iff] at h
    obtain ⟨y, hy, rfl⟩ := h
    obtain ⟨u, h1, h2⟩ := lookupV_run hy hI (ev_rep hg ht m) (ev_rep hg ht k)
    exact ORel.pureV hI (by simp [execOp, ho, h1]) h2
  | mapUpdate ty m k x =>
    simp only [ho, Option.map_eq_some_iff] at h
    obtain ⟨h', hy, rfl⟩ := h
    obtain ⟨w', h1, h2, h3⟩ := mapUpdV_run hy hI (ev_rep hg ht m) (ev_rep hg ht k) (ev_rep hg ht x)
    exact ⟨g, w', by simp [execOp, ho, h1], h2, h3⟩
  | insert ty m k x =>
    simp only [ho, Option.map_eq_some_iff] at h
    obtain ⟨h', hy, rfl⟩ := h
    obtain ⟨w', h1, h2, h3⟩ := mapUpdV_run hy hI (ev_rep hg ht m) (ev_rep hg ht k) (ev_rep hg ht x)
    exact ⟨g, w', by simp [execOp, ho, h1], h2, h3⟩
  | typeAssert x xt at_ ok =>
    simp only [ho, Option.map_eq_some_iff] at h
    obtain ⟨y, hy, rfl⟩ := h
    obtain ⟨u, h1, h2⟩ := typeAssertV_run (xt := xt) hy (ev_rep hg ht x) w
    exact ORel.pureV hI (by simp [execOp, ho, h1]) h2
  | extract x i =>
    simp only [ho] at h
    have hx := ev_rep hg ht x
    split at h
    · rename_i vs he
      rw [he] at hx
      simp only [Option.map_eq_some_iff] at h
      obtain ⟨y, hy, rfl⟩ := h
      simp only [Rep] at hx
      obtain ⟨us, hu, hr⟩ := hx
      obtain ⟨u, hu2, hr2⟩ := hr.get hy
      exact ORel.pureV hI (u := u) (by simp [execOp, ho, hu, Instr.extract, show us[i]? = some u by simpa using hu2]) hr2
    · cases h
  | defer cl =>
    simp only [ho] at h
    split at h
    · rename_i f hc
      split at h
      · cases h
      rename_i hfn
      simp only [Bool.not_eq_true', Bool.not_eq_false] at hfn
      simp only [Option.some.injEq] at h; subst h
      have hf := ev_rep hg ht f
      have hargs := ev_list hg ht cl.args.toList
      have hd : ∃ d, (Deferred.ofValue (a.eval f) (cl.args.map a.eval)).run c.P w = .ok d w ∧ (Deferred.ofValue (a.eval f) (cl.args.map a.eval)) = pure d := by
        simp only [fnLike] at hfn
        cases he : evT c t f <;> simp [he] at hfn
        rw [he] at hf
        simp only [Rep] at hf
        obtain ⟨p, q, hv, _⟩ := hf
        rw [hv]
        exact ⟨_, rfl, rfl⟩
      obtain ⟨d, hd1, hd2⟩ := hd
      refine ⟨d, ?_, a.eval f, cl.args.map a.eval, hf, by rw [Array.toList_map]; exact hargs, by rw [hd2]; rfl⟩
      simp [execOp, ho, resolve, hc, hd2]
    · cases h
  | panic x =>
    simp only [ho] at h
    have hx := ev_rep hg ht x
    split at h
    · rename_i ty y he
      simp only [Option.some.injEq] at h; subst h
      rw [he] at hx
      have hx0 := hx
      simp only [Rep] at hx
      obtain ⟨u, hu, hr⟩ := hx
      exact ⟨a.eval x, by simp [execOp, ho, hu, Instr.panic, Result.andThen], hx0⟩
    · cases h
  | call cl =>
    simp only [ho] at h
    split at h
    · rename_i f hc
      simp only [Option.some.injEq] at h; subst h
      refine ⟨a.eval f, cl.args.map a.eval, ev_rep hg ht f, by rw [Array.toList_map]; exact ev_list hg ht _, ?_⟩
      simp [execOp, ho, resolve, hc]
    · rename_i hc
      split at h
      · rename_i ty x h1 h2
        simp only [Option.map_eq_some_iff] at h
        obtain ⟨y, hy, rfl⟩ := h
        obtain ⟨u, e1, e2⟩ := lenV_run hy hI (ev_rep hg ht x) cl.argTypes o.type (cl.args.map a.eval) h1 (by simp [h2])
        exact ORel.pureV hI (by simp [execOp, ho, resolve, hc, invoke, builtin, e1]) e2
      · cases h
    · rename_i hc
      split at h
      · rename_i s x h1 h2
        simp only [Option.map_eq_some_iff] at h
        obtain ⟨⟨y, h'⟩, hy, rfl⟩ := h
        obtain ⟨g', w', u, e1, e2, e3, e4⟩ := appendV_run hy hI (ev_rep hg ht s) (ev_rep hg ht x) o.type
        refine ⟨g', w', u, ?_, e2, e3, e4⟩
        have hap : (Builtin.append_ cl.argTypes o.type (cl.args.map a.eval)) = (Builtin.append_ cl.argTypes o.type #[a.eval s, a.eval x]) := by
          unfold Builtin.append_
          simp [h1, h2]
        simp [execOp, ho, resolve, hc, invoke, builtin, hap, e1]
      · cases h
    · rename_i hc
      split at h
      · cases h
      · rename_i x l hl
        simp only [Option.map_eq_some_iff] at h
        obtain ⟨y, hy, rfl⟩ := h
        obtain ⟨u, e1, e2⟩ := foldN_run (P := c.P) .max Builtin.max2 max2_ok _ _ _ _ _ hy (ev_rep hg ht x) (ev_list hg ht l) w
        exact ORel.pureV hI (by simp [execOp, ho, resolve, hc, invoke, builtin, Builtin.max_, hl, e1]) e2
    · rename_i hc
      split at h
      · cases h
      · rename_i x l hl
        simp only [Option.map_eq_some_iff] at h
        obtain ⟨y, hy, rfl⟩ := h
        obtain ⟨u, e1, e2⟩ := foldN_run (P := c.P) .min Builtin.min2 min2_ok _ _ _ _ _ hy (ev_rep hg ht x) (ev_list hg ht l) w
        exact ORel.pureV hI (by simp [execOp, ho, resolve, hc, invoke, builtin, Builtin.min_, hl, e1]) e2
    · rename_i hc
      simp only [Option.some.injEq] at h; subst h
      show (execOp a.eval o).run c.P w = _
      simp [execOp, ho, resolve, hc, invoke, builtin]
    · cases h
  | _ => simp only [ho] at h; cases h

end Go.Ab
