/- The machine's steps for one operation of a region, in whatever frame. -/
import Derived.Test.YtdfpmhgfmmcopaaDoorAbsOne
import Derived.AtR
import Derived.RangeFuncRecord
set_option linter.unusedVariables false
set_option linter.unusedSimpArgs false
set_option linter.unusedSectionVars false
set_option linter.deprecated false
namespace Go.Ab
open Go.RowKit (Below)
section
variable {P : Program} {b : Frame} {a : Act} {k : List Item} {cs : List Frame} {w w' : World} {ops : Array Oper} {i : Nat} {rest : List Nat} {o : Oper}

theorem fin_at (ho : ops[i]? = some o) (v : Value) : (b.atR a (.inRegion ops (i :: rest) :: k)).finish v = b.atR (a.put o.dst v) (.inRegion ops rest :: k) := by
  rw [Frame.finish_atR, ho]; rfl

theorem step_op_value {v : Value} (ho : ops[i]? = some o) (hw : Region.wanted o (yielded ops a.tmps) = true) (hr : (o.semAt b.roundOf a.eval).run P w = .ok (.value v) w') :
    step P (lone (b.atR a (.inRegion ops (i :: rest) :: k)) cs w) = .next (lone (b.atR (a.put o.dst v) (.inRegion ops rest :: k)) cs w') := by
  rw [← fin_at ho]
  refine step_lone_go ?_
  rw [stepGR_op ho hw]
  simp [stepG.apply, hr]
theorem step_op_skip' (ho : ops[i]? = some o) (hw : Region.wanted o (yielded ops a.tmps) = true) (hr : (o.semAt b.roundOf a.eval).run P w = .ok .skip w') :
    step P (lone (b.atR a (.inRegion ops (i :: rest) :: k)) cs w) = .next (lone (b.atR (a.put o.dst Go.undef) (.inRegion ops rest :: k)) cs w') := by
  rw [← fin_at ho]
  refine step_lone_go ?_
  rw [stepGR_op ho hw]
  simp [stepG.apply, hr]
theorem step_op_defer {d : Deferred} (ho : ops[i]? = some o) (hw : Region.wanted o (yielded ops a.tmps) = true) (hr : (o.semAt b.roundOf a.eval).run P w = .ok (.defer d) w') :
    step P (lone (b.atR a (.inRegion ops (i :: rest) :: k)) cs w) = .next (lone (b.atR ({ a with defers := d :: a.defers }.put o.dst Go.undef) (.inRegion ops rest :: k)) cs w') := by
  have := fin_at (b := b) (a := { a with defers := d :: a.defers }) (k := k) (rest := rest) ho Go.undef
  rw [← this]
  refine step_lone_go ?_
  rw [stepGR_op ho hw]
  simp [stepG.apply, hr, Frame.atR]
theorem step_op_panic {v : Value} (ho : ops[i]? = some o) (hw : Region.wanted o (yielded ops a.tmps) = true) (hr : (o.semAt b.roundOf a.eval).run P w = .halt (.panic v) w') :
    step P (lone (b.atR a (.inRegion ops (i :: rest) :: k)) cs w) = .next (lone { b.atR a (.inRegion ops (i :: rest) :: k) with mode := .panicking [{ v, recovered := false }] } cs w') := by
  refine step_lone_go ?_
  rw [stepGR_op ho hw, ← Frame.raise_atR]
  simp [stepG.apply, hr]
theorem step_op_enter {f : FuncId} {args : Array Value} (ho : ops[i]? = some o) (hw : Region.wanted o (yielded ops a.tmps) = true) (hr : (o.semAt b.roundOf a.eval).run P w = .ok (.enter f args) w') :
    step P (lone (b.atR a (.inRegion ops (i :: rest) :: k)) cs w) = .next (lone (Frame.enter P f args .normal) (b.atR a (.inRegion ops (i :: rest) :: k) :: cs) w') := by
  refine step_lone_go ?_
  rw [stepGR_op ho hw]
  simp [stepG.apply, hr, Frame.atR]
theorem step_op_round {l : Nat} {f : FuncId} {tm : Array Value} {as bo : Code} (ho : ops[i]? = some o) (hw : Region.wanted o (yielded ops a.tmps) = true) (hr : (o.semAt b.roundOf a.eval).run P w = .ok (.round l f tm as bo) w') :
    step P (lone (b.atR a (.inRegion ops (i :: rest) :: k)) cs w) = .next (lone (Frame.round l f tm as bo .normal) (b.atR a (.inRegion ops (i :: rest) :: k) :: cs) w') := by
  refine step_lone_go ?_
  rw [stepGR_op ho hw]
  simp [stepG.apply, hr, Frame.atR]
theorem step_op_recover_none (ho : ops[i]? = some o) (hw : Region.wanted o (yielded ops a.tmps) = true) (hro : b.roundOf = none) (hr : (o.semAt b.roundOf a.eval).run P w = .ok .recover w')
    (ht : tryRecover (b.atR a (.inRegion ops (i :: rest) :: k)) cs = none) :
    step P (lone (b.atR a (.inRegion ops (i :: rest) :: k)) cs w) = .next (lone (b.atR (a.put o.dst .nilIface) (.inRegion ops rest :: k)) cs w') := by
  rw [← fin_at ho]
  refine step_lone_go ?_
  rw [stepGR_op ho hw]
  simp only [Frame.atR, hro] at ht hr ⊢
  simp [stepG.apply, hr, ht]
theorem step_op_recover_some {v : Value} {cs' : List Frame} (ho : ops[i]? = some o) (hw : Region.wanted o (yielded ops a.tmps) = true) (hro : b.roundOf = none) (hr : (o.semAt b.roundOf a.eval).run P w = .ok .recover w')
    (ht : tryRecover (b.atR a (.inRegion ops (i :: rest) :: k)) cs = some (v, cs')) :
    step P (lone (b.atR a (.inRegion ops (i :: rest) :: k)) cs w) = .next (lone (b.atR (a.put o.dst v) (.inRegion ops rest :: k)) cs' w') := by
  rw [← fin_at ho]
  refine step_lone_go ?_
  rw [stepGR_op ho hw]
  simp only [Frame.atR, hro] at ht hr ⊢
  simp [stepG.apply, hr, ht]

end

/-! ### The context of a frame, the relation between states -/
inductive Ctx where
  | nrm (cs : List Frame)
  | dfr (c0 : Frame) (rest : List Frame) (u : Value)

def pmode (u : Value) : Pan → FrameMode
  | .no => .returning
  | .pan _ => .panicking [{ v := u, recovered := false }]
  | .got _ => .panicking [{ v := u, recovered := true }]

def Ctx.cs : Ctx → Pan → List Frame
  | .nrm cs, _ => cs
  | .dfr c0 rest u, p => { c0 with mode := pmode u p } :: rest
def Ctx.kind : Ctx → CallKind
  | .nrm _ => .normal
  | .dfr _ _ _ => .deferred

def PanOk (g : Gh) : Ctx → Pan → Prop
  | .nrm _, .no => True
  | .nrm _, _ => False
  | .dfr _ _ _, .no => True
  | .dfr _ _ u, .pan v | .dfr _ _ u, .got v => Rep g v u

def DefOk (g : Gh) : Def → Deferred → Prop
  | .call fv args, d => ∃ (vf : Value) (vs : Array Value), Rep g fv vf ∧ RepL g args vs.toList ∧ Deferred.ofValue vf vs = pure d
  | .mark a, d => ∃ B, g.mu a = some B ∧ d = { target := .collected B, args := #[] }
def DefsOk (g : Gh) : List Def → List Deferred → Prop
  | [], ds => ds = []
  | x :: xs, ds => ∃ d r, ds = d :: r ∧ DefOk g x d ∧ DefsOk g xs r

theorem DefOk.mono {g g' : Gh} (h : g.le g') {x : Def} {d : Deferred} (r : DefOk g x d) : DefOk g' x d := by
  cases x with
  | call fv args => obtain ⟨vf, vs, h1, h2, h3⟩ := r; exact ⟨vf, vs, h1.mono h, RepL.mono h _ _ h2, h3⟩
  | mark a => obtain ⟨B, h1, h2⟩ := r; exact ⟨B, h.mu _ _ h1, h2⟩
theorem DefsOk.mono {g g' : Gh} (h : g.le g') : ∀ {xs : List Def} {ds : List Deferred}, DefsOk g xs ds → DefsOk g' xs ds
  | [], _, r => r
  | _ :: _, _, ⟨d, r, h1, h2, h3⟩ => ⟨d, r, h1, h2.mono h, DefsOk.mono h h3⟩
theorem PanOk.mono {g g' : Gh} (h : g.le g') {K : Ctx} {p : Pan} (r : PanOk g K p) : PanOk g' K p := by
  cases K <;> cases p <;> simp only [PanOk] at r ⊢ <;> exact r.mono h

def RoOk (g : Gh) (ro : Option Nat) (b : Frame) : Prop :=
  match ro with
  | none => b.roundOf = none
  | some l => ∃ B, g.mu l = some B ∧ b.roundOf = some B
theorem RoOk.mono {g g' : Gh} (h : g.le g') {ro : Option Nat} {b : Frame} (r : RoOk g ro b) : RoOk g' ro b := by
  cases ro with
  | none => exact r
  | some l => obtain ⟨B, h1, h2⟩ := r; exact ⟨B, h.mu _ _ h1, h2⟩

structure StRel (c : Cfg) (g : Gh) (n0 : Nat) (K : Ctx) (b : Frame) (s : St) (a : Act) (w : World) : Prop where
  t : RepL g s.t a.tmps.toList
  inv : Inv g n0 s.h w
  glob : GlobOk c g
  d : DefsOk g s.d a.defers
  p : PanOk g K s.p
  ro : RoOk g s.ro b
  kind : b.kind = K.kind

variable {P : Program} {b : Frame} {a : Act} {k : List Item} {cs : List Frame} {w w' : World}

def Arr (P : Program) (g : Gh) (m : Machine) (b : Frame) (k : List Item) (cs : List Frame) : Ax → Act → World → Prop
  | .normal, a, w => Steps P m (lone (b.atR a k) cs w)
  | .exit id, a, w => ∃ k1, exitTo id k1 = exitTo id k ∧ Steps P m (lone (b.atR a (.code (.exit id) :: k1)) cs w)
  | .ret, a, w => ∃ k1, Steps P m (lone (b.atR a (.code .ret :: k1)) cs w)
  | .panic v, a, w => ∃ todo u, Rep g v u ∧ Steps P m (lone { b.atR a todo with mode := .panicking [{ v := u, recovered := false }] } cs w)

theorem Arr.of_steps {g : Gh} {m m1 : Machine} {ax : Ax} (h : Steps P m m1) (r : Arr P g m1 b k cs ax a w) : Arr P g m b k cs ax a w := by
  cases ax with
  | normal => exact h.trans r
  | exit id => obtain ⟨k1, h1, h2⟩ := r; exact ⟨k1, h1, h.trans h2⟩
  | ret => obtain ⟨k1, h2⟩ := r; exact ⟨k1, h.trans h2⟩
  | panic v => obtain ⟨t, u, h1, h2⟩ := r; exact ⟨t, u, h1, h.trans h2⟩
/-- an item that catches no exit may be dropped, if the way does not end before it -/
theorem Arr.pass {g : Gh} {m : Machine} {x : Item} {ax : Ax} (hx : x.plain = true) (hn : ax ≠ .normal) (r : Arr P g m b (x :: k) cs ax a w) : Arr P g m b k cs ax a w := by
  cases ax with
  | normal => exact absurd rfl hn
  | exit id =>
    obtain ⟨k1, h1, h2⟩ := r
    refine ⟨k1, ?_, h2⟩
    rw [h1]
    cases x <;> simp_all [exitTo, Item.plain]
  | ret => exact r
  | panic v => exact r

/-- What a simulation of code says. -/
def ESim (c : Cfg) (E : ExecF) : Prop :=
  ∀ (code : Code) (s : St) (ax : Ax) (s' : St), E code s = some (ax, s') → ∀ (g : Gh) (n0 : Nat) (K : Ctx) (b : Frame) (a : Act) (w : World) (k : List Item), StRel c g n0 K b s a w →
    ∃ g' a' w', Good n0 g w g' w' ∧ StRel c g' n0 K b s' a' w' ∧ Arr c.P g' (lone (b.atR a (.code code :: k)) (K.cs s.p) w) b k (K.cs s'.p) ax a' w'

/-- How a call comes back to its caller. -/
def Back (P : Program) (g : Gh) (m : Machine) (fr : Frame) (cs : List Frame) (w : World) : CRes → Prop
  | .ret v => ∃ u, Rep g v u ∧ Steps P m (lone (fr.finish u) cs w)
  | .panic v => ∃ u, Rep g v u ∧ Steps P m (lone (fr.raise [{ v := u, recovered := false }]) cs w)

def CSim (c : Cfg) (C : CallF) : Prop :=
  ∀ (fv : V) (args : List V) (h : Heap) (r : CRes) (h' : Heap), C fv args h = some (r, h') → ∀ (g : Gh) (n0 : Nat) (w : World) (vf : Value) (vs : Array Value), Inv g n0 h w → GlobOk c g → Rep g fv vf → RepL g args vs.toList →
    (∃ f ar, (do let d ← Deferred.ofValue vf vs; invoke d.target d.args : Sem Next).run c.P w = .ok (.enter f ar) w ∧
      ∀ fr cs, ∃ g' w', Good n0 g w g' w' ∧ Inv g' n0 h' w' ∧ Back c.P g' (lone (Frame.enter c.P f ar .normal) (fr :: cs) w) fr cs w' r) ∨
    (∃ l f tm as bo, (do let d ← Deferred.ofValue vf vs; invoke d.target d.args : Sem Next).run c.P w = .ok (.round l f tm as bo) w ∧
      ∀ fr cs, ∃ g' w', Good n0 g w g' w' ∧ Inv g' n0 h' w' ∧ Back c.P g' (lone (Frame.round l f tm as bo .normal) (fr :: cs) w) fr cs w' r)

theorem put_tmps (a : Act) (dst : Option Tmp) (v : Value) : (a.put dst v).tmps.toList = (match dst with | some d => a.tmps.toList.set d v | none => a.tmps.toList) := by
  cases dst <;> simp [Act.put]
theorem put_defers (a : Act) (dst : Option Tmp) (v : Value) : (a.put dst v).defers = a.defers := by cases dst <;> rfl
theorem putT_rep {g : Gh} {t : List V} {a : Act} (ht : RepL g t a.tmps.toList) (dst : Option Tmp) {x : V} {v : Value} (hx : Rep g x v) : RepL g (putT t dst x) (a.put dst v).tmps.toList := by
  rw [put_tmps]
  cases dst with
  | none => exact ht
  | some d => exact ht.set hx

theorem StRel.put {c : Cfg} {g g' : Gh} {n0 : Nat} {K : Ctx} {s : St} (h : StRel c g n0 K b s a w) (hle : g.le g') {h' : Heap} (hI : Inv g' n0 h' w') (dst : Option Tmp) {x : V} {v : Value} (hx : Rep g' x v) :
    StRel c g' n0 K b { s with t := putT s.t dst x, h := h' } (a.put dst v) w' :=
  ⟨putT_rep (RepL.mono hle _ _ h.t) dst hx, hI, h.glob.mono hle, by rw [put_defers]; exact h.d.mono hle, h.p.mono hle, h.ro.mono hle, h.kind⟩

end Go.Ab
