/- Equations for evaluating code by simp: at each step only what comes first is looked at. -/
import Derived.Test.YtdfpmhgfmmcopaaDoorAbsInf
set_option linter.unusedVariables false
set_option linter.unusedSimpArgs false
set_option linter.unusedSectionVars false
set_option linter.deprecated false
namespace Go.Ab

/-! ### What follows is held as data: simp does not run ahead -/
noncomputable section
variable (c : Cfg)

def seqC (b : Code) (r : Option (Ax × St)) : Option (Ax × St) := match r with
  | some (.normal, s) => Ei c b s
  | r => r
@[simp] theorem seqC_normal (b : Code) (s : St) : seqC c b (some (.normal, s)) = Ei c b s := rfl
@[simp] theorem seqC_exit (b : Code) (i : Nat) (s : St) : seqC c b (some (.exit i, s)) = some (.exit i, s) := rfl
@[simp] theorem seqC_ret (b : Code) (s : St) : seqC c b (some (.ret, s)) = some (.ret, s) := rfl
@[simp] theorem seqC_panic (b : Code) (v : V) (s : St) : seqC c b (some (.panic v, s)) = some (.panic v, s) := rfl

def condC (a b : Code) (s : St) (q : V) : Option (Ax × St) := match q with
  | .bool true => Ei c a s
  | .bool false => Ei c b s
  | _ => none
@[simp] theorem condC_true (a b : Code) (s : St) : condC c a b s (.bool true) = Ei c a s := rfl
@[simp] theorem condC_false (a b : Code) (s : St) : condC c a b s (.bool false) = Ei c b s := rfl

def blockC (id : Nat) (r : Option (Ax × St)) : Option (Ax × St) := match r with
  | some (.exit id', s') => if id' = id then some (.normal, s') else some (.exit id', s')
  | r => r
@[simp] theorem blockC_normal (id : Nat) (s : St) : blockC id (some (.normal, s)) = some (.normal, s) := rfl
@[simp] theorem blockC_exit (id i : Nat) (s : St) : blockC id (some (.exit i, s)) = if i = id then some (.normal, s) else some (.exit i, s) := rfl
@[simp] theorem blockC_ret (id : Nat) (s : St) : blockC id (some (.ret, s)) = some (.ret, s) := rfl
@[simp] theorem blockC_panic (id : Nat) (v : V) (s : St) : blockC id (some (.panic v, s)) = some (.panic v, s) := rfl

/-- behind a round of a loop -/
def loopC (b : Code) (r : Option (Ax × St)) : Option (Ax × St) := match r with
  | some (.normal, s') => Ei c (.loop b) s'
  | some (ax, s') => some (ax, killS c b s')
  | none => none
@[simp] theorem loopC_exit (b : Code) (i : Nat) (s : St) : loopC c b (some (.exit i, s)) = some (.exit i, killS c b s) := rfl
@[simp] theorem loopC_ret (b : Code) (s : St) : loopC c b (some (.ret, s)) = some (.ret, killS c b s) := rfl

/-- behind an operation's answer -/
def resC (q : Bool) (ops : Array Oper) (i : Nat) (l : List Nat) (o : Oper) (s : St) (r : Option OR) : Option (Ax × St) := match r with
  | none => none
  | some (.val v h) => execOps c (Ci c) q ops l { s with t := putT s.t o.dst v, h }
  | some (.skip h) => execOps c (Ci c) q ops l { s with t := putT s.t o.dst (.tuple []), h }
  | some (.dfr d) => if s.ro.isSome then none else execOps c (Ci c) q ops l { s with t := putT s.t o.dst (.tuple []), d := d :: s.d }
  | some (.pan v) => if q && !pivot ops i then none else some (.panic v, s)
  | some .recover => if s.ro.isSome then none else match s.p with
    | .pan v => execOps c (Ci c) q ops l { s with t := putT s.t o.dst v, p := .got v }
    | _ => execOps c (Ci c) q ops l { s with t := putT s.t o.dst .niliface }
  | some (.call f args) =>
    if q && clsOf c o == 0 && !V.closed.closedL args then none else
    match Ci c f args s.h with
      | some (.ret v, h) => execOps c (Ci c) q ops l { s with t := putT s.t o.dst v, h }
      | some (.panic v, h) => if q && !pivot ops i then none else some (.panic v, { s with h })
      | none => none
/-- behind a call's answer -/
def calC (q : Bool) (ops : Array Oper) (i : Nat) (l : List Nat) (o : Oper) (s : St) (r : Option (CRes × Heap)) : Option (Ax × St) := match r with
      | some (.ret v, h) => execOps c (Ci c) q ops l { s with t := putT s.t o.dst v, h }
      | some (.panic v, h) => if q && !pivot ops i then none else some (.panic v, { s with h })
      | none => none

/-- an operation that is wanted, or not -/
def wantC (q : Bool) (ops : Array Oper) (i : Nat) (l : List Nat) (o : Oper) (s : St) (w : Option Bool) : Option (Ax × St) := match w with
  | none => none
  | some true => resC c q ops i l o s (opR c s.h (evT c s.t) o)
  | some false => execOps c (Ci c) q ops l { s with t := putT s.t o.dst (.tuple []) }
def atC (q : Bool) (ops : Array Oper) (i : Nat) (l : List Nat) (s : St) (o : Option Oper) : Option (Ax × St) := match o with
  | none => none
  | some o => wantC c q ops i l o s (wantedV ops o s.t)

variable {q : Bool} {ops : Array Oper} {i : Nat} {l : List Nat} {o : Oper} {s : St}
@[simp] theorem execOps_step : execOps c (Ci c) q ops (i :: l) s = atC c q ops i l s ops[i]? := by
  rw [execOps]
  unfold atC
  cases ops[i]? with
  | none => rfl
  | some o =>
    simp only [wantC]
    cases wantedV ops o s.t with
    | none => rfl
    | some b => cases b with
      | false => rfl
      | true =>
        simp only [resC]
        cases opR c s.h (evT c s.t) o with
        | none => rfl
        | some r => cases r <;> rfl
@[simp] theorem execOps_nil : execOps c (Ci c) q ops [] s = some (.normal, s) := rfl
@[simp] theorem atC_some : atC c q ops i l s (some o) = wantC c q ops i l o s (wantedV ops o s.t) := rfl
@[simp] theorem wantC_true : wantC c q ops i l o s (some true) = resC c q ops i l o s (opR c s.h (evT c s.t) o) := rfl
@[simp] theorem wantC_false : wantC c q ops i l o s (some false) = execOps c (Ci c) q ops l { s with t := putT s.t o.dst (.tuple []) } := rfl
@[simp] theorem resC_val (v : V) (h : Heap) : resC c q ops i l o s (some (.val v h)) = execOps c (Ci c) q ops l { s with t := putT s.t o.dst v, h } := rfl
@[simp] theorem resC_skip (h : Heap) : resC c q ops i l o s (some (.skip h)) = execOps c (Ci c) q ops l { s with t := putT s.t o.dst (.tuple []), h } := rfl
@[simp] theorem resC_call0 (f : V) (args : List V) : resC c false ops i l o s (some (.call f args)) = calC c false ops i l o s (Ci c f args s.h) := rfl
theorem resC_call1 {f : V} {args : List V} (h : V.closed.closedL args = true) : resC c true ops i l o s (some (.call f args)) = calC c true ops i l o s (Ci c f args s.h) := by
  simp [resC, calC, h]
theorem resC_call2 {f : V} {args : List V} (h : (clsOf c o == 0) = false) : resC c true ops i l o s (some (.call f args)) = calC c true ops i l o s (Ci c f args s.h) := by
  simp [resC, calC, h]
@[simp] theorem calC_ret (v : V) (h : Heap) : calC c q ops i l o s (some (.ret v, h)) = execOps c (Ci c) q ops l { s with t := putT s.t o.dst v, h } := rfl
@[simp] theorem calC_panic (v : V) (h : Heap) : calC c false ops i l o s (some (.panic v, h)) = some (.panic v, { s with h }) := rfl

@[simp] theorem Ei_skip (s : St) : Ei c .skip s = some (.normal, s) := by rw [Ei_eq]; rfl
@[simp] theorem Ei_label (l : Nat) (s : St) : Ei c (.label l) s = some (.normal, s) := by rw [Ei_eq]; rfl
@[simp] theorem Ei_ret (s : St) : Ei c .ret s = some (.ret, s) := by rw [Ei_eq]; rfl
@[simp] theorem Ei_exit (id : Nat) (s : St) : Ei c (.exit id) s = some (.exit id, s) := by rw [Ei_eq]; rfl
@[simp] theorem Ei_seq (a b : Code) (s : St) : Ei c (.seq a b) s = seqC c b (Ei c a s) := by
  rw [Ei_eq]
  simp only [execS, seqC]
  cases Ei c a s with
  | none => rfl
  | some x => obtain ⟨ax, s⟩ := x; cases ax <;> rfl
@[simp] theorem Ei_cond (q : Operand) (a b : Code) (s : St) : Ei c (.cond q a b) s = condC c a b s (evT c s.t q) := by
  rw [Ei_eq]; rfl
@[simp] theorem Ei_block (id : Nat) (b : Code) (s : St) : Ei c (.block id b) s = blockC id (Ei c b s) := by
  rw [Ei_eq]
  simp only [execS, blockC]
  cases Ei c b s with
  | none => rfl
  | some x => obtain ⟨ax, s⟩ := x; cases ax <;> rfl
@[simp] theorem Ei_region0 (id : Nat) (ops : Array Oper) (s : St) : Ei c (.region id ops false) s = execOps c (Ci c) false ops (List.range ops.size) s := by rw [Ei_eq]; rfl
theorem Ei_region1 {id : Nat} {ops : Array Oper} {s : St} (h : drawOk c ops = true) : Ei c (.region id ops true) s = execOps c (Ci c) true ops (List.range ops.size) s := by rw [Ei_eq]; simp [execS, h]
theorem Ei_region1T {id : Nat} {ops : Array Oper} {s : St} (h : drawOkT c ops s.t = true) : Ei c (.region id ops true) s = execOps c (Ci c) true ops (List.range ops.size) s := by rw [Ei_eq]; simp [execS, h]
theorem Ei_loop (b : Code) (s : St) : Ei c (.loop b) s = loopC c b (Ei c b (killS c b s)) := by
  rw [Ei_eq]
  simp only [execS, loopC]
  cases Ei c b (killS c b s) with
  | none => rfl
  | some x => obtain ⟨ax, s⟩ := x; cases ax <;> rfl
end

theorem killT_get : ∀ (ks : List Nat) (t : List V) (i : Nat), (killT ks t)[i]? = if i ∈ ks ∧ i < t.length then some .undef else t[i]?
  | [], t, i => by simp [killT]
  | k :: ks, t, i => by
    show (killT ks (t.set k .undef))[i]? = _
    rw [killT_get ks, List.length_set, List.getElem?_set]
    by_cases h1 : i ∈ ks
    · by_cases h2 : i < t.length
      · simp [h1, h2]
      · simp [h1, h2]
        omega
    · by_cases h2 : i < t.length
      · by_cases h3 : k = i
        · subst h3; simp [h1, h2]
        · have : ¬ i = k := fun e => h3 e.symm
          simp [h1, h3, this]
      · by_cases h3 : k = i
        · subst h3; simp [h2]
        · simp [h2, h3]
theorem killT_idem (ks : List Nat) (t : List V) : killT ks (killT ks t) = killT ks t := by
  have hl : ∀ (ks : List Nat) (t : List V), (killT ks t).length = t.length := by
    intro ks
    induction ks with
    | nil => intro t; rfl
    | cons k ks ih => intro t; show (killT ks (t.set k .undef)).length = _; rw [ih]; simp
  apply List.ext_getElem?
  intro i
  rw [killT_get, hl, killT_get]
  by_cases h : i ∈ ks ∧ i < t.length
  · simp [h]
  · simp [h]
theorem killS_idem (c : Cfg) (b : Code) (s : St) : killS c b (killS c b s) = killS c b s := by
  unfold killS
  by_cases h : c.kill = true
  · simp [h, killT_idem]
  · simp [h]
theorem Ei_loop_kill (c : Cfg) (b : Code) (s : St) : Ei c (.loop b) (killS c b s) = Ei c (.loop b) s := by
  rw [Ei_loop, Ei_loop c b s, killS_idem]
@[simp] theorem loopC_normal (c : Cfg) (b : Code) (s : St) : loopC c b (some (.normal, s)) = Ei c (.loop b) (killS c b s) := (Ei_loop_kill c b s).symm

/-! ### Parts of a function -/
def codeOf (fn : Func) : Code := fn.body.getD .skip
def loopsOf : Code → List Code
  | .seq a b | .cond _ a b => loopsOf a ++ loopsOf b
  | .block _ b | .scope b => loopsOf b
  | .loop b => b :: loopsOf b
  | .rangeFunc _ _ a b => loopsOf a ++ loopsOf b
  | _ => []
def loopAt (fn : Func) (k : Nat) : Code := (loopsOf (codeOf fn)).getD k .skip
def drawsOf : Code → List (Array Oper)
  | .seq a b | .cond _ a b => drawsOf a ++ drawsOf b
  | .block _ b | .scope b | .loop b => drawsOf b
  | .rangeFunc _ _ a b => drawsOf a ++ drawsOf b
  | .region _ ops true => [ops]
  | _ => []
def drawAt (fn : Func) (k : Nat) : Array Oper := (drawsOf (codeOf fn)).getD k #[]

end Go.Ab
