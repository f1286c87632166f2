/- Running code towards a claim on its end: what follows is held as a list of frames; rules for simp, one step each. -/
import Derived.Test.YtdfpmhgfmmcopaaDoorAbsKit
set_option linter.unusedVariables false
set_option linter.unusedSimpArgs false
set_option linter.unusedSectionVars false
set_option linter.deprecated false
namespace Go.Ab

/-! ### Temporaries as a function -/
def tab (n : Nat) (f : Nat → V) : List V := (List.range n).map f
def upd (f : Nat → V) (i : Nat) (v : V) : Nat → V := fun j => if j = i then v else f j
@[simp] theorem upd_same (f : Nat → V) (i : Nat) (v : V) : upd f i v i = v := by simp [upd]
theorem upd_ne {f : Nat → V} {i j : Nat} {v : V} (h : j ≠ i) : upd f i v j = f j := by simp [upd, h]
@[simp] theorem upd_lit (f : Nat → V) (i j : Nat) (v : V) : upd f (no_index (OfNat.ofNat i)) v (no_index (OfNat.ofNat j)) = if j = i then v else f (OfNat.ofNat j) := rfl
@[simp] theorem tab_length (n : Nat) (f : Nat → V) : (tab n f).length = n := by simp [tab]
theorem tab_get (n : Nat) (f : Nat → V) (i : Nat) : (tab n f)[i]? = if i < n then some (f i) else none := by
  unfold tab
  by_cases h : i < n <;> simp [h]
theorem tab_getD (n : Nat) (f : Nat → V) (i : Nat) : (tab n f).getD i .undef = if i < n then f i else .undef := by
  rw [List.getD_eq_getElem?_getD, tab_get]
  by_cases h : i < n <;> simp [h]
theorem tab_set (n : Nat) (f : Nat → V) (i : Nat) (v : V) : (tab n f).set i v = tab n (upd f i v) := by
  apply List.ext_getElem?
  intro j
  rw [List.getElem?_set, tab_get, tab_get, tab_length]
  unfold upd
  by_cases h : i = j
  · subst h; by_cases h2 : i < n <;> simp [h2]
  · by_cases h2 : j < n <;> simp [h, h2, Ne.symm h, eq_comm]
theorem tab_ext {n : Nat} {f g : Nat → V} (h : ∀ i, i < n → f i = g i) : tab n f = tab n g := by
  unfold tab
  exact List.map_congr_left fun i hi => h i (by simpa using hi)

/-- Temporaries as a call lays them. -/
def lf : List V → Nat → V
  | [], _ => .tuple []
  | v :: _, 0 => v
  | _ :: l, i + 1 => lf l i
@[simp] theorem lf_nil (i : Nat) : lf [] i = .tuple [] := rfl
@[simp] theorem lf_zero (v : V) (l : List V) : lf (v :: l) 0 = v := rfl
@[simp] theorem lf_succ (v : V) (l : List V) (i : Nat) : lf (v :: l) (i + 1) = lf l i := rfl
theorem lf_getD : ∀ (l : List V) (i : Nat), lf l i = l.getD i (.tuple [])
  | [], _ => rfl
  | _ :: _, 0 => rfl
  | _ :: l, i + 1 => by simp [lf_getD l i]
theorem initT_tab {fn : Func} {args : List V} (h : args.length ≤ fn.ntmps) : initT fn args = tab fn.ntmps (lf args) := by
  apply List.ext_getElem?
  intro j
  rw [tab_get, lf_getD]
  unfold initT
  by_cases h1 : j < args.length
  · rw [List.getElem?_append_left h1]
    simp [h1, Nat.lt_of_lt_of_le h1 h]
  · rw [List.getElem?_append_right (by omega), List.getElem?_replicate]
    by_cases h2 : j < fn.ntmps
    · simp [h2, show j - args.length < fn.ntmps - args.length by omega, List.getElem?_eq_none (Nat.le_of_not_lt h1)]
    · simp [h2, show ¬ j - args.length < fn.ntmps - args.length by omega]

/-- What is owed on the way. -/
def Owe (p X : Prop) : Prop := p ∧ (p → X)
theorem owe {p X : Prop} (h1 : p) (h2 : p → X) : Owe p X := ⟨h1, h2⟩

noncomputable section
variable (c : Cfg)

/-! ### A call's end -/
def finM (rs : List ResultVar) (s : St) (m : Md) : Option (CRes × Heap) :=
  match leaveS (Di c) s.d s.h m with
  | some (h, .ret) => match readRes c.P h s.t rs with
    | some vs => some (.ret (packRes vs), h)
    | none => none
  | some (h, .pan v) => some (.panic v, h)
  | none => none
def finS (rs : List ResultVar) : Option (Ax × St) → Option (CRes × Heap)
  | some (.normal, s) => finM c rs s .ret
  | some (.ret, s) => finM c rs s .ret
  | some (.panic v, s) => finM c rs s (.pan v)
  | _ => none
theorem bodyS_fin {f : FuncId} {fn : Func} {code : Code} {args : List V} {h : Heap} (hf : c.P.funcs[f]? = some fn) (hb : fn.body = some code) :
    bodyS c (Ei c) (Di c) f args h = finS c fn.results.toList (Ei c code ⟨initT fn args, h, [], .no, none⟩) := by
  unfold bodyS
  rw [hf]
  simp only [hb]
  cases Ei c code ⟨initT fn args, h, [], .no, none⟩ with
  | none => rfl
  | some x => obtain ⟨ax, s⟩ := x; cases ax <;> rfl

/-! ### Frames -/
inductive CC where
  | op (q : Bool) (ops : Array Oper) (i : Nat) (l : List Oper) (o : Oper) (s : St)
  | rng (a : Nat) (s : St) (d : List Def)
inductive Fr where
  | seq (b : Code)
  | block (id : Nat)
  | loop (b : Code)
  | call (rs : List ResultVar) (k : CC)
  | asg (a : Nat) (bo : Code) (k : CC)
  | bod (a : Nat) (k : CC)

/-- operations one by one, as a list -/
def execL (q : Bool) (ops : Array Oper) : Nat → List Oper → St → Option (Ax × St)
  | _, [], s => some (.normal, s)
  | i, o :: l, s =>
      match wantedV ops o s.t with
      | none => none
      | some false => execL q ops (i + 1) l { s with t := putT s.t o.dst (.tuple []) }
      | some true =>
        match opR c s.h (evT c s.t) o with
        | none => none
        | some (.val v h) => execL q ops (i + 1) l { s with t := putT s.t o.dst v, h }
        | some (.skip h) => execL q ops (i + 1) l { s with t := putT s.t o.dst (.tuple []), h }
        | some (.dfr d) => if s.ro.isSome then none else execL q ops (i + 1) l { s with t := putT s.t o.dst (.tuple []), d := d :: s.d }
        | some (.pan v) => if q && !pivot ops i then none else some (.panic v, s)
        | some .recover => if s.ro.isSome then none else match s.p with
          | .pan v => execL q ops (i + 1) l { s with t := putT s.t o.dst v, p := .got v }
          | _ => execL q ops (i + 1) l { s with t := putT s.t o.dst .niliface }
        | some (.call f args) =>
          if q && clsOf c o == 0 && !V.closed.closedL args then none else
          match Ci c f args s.h with
          | some (.ret v, h) => execL q ops (i + 1) l { s with t := putT s.t o.dst v, h }
          | some (.panic v, h) => if q && !pivot ops i then none else some (.panic v, { s with h })
          | none => none

theorem execL_range (q : Bool) (ops : Array Oper) : ∀ (n i : Nat) (s : St), i + n = ops.size → execOps c (Ci c) q ops (List.range' i n) s = execL c q ops i (ops.toList.drop i) s
  | 0, i, s, h => by
    have : ops.toList.drop i = [] := List.drop_eq_nil_of_le (by simp; omega)
    rw [this]; rfl
  | n + 1, i, s, h => by
    have hi : i < ops.toList.length := by simp; omega
    rw [List.drop_eq_getElem_cons hi, List.range'_succ]
    have ho : ops[i]? = some ops.toList[i] := by simp
    have ih := fun s => execL_range q ops n (i + 1) s (by omega)
    rw [execOps, execL, ho]
    simp only [ih]
    cases wantedV ops ops.toList[i] s.t with
    | none => rfl
    | some b => cases b with
      | false => rfl
      | true =>
        simp only
        cases opR c s.h (evT c s.t) ops.toList[i] with
        | none => rfl
        | some r => cases r <;> rfl
theorem execOps_list (q : Bool) (ops : Array Oper) (s : St) : execOps c (Ci c) q ops (List.range ops.size) s = execL c q ops 0 ops.toList s := by
  rw [List.range_eq_range', execL_range c q ops ops.size 0 s (by omega), List.drop_zero]

/-- behind an operation's answer -/
def resL (q : Bool) (ops : Array Oper) (i : Nat) (l : List Oper) (o : Oper) (s : St) (r : Option OR) : Option (Ax × St) :=
        match r with
        | none => none
        | some (.val v h) => execL c q ops (i + 1) l { s with t := putT s.t o.dst v, h }
        | some (.skip h) => execL c q ops (i + 1) l { s with t := putT s.t o.dst (.tuple []), h }
        | some (.dfr d) => if s.ro.isSome then none else execL c q ops (i + 1) l { s with t := putT s.t o.dst (.tuple []), d := d :: s.d }
        | some (.pan v) => if q && !pivot ops i then none else some (.panic v, s)
        | some .recover => if s.ro.isSome then none else match s.p with
          | .pan v => execL c q ops (i + 1) l { s with t := putT s.t o.dst v, p := .got v }
          | _ => execL c q ops (i + 1) l { s with t := putT s.t o.dst .niliface }
        | some (.call f args) =>
          if q && clsOf c o == 0 && !V.closed.closedL args then none else
          match Ci c f args s.h with
          | some (.ret v, h) => execL c q ops (i + 1) l { s with t := putT s.t o.dst v, h }
          | some (.panic v, h) => if q && !pivot ops i then none else some (.panic v, { s with h })
          | none => none
def calL (q : Bool) (ops : Array Oper) (i : Nat) (l : List Oper) (o : Oper) (s : St) : Option (CRes × Heap) → Option (Ax × St)
          | some (.ret v, h) => execL c q ops (i + 1) l { s with t := putT s.t o.dst v, h }
          | some (.panic v, h) => if q && !pivot ops i then none else some (.panic v, { s with h })
          | none => none
def rngL (a : Nat) (s : St) (d : List Def) : Option (CRes × Heap) → Option (Ax × St)
  | some (.ret _, h') => match h'.bs[a]? with
    | some (.loop t p as bo st pend db') =>
      if st = .busy then none else
      let s' : St := { s with h := { h' with bs := h'.bs.set a (.loop t p as bo .exhausted pend db') }, d }
      match pend with
      | none => some (.normal, s')
      | some .ret => some (.ret, s')
      | some (.exit id) => some (.exit id, s')
      | _ => none
    | _ => none
  | some (.panic v, h') => some (.panic v, { s with h := h', d })
  | none => none
def retC : CC → Option (CRes × Heap) → Option (Ax × St)
  | .op q ops i l o s, r => calL c q ops i l o s r
  | .rng a s d, r => rngL a s d r

def bodF (a : Nat) (s : St) (j : Option Code) : Option (CRes × Heap) :=
          match s.h.bs[a]? with
          | some (.loop t' ps' assign' body' _ _ db') =>
            some (.ret (.bool j.isNone), { s.h with bs := s.h.bs.set a (.loop t' ps' assign' body' (if j.isNone then .ready else .done) j db') })
          | _ => none
def bodL (a : Nat) : Option (Ax × St) → Option (CRes × Heap)
        | some (.normal, s) => bodF a s none
        | some (.ret, s) => bodF a s (some .ret)
        | some (.exit id, s) => bodF a s (some (.exit id))
        | _ => none
def asgL (a : Nat) (bo : Code) : Option (Ax × St) → Option (CRes × Heap)
    | some (.normal, s) => match s.h.bs[a]? with
      | some (.loop t' ps' assign' body' .ready none db') =>
        bodL a (Ei c bo { s with h := { s.h with bs := s.h.bs.set a (.loop t' ps' assign' body' .busy none db') } })
      | _ => none
    | _ => none

def stepF : Fr → Option (Ax × St) → Option (Ax × St)
  | .seq b, r => seqC c b r
  | .block id, r => blockC id r
  | .loop b, r => loopC c b r
  | .call rs k, r => retC c k (finS c rs r)
  | .asg a bo k, r => retC c k (asgL c a bo r)
  | .bod a k, r => retC c k (bodL a r)
def thr : List Fr → Option (Ax × St) → Option (Ax × St)
  | [], r => r
  | F :: K, r => thr K (stepF c F r)
def sat (Q : Ax → St → Prop) : Option (Ax × St) → Prop
  | some (ax, s) => Q ax s
  | none => False

theorem thr_none : ∀ K, thr c K none = none
  | [] => rfl
  | F :: K => by unfold thr; cases F <;> simp [stepF, seqC, blockC, loopC, finS, asgL, bodL, retC] <;> (try exact thr_none K) <;> (rename_i k; cases k <;> simp [retC, calL, rngL, thr_none K])
theorem retC_none (k : CC) : retC c k none = none := by cases k <;> rfl
def wp (a : Code) (s : St) (K : List Fr) (Q : Ax → St → Prop) : Prop := sat Q (thr c K (Ei c a s))
def dn (ax : Ax) (s : St) (K : List Fr) (Q : Ax → St → Prop) : Prop := sat Q (thr c K (some (ax, s)))
def wo (q : Bool) (ops : Array Oper) (i : Nat) (l : List Oper) (s : St) (K : List Fr) (Q : Ax → St → Prop) : Prop := sat Q (thr c K (execL c q ops i l s))
def wr (q : Bool) (ops : Array Oper) (i : Nat) (l : List Oper) (o : Oper) (s : St) (K : List Fr) (Q : Ax → St → Prop) (r : Option OR) : Prop := sat Q (thr c K (resL c q ops i l o s r))
def ww (q : Bool) (ops : Array Oper) (i : Nat) (l : List Oper) (o : Oper) (s : St) (K : List Fr) (Q : Ax → St → Prop) (w : Option Bool) : Prop := match w with
  | none => False
  | some false => wo c q ops (i + 1) l { s with t := putT s.t o.dst (.tuple []) } K Q
  | some true => wr c q ops i l o s K Q (opR c s.h (evT c s.t) o)
def wk (k : CC) (K : List Fr) (Q : Ax → St → Prop) (r : Option (CRes × Heap)) : Prop := sat Q (thr c K (retC c k r))
def wpc (q : V) (a b : Code) (s : St) (K : List Fr) (Q : Ax → St → Prop) : Prop := match q with
  | .bool true => wp c a s K Q
  | .bool false => wp c b s K Q
  | _ => False

variable {K : List Fr} {Q : Ax → St → Prop} {s : St} {a b : Code}
@[congr] theorem wp_congr {s' : St} (h : s = s') : wp c a s K Q = wp c a s' K Q := by rw [h]
@[congr] theorem dn_congr {ax ax' : Ax} {s' : St} (h1 : ax = ax') (h : s = s') : dn c ax s K Q = dn c ax' s' K Q := by rw [h1, h]
@[congr] theorem wpc_congr {q q' : V} {s' : St} (h1 : q = q') (h : s = s') : wpc c q a b s K Q = wpc c q' a b s' K Q := by rw [h1, h]
@[congr] theorem wo_congr {q : Bool} {ops : Array Oper} {i : Nat} {l : List Oper} {s' : St} (h : s = s') : wo c q ops i l s K Q = wo c q ops i l s' K Q := by rw [h]
@[congr] theorem wr_congr {q : Bool} {ops : Array Oper} {i : Nat} {l : List Oper} {o : Oper} {r r' : Option OR} (h1 : r = r') : wr c q ops i l o s K Q r = wr c q ops i l o s K Q r' := by rw [h1]
@[congr] theorem ww_congr {q : Bool} {ops : Array Oper} {i : Nat} {l : List Oper} {o : Oper} {w w' : Option Bool} (h1 : w = w') : ww c q ops i l o s K Q w = ww c q ops i l o s K Q w' := by rw [h1]
@[congr] theorem wk_congr {k : CC} {r r' : Option (CRes × Heap)} (h : r = r') : wk c k K Q r = wk c k K Q r' := by rw [h]

@[simp] theorem wp_skip : wp c .skip s K Q = dn c .normal s K Q := by unfold wp; rw [Ei_skip]; rfl
@[simp] theorem wp_label (l : Nat) : wp c (.label l) s K Q = dn c .normal s K Q := by unfold wp; rw [Ei_label]; rfl
@[simp] theorem wp_ret : wp c .ret s K Q = dn c .ret s K Q := by unfold wp; rw [Ei_ret]; rfl
@[simp] theorem wp_exit (id : Nat) : wp c (.exit id) s K Q = dn c (.exit id) s K Q := by unfold wp; rw [Ei_exit]; rfl
@[simp] theorem wp_seq : wp c (.seq a b) s K Q = wp c a s (.seq b :: K) Q := by unfold wp; rw [Ei_seq]; rfl
@[simp] theorem wp_block (id : Nat) : wp c (.block id b) s K Q = wp c b s (.block id :: K) Q := by unfold wp; rw [Ei_block]; rfl
@[simp] theorem wp_cond (q : Operand) : wp c (.cond q a b) s K Q = wpc c (evT c s.t q) a b s K Q := by
  unfold wp
  rw [Ei_cond]
  generalize evT c s.t q = x
  unfold wpc condC
  cases x with
  | bool t => cases t <;> rfl
  | _ => simp only [thr_none]; rfl
@[simp] theorem wp_region0 (id : Nat) (ops : Array Oper) : wp c (.region id ops false) s K Q = wo c false ops 0 ops.toList s K Q := by
  unfold wp wo; rw [Ei_region0, execOps_list]
theorem wp_region1 {id : Nat} {ops : Array Oper} (h : drawOk c ops = true) : wp c (.region id ops true) s K Q = wo c true ops 0 ops.toList s K Q := by
  unfold wp wo; rw [Ei_region1 c h, execOps_list]
theorem wp_drawT {id : Nat} {ops : Array Oper} (h : drawOkT c ops s.t = true) (k : wo c true ops 0 ops.toList s K Q) : wp c (.region id ops true) s K Q := by
  unfold wo at k; unfold wp
  rw [Ei_region1T c h, execOps_list]; exact k
/-- what is owed at a region whose order is open -/
def Drw (ops : Array Oper) (X : Prop) : Prop := drawOk c ops = true ∧ X
theorem wp_draw {id : Nat} {ops : Array Oper} (h : drawOk c ops = true) (k : wo c true ops 0 ops.toList s K Q) : wp c (.region id ops true) s K Q := by
  rw [wp_region1 c h]; exact k
theorem wp_loop_eq : wp c (.loop b) s K Q = wp c b (killS c b s) (.loop b :: K) Q := by
  unfold wp; rw [Ei_loop]; rfl

@[simp] theorem dn_nil (ax : Ax) : dn c ax s [] Q = Q ax s := rfl
@[simp] theorem dn_seq_normal : dn c .normal s (.seq b :: K) Q = wp c b s K Q := rfl
@[simp] theorem dn_seq_exit (i : Nat) : dn c (.exit i) s (.seq b :: K) Q = dn c (.exit i) s K Q := rfl
@[simp] theorem dn_seq_ret : dn c .ret s (.seq b :: K) Q = dn c .ret s K Q := rfl
@[simp] theorem dn_seq_panic (v : V) : dn c (.panic v) s (.seq b :: K) Q = dn c (.panic v) s K Q := rfl
@[simp] theorem dn_block_normal (id : Nat) : dn c .normal s (.block id :: K) Q = dn c .normal s K Q := rfl
@[simp] theorem dn_block_exit (id i : Nat) : dn c (.exit i) s (.block id :: K) Q = if i = id then dn c .normal s K Q else dn c (.exit i) s K Q := by
  unfold dn; simp only [thr, stepF, blockC]; split <;> rfl
@[simp] theorem dn_block_ret (id : Nat) : dn c .ret s (.block id :: K) Q = dn c .ret s K Q := rfl
@[simp] theorem dn_block_panic (id : Nat) (v : V) : dn c (.panic v) s (.block id :: K) Q = dn c (.panic v) s K Q := rfl
@[simp] theorem dn_loop_normal : dn c .normal s (.loop b :: K) Q = wp c (.loop b) s K Q := rfl
theorem dn_loop_exit (hk : c.kill = false) (i : Nat) : dn c (.exit i) s (.loop b :: K) Q = dn c (.exit i) s K Q := by unfold dn; simp [thr, stepF, loopC, killS, hk]
theorem dn_loop_ret (hk : c.kill = false) : dn c .ret s (.loop b :: K) Q = dn c .ret s K Q := by unfold dn; simp [thr, stepF, loopC, killS, hk]
theorem dn_loop_panic (hk : c.kill = false) (v : V) : dn c (.panic v) s (.loop b :: K) Q = dn c (.panic v) s K Q := by unfold dn; simp [thr, stepF, loopC, killS, hk]
@[simp] theorem dn_call_normal (rs : List ResultVar) (k : CC) : dn c .normal s (.call rs k :: K) Q = wk c k K Q (finM c rs s .ret) := rfl
@[simp] theorem dn_call_ret (rs : List ResultVar) (k : CC) : dn c .ret s (.call rs k :: K) Q = wk c k K Q (finM c rs s .ret) := rfl
@[simp] theorem dn_call_panic (rs : List ResultVar) (k : CC) (v : V) : dn c (.panic v) s (.call rs k :: K) Q = wk c k K Q (finM c rs s (.pan v)) := rfl
@[simp] theorem dn_bod_normal (a : Nat) (k : CC) : dn c .normal s (.bod a k :: K) Q = wk c k K Q (bodF a s none) := rfl
@[simp] theorem dn_bod_ret (a : Nat) (k : CC) : dn c .ret s (.bod a k :: K) Q = wk c k K Q (bodF a s (some .ret)) := rfl
@[simp] theorem dn_bod_exit (a : Nat) (k : CC) (id : Nat) : dn c (.exit id) s (.bod a k :: K) Q = wk c k K Q (bodF a s (some (.exit id))) := rfl
/-- the round's block is looked at again, ahead of the body -/
def asgW (a : Nat) (bo : Code) (k : CC) (s : St) (K : List Fr) (Q : Ax → St → Prop) : Option Blk → Prop
  | some (.loop t' ps' assign' body' .ready none db') => wp c bo { s with h := { s.h with bs := s.h.bs.set a (.loop t' ps' assign' body' .busy none db') } } (.bod a k :: K) Q
  | _ => False
@[simp] theorem dn_asg_normal (a : Nat) (bo : Code) (k : CC) : dn c .normal s (.asg a bo k :: K) Q = asgW c a bo k s K Q s.h.bs[a]? := by
  unfold dn asgW wp
  simp only [thr, stepF, asgL]
  cases s.h.bs[a]? with
  | none => simp only [retC_none, thr_none]; rfl
  | some y => cases y with
    | loop t' ps' as' bo' st' pe' db' => cases st' with
      | ready => cases pe' with
        | none => rfl
        | some x => simp only [retC_none, thr_none]; rfl
      | _ => simp only [retC_none, thr_none]; rfl
    | _ => simp only [retC_none, thr_none]; rfl
@[simp] theorem asgW_ready (a : Nat) (bo : Code) (k : CC) (t : List V) (ps : List Nat) (as bo' : Code) (db : Nat) : asgW c a bo k s K Q (some (.loop t ps as bo' .ready none db)) = wp c bo { s with h := { s.h with bs := s.h.bs.set a (.loop t ps as bo' .busy none db) } } (.bod a k :: K) Q := rfl

@[simp] theorem wpc_true : wpc c (.bool true) a b s K Q = wp c a s K Q := rfl
@[simp] theorem wpc_false : wpc c (.bool false) a b s K Q = wp c b s K Q := rfl
theorem wpc_split {x : Bool} (h1 : x = true → wp c a s K Q) (h2 : x = false → wp c b s K Q) : wpc c (.bool x) a b s K Q := by
  cases x
  · exact h2 rfl
  · exact h1 rfl
theorem wpc_t {x : Bool} (h : x = true) : wpc c (.bool x) a b s K Q = wp c a s K Q := by rw [h]; rfl
theorem wpc_f {x : Bool} (h : x = false) : wpc c (.bool x) a b s K Q = wp c b s K Q := by rw [h]; rfl

section
variable {q : Bool} {ops : Array Oper} {i : Nat} {l : List Oper} {o : Oper}
@[simp] theorem wo_nil : wo c q ops i [] s K Q = dn c .normal s K Q := rfl
@[simp] theorem wo_cons : wo c q ops i (o :: l) s K Q = ww c q ops i l o s K Q (wantedV ops o s.t) := by
  unfold wo ww
  rw [execL]
  cases wantedV ops o s.t with
  | none => simp only [thr_none]; rfl
  | some t => cases t <;> rfl
@[simp] theorem ww_true : ww c q ops i l o s K Q (some true) = wr c q ops i l o s K Q (opR c s.h (evT c s.t) o) := rfl
@[simp] theorem ww_false : ww c q ops i l o s K Q (some false) = wo c q ops (i + 1) l { s with t := putT s.t o.dst (.tuple []) } K Q := rfl
theorem ww_split {x : Bool} (h1 : x = true → wr c q ops i l o s K Q (opR c s.h (evT c s.t) o)) (h2 : x = false → wo c q ops (i + 1) l { s with t := putT s.t o.dst (.tuple []) } K Q) : ww c q ops i l o s K Q (some x) := by
  cases x
  · exact h2 rfl
  · exact h1 rfl
theorem ww_t {x : Bool} (h : x = true) : ww c q ops i l o s K Q (some x) = wr c q ops i l o s K Q (opR c s.h (evT c s.t) o) := by rw [h]; rfl
theorem ww_f {x : Bool} (h : x = false) : ww c q ops i l o s K Q (some x) = wo c q ops (i + 1) l { s with t := putT s.t o.dst (.tuple []) } K Q := by rw [h]; rfl
@[simp] theorem wr_val (v : V) (h : Heap) : wr c q ops i l o s K Q (some (.val v h)) = wo c q ops (i + 1) l { s with t := putT s.t o.dst v, h } K Q := rfl
@[simp] theorem wr_skip (h : Heap) : wr c q ops i l o s K Q (some (.skip h)) = wo c q ops (i + 1) l { s with t := putT s.t o.dst (.tuple []), h } K Q := rfl
@[simp] theorem wr_dfr (d : Def) (h : s.ro = none) : wr c q ops i l o s K Q (some (.dfr d)) = wo c q ops (i + 1) l { s with t := putT s.t o.dst (.tuple []), d := d :: s.d } K Q := by
  unfold wr resL; simp [h]; rfl
@[simp] theorem wr_pan0 (v : V) : wr c false ops i l o s K Q (some (.pan v)) = dn c (.panic v) s K Q := rfl
theorem wr_pan1 (v : V) (h : pivot ops i = true) : wr c true ops i l o s K Q (some (.pan v)) = dn c (.panic v) s K Q := by
  unfold wr resL; simp [h]; rfl
theorem wr_rec_pan {v : V} (h : s.ro = none) (hp : s.p = .pan v) : wr c q ops i l o s K Q (some .recover) = wo c q ops (i + 1) l { s with t := putT s.t o.dst v, p := .got v } K Q := by
  unfold wr resL; simp [h, hp]; rfl
theorem wr_rec_no (h : s.ro = none) (hp : s.p = .no) : wr c q ops i l o s K Q (some .recover) = wo c q ops (i + 1) l { s with t := putT s.t o.dst .niliface } K Q := by
  unfold wr resL; simp [h, hp]; rfl
def wrec (q : Bool) (ops : Array Oper) (i : Nat) (l : List Oper) (o : Oper) (s : St) (K : List Fr) (Q : Ax → St → Prop) : Option Nat → Pan → Prop
  | none, .pan v => wo c q ops (i + 1) l { s with t := putT s.t o.dst v, p := .got v } K Q
  | none, _ => wo c q ops (i + 1) l { s with t := putT s.t o.dst .niliface } K Q
  | some _, _ => False
@[simp] theorem wrec_pan (v : V) : wrec c q ops i l o s K Q none (.pan v) = wo c q ops (i + 1) l { s with t := putT s.t o.dst v, p := .got v } K Q := rfl
@[simp] theorem wrec_no : wrec c q ops i l o s K Q none .no = wo c q ops (i + 1) l { s with t := putT s.t o.dst .niliface } K Q := rfl
@[simp] theorem wr_rec : wr c q ops i l o s K Q (some .recover) = wrec c q ops i l o s K Q s.ro s.p := by
  unfold wr resL wrec wo
  cases s.ro with
  | some x => simp [thr_none, sat]
  | none => cases s.p <;> simp
@[simp] theorem wr_call0 (f : V) (args : List V) : wr c false ops i l o s K Q (some (.call f args)) = wk c (.op false ops i l o s) K Q (Ci c f args s.h) := by
  unfold wr wk resL retC calL; simp
theorem wr_call1 {f : V} {args : List V} (h : V.closed.closedL args = true) : wr c true ops i l o s K Q (some (.call f args)) = wk c (.op true ops i l o s) K Q (Ci c f args s.h) := by
  unfold wr wk resL retC calL; simp [h]
theorem wr_call2 {f : V} {args : List V} (h : (clsOf c o == 0) = false) : wr c true ops i l o s K Q (some (.call f args)) = wk c (.op true ops i l o s) K Q (Ci c f args s.h) := by
  unfold wr wk resL retC calL; simp [h]
def wcq (ops : Array Oper) (i : Nat) (l : List Oper) (o : Oper) (s : St) (K : List Fr) (Q : Ax → St → Prop) (f : V) (args : List V) : Bool → Prop
  | true => wk c (.op true ops i l o s) K Q (Ci c f args s.h)
  | false => False
@[simp] theorem wcq_true (f : V) (args : List V) : wcq c ops i l o s K Q f args true = wk c (.op true ops i l o s) K Q (Ci c f args s.h) := rfl
@[simp] theorem wr_callq (f : V) (args : List V) : wr c true ops i l o s K Q (some (.call f args)) = wcq c ops i l o s K Q f args (V.closed.closedL args || !(clsOf c o == 0)) := by
  cases h1 : V.closed.closedL args with
  | true => rw [wr_call1 c h1]; rfl
  | false => cases h2 : (clsOf c o == 0) with
    | false => rw [wr_call2 c h2]; rfl
    | true =>
      unfold wr resL
      simp only [h1, h2, wcq]
      simp [thr_none, sat]
@[simp] theorem wk_op_ret (v : V) (h : Heap) : wk c (.op q ops i l o s) K Q (some (.ret v, h)) = wo c q ops (i + 1) l { s with t := putT s.t o.dst v, h } K Q := rfl
@[simp] theorem wk_op_pan0 (v : V) (h : Heap) : wk c (.op false ops i l o s) K Q (some (.panic v, h)) = dn c (.panic v) { s with h } K Q := rfl
theorem wk_op_pan1 (v : V) (h : Heap) (hp : pivot ops i = true) : wk c (.op true ops i l o s) K Q (some (.panic v, h)) = dn c (.panic v) { s with h } K Q := by
  unfold wk retC calL; simp [hp]; rfl
@[simp] theorem wr_if {p : Prop} [Decidable p] {r : OR} : wr c q ops i l o s K Q (if p then some r else none) = Owe p (wr c q ops i l o s K Q (some r)) := by
  unfold Owe
  by_cases h : p
  · simp [h]
  · simp only [h, if_false, false_and, eq_iff_iff, iff_false]
    unfold wr
    simp only [resL, thr_none]
    intro h; exact h
end

/-! ### Calls that share the heap -/
def wbody (fn : Option Func) (xs : List V) (h : Heap) (k : CC) (K : List Fr) (Q : Ax → St → Prop) : Prop := match fn with
  | some fn => xs.length ≤ fn.ntmps ∧ wp c (codeOf fn) ⟨tab fn.ntmps (lf xs), h, [], .no, none⟩ (.call fn.results.toList k :: K) Q
  | none => False
theorem wk_fun {f : FuncId} {fn : Func} {code : Code} {first cap args : List V} {h : Heap} {k : CC} (hp : c.pure f = false) (hf : c.P.funcs[f]? = some fn) (hb : fn.body = some code) (hl : (first ++ args ++ cap).length ≤ fn.ntmps) :
    wk c k K Q (Ci c (.func (.func f) first cap) args h) = wp c code ⟨tab fn.ntmps (lf (first ++ args ++ cap)), h, [], .no, none⟩ (.call fn.results.toList k :: K) Q := by
  unfold wk wp
  rw [Ci_fun hp, bodyS_fin c hf hb, initT_tab hl]
  rfl
theorem wk_yld {a : Nat} {args : List V} {h : Heap} {k : CC} {t : List V} {ps : List Nat} {as bo : Code} {db : Nat} (hb : h.bs[a]? = some (.loop t ps as bo .ready none db)) (hl : args.length = ps.length) :
    wk c k K Q (Ci c (.yld a) args h) = wp c as ⟨(ps.zip args).foldl (fun t (x : Nat × V) => t.set x.1 x.2) t, h, [], .no, some a⟩ (.asg a bo k :: K) Q := by
  unfold wk wp
  rw [Ci_eq]
  simp only [callS, roundS, hb]
  rw [if_neg (by simp [hl])]
  simp only [thr, stepF]
  congr 3
/-- a round, by what lies in its block -/
def wyld (a : Nat) (args : List V) (h : Heap) (k : CC) (K : List Fr) (Q : Ax → St → Prop) : Option Blk → Prop
  | some (.loop t ps as bo .ready none _) => args.length = ps.length ∧ wp c as ⟨(ps.zip args).foldl (fun t (x : Nat × V) => t.set x.1 x.2) t, h, [], .no, some a⟩ (.asg a bo k :: K) Q
  | _ => False
@[simp] theorem wyld_ready (a : Nat) (args : List V) (h : Heap) (k : CC) (t : List V) (ps : List Nat) (as bo : Code) (db : Nat) : wyld c a args h k K Q (some (.loop t ps as bo .ready none db)) =
    (args.length = ps.length ∧ wp c as ⟨(ps.zip args).foldl (fun t (x : Nat × V) => t.set x.1 x.2) t, h, [], .no, some a⟩ (.asg a bo k :: K) Q) := rfl
theorem wk_yldW {a : Nat} {args : List V} {h : Heap} {k : CC} : wyld c a args h k K Q h.bs[a]? → wk c k K Q (Ci c (.yld a) args h) := by
  intro hw
  unfold wyld at hw
  split at hw
  · rename_i hb
    rw [wk_yld c hb hw.1]; exact hw.2
  · exact hw.elim
/-- behind a range over a function, by what lies in its block -/
def wrng (a : Nat) (s : St) (d : List Def) (h : Heap) (K : List Fr) (Q : Ax → St → Prop) : Option Blk → Prop
  | some (.loop t p as bo st pend db') =>
      if st = .busy then False else
      let s' : St := { s with h := { h with bs := h.bs.set a (.loop t p as bo .exhausted pend db') }, d }
      match pend with
      | none => dn c .normal s' K Q
      | some .ret => dn c .ret s' K Q
      | some (.exit id) => dn c (.exit id) s' K Q
      | _ => False
  | _ => False
@[simp] theorem wrng_none (a : Nat) (d : List Def) (h : Heap) (t : List V) (p : List Nat) (as bo : Code) (st : LoopState) (db' : Nat) :
    wrng c a s d h K Q (some (.loop t p as bo st none db')) = if st = .busy then False else dn c .normal { s with h := { h with bs := h.bs.set a (.loop t p as bo .exhausted none db') }, d } K Q := rfl
@[simp] theorem wrng_ret (a : Nat) (d : List Def) (h : Heap) (t : List V) (p : List Nat) (as bo : Code) (st : LoopState) (db' : Nat) :
    wrng c a s d h K Q (some (.loop t p as bo st (some .ret) db')) = if st = .busy then False else dn c .ret { s with h := { h with bs := h.bs.set a (.loop t p as bo .exhausted (some .ret) db') }, d } K Q := rfl
@[simp] theorem wrng_exit (a : Nat) (d : List Def) (h : Heap) (t : List V) (p : List Nat) (as bo : Code) (st : LoopState) (db' : Nat) (id : Nat) :
    wrng c a s d h K Q (some (.loop t p as bo st (some (.exit id)) db')) = if st = .busy then False else dn c (.exit id) { s with h := { h with bs := h.bs.set a (.loop t p as bo .exhausted (some (.exit id)) db') }, d } K Q := rfl
@[simp] theorem wk_rng_ret (a : Nat) (d : List Def) (v : V) (h : Heap) : wk c (.rng a s d) K Q (some (.ret v, h)) = wrng c a s d h K Q h.bs[a]? := by
  unfold wk wrng dn
  simp only [retC, rngL]
  cases h.bs[a]? with
  | none => simp only [thr_none]; rfl
  | some x => cases x with
    | loop t p as bo st pend db' =>
      simp only
      by_cases hs : st = .busy
      · simp only [hs, if_true, thr_none]; rfl
      · simp only [hs, if_false]
        cases pend with
        | none => rfl
        | some y => cases y <;> first | rfl | (simp only [thr_none]; rfl)
    | _ => simp only [thr_none]; rfl
theorem wp_rangeFunc0 {f : Operand} {ps : Array Tmp} {as bo : Code} (hf : fnLike (evT c s.t f) = true) (hr : s.ro = none) :
    wp c (.rangeFunc f ps as bo) s K Q = wk c (.rng (s.h.bs.length + 1) s (.mark s.h.bs.length :: s.d)) K Q
      (Ci c (evT c s.t f) [.yld (s.h.bs.length + 1)] (newB (newB s.h (.dfr true)) (.loop s.t ps.toList as bo .ready none s.h.bs.length))) := by
  obtain ⟨t, h, d, p, ro⟩ := s
  simp only at hr
  subst hr
  unfold wp wk
  rw [Ei_eq]
  simp only [execS, hf, rangeGo, retC]
  have : (newB h (.dfr true)).bs.length = h.bs.length + 1 := by simp [newB]
  rw [this]
  simp only [Bool.not_true, Bool.false_eq_true, if_false, rngL]
  rfl
/-- a range over a function -/
def wrf (f : Operand) (ps : Array Tmp) (as bo : Code) (s : St) (K : List Fr) (Q : Ax → St → Prop) : Bool → Option Nat → Prop
  | true, none => wk c (.rng (s.h.bs.length + 1) s (.mark s.h.bs.length :: s.d)) K Q
      (Ci c (evT c s.t f) [.yld (s.h.bs.length + 1)] (newB (newB s.h (.dfr true)) (.loop s.t ps.toList as bo .ready none s.h.bs.length)))
  | true, some l => match s.h.bs[l]? with
    | some (.loop _ _ _ _ _ _ db) => wk c (.rng s.h.bs.length s s.d) K Q (Ci c (evT c s.t f) [.yld s.h.bs.length] (newB s.h (.loop s.t ps.toList as bo .ready none db)))
    | _ => False
  | false, _ => False
@[simp] theorem wrf_none {f : Operand} {ps : Array Tmp} {as bo : Code} : wrf c f ps as bo s K Q true none = wk c (.rng (s.h.bs.length + 1) s (.mark s.h.bs.length :: s.d)) K Q
      (Ci c (evT c s.t f) [.yld (s.h.bs.length + 1)] (newB (newB s.h (.dfr true)) (.loop s.t ps.toList as bo .ready none s.h.bs.length))) := rfl
@[simp] theorem wrf_some {f : Operand} {ps : Array Tmp} {as bo : Code} {l : Nat} : wrf c f ps as bo s K Q true (some l) = match s.h.bs[l]? with
    | some (.loop _ _ _ _ _ _ db) => wk c (.rng s.h.bs.length s s.d) K Q (Ci c (evT c s.t f) [.yld s.h.bs.length] (newB s.h (.loop s.t ps.toList as bo .ready none db)))
    | _ => False := rfl
@[simp] theorem wp_rangeFunc {f : Operand} {ps : Array Tmp} {as bo : Code} : wp c (.rangeFunc f ps as bo) s K Q = wrf c f ps as bo s K Q (fnLike (evT c s.t f)) s.ro := by
  cases hf : fnLike (evT c s.t f) with
  | false =>
    unfold wp wrf
    rw [Ei_eq]
    simp only [execS, hf, Bool.not_false, if_true, thr_none]
    rfl
  | true =>
    cases hr : s.ro with
    | none => rw [wp_rangeFunc0 c hf hr]; rfl
    | some l =>
      obtain ⟨t, h, d, p, ro⟩ := s
      simp only at hr
      subst hr
      unfold wp wrf wk
      rw [Ei_eq]
      simp only [execS, hf, rangeGo, retC, Bool.not_true, Bool.false_eq_true, if_false]
      cases h.bs[l]? with
      | none => simp only [thr_none]; rfl
      | some x => cases x <;> first | (simp only [thr_none]; rfl) | (simp only [rngL]; rfl)
theorem wk_rng_ret_none (a : Nat) (d : List Def) (v : V) (h : Heap) {t : List V} {ps : List Nat} {as bo : Code} {db : Nat} {st : LoopState} (hb : h.bs[a]? = some (.loop t ps as bo st none db)) (hs : st ≠ .busy) :
    wk c (.rng a s d) K Q (some (.ret v, h)) = dn c .normal { s with h := { h with bs := h.bs.set a (.loop t ps as bo .exhausted none db) }, d } K Q := by
  unfold wk dn retC rngL; simp [hb, hs]
theorem wk_rng_ret_ret (a : Nat) (d : List Def) (v : V) (h : Heap) {t : List V} {ps : List Nat} {as bo : Code} {db : Nat} {st : LoopState} (hb : h.bs[a]? = some (.loop t ps as bo st (some .ret) db)) (hs : st ≠ .busy) :
    wk c (.rng a s d) K Q (some (.ret v, h)) = dn c .ret { s with h := { h with bs := h.bs.set a (.loop t ps as bo .exhausted (some .ret) db) }, d } K Q := by
  unfold wk dn retC rngL; simp [hb, hs]
theorem wk_rng_ret_exit (a : Nat) (d : List Def) (v : V) (h : Heap) (id : Nat) {t : List V} {ps : List Nat} {as bo : Code} {db : Nat} {st : LoopState} (hb : h.bs[a]? = some (.loop t ps as bo st (some (.exit id)) db)) (hs : st ≠ .busy) :
    wk c (.rng a s d) K Q (some (.ret v, h)) = dn c (.exit id) { s with h := { h with bs := h.bs.set a (.loop t ps as bo .exhausted (some (.exit id)) db) }, d } K Q := by
  unfold wk dn retC rngL; simp [hb, hs]
@[simp] theorem wk_rng_pan (a : Nat) (d : List Def) (v : V) (h : Heap) : wk c (.rng a s d) K Q (some (.panic v, h)) = dn c (.panic v) { s with h, d } K Q := rfl

/-! ### Loops -/
theorem wp_loop {n : Nat} {d : List Def} {p : Pan} {ro : Option Nat} (hk : c.kill = false) (I : Nat → (Nat → V) → Heap → Prop)
    (step : ∀ m f h, I m f h → (∀ m' f' h', m' < m → I m' f' h' → wp c (.loop b) ⟨tab n f', h', d, p, ro⟩ K Q) → wp c b ⟨tab n f, h, d, p, ro⟩ (.loop b :: K) Q)
    (m : Nat) (f : Nat → V) (h : Heap) (h0 : I m f h) : wp c (.loop b) ⟨tab n f, h, d, p, ro⟩ K Q := by
  induction m using Nat.strongRecOn generalizing f h with
  | _ m ih =>
    rw [wp_loop_eq]
    have : killS c b ⟨tab n f, h, d, p, ro⟩ = ⟨tab n f, h, d, p, ro⟩ := by simp [killS, hk]
    rw [this]
    exact step m f h h0 fun m' f' h' hm hi => ih m' hm f' h' hi
/-- A loop, its invariant told of what held when it began. -/
theorem wp_loopE {n : Nat} {d : List Def} {p : Pan} {ro : Option Nat} (hk : c.kill = false) (I : (Nat → V) → Heap → Nat → (Nat → V) → Heap → Prop) (m : Nat) (f0 : Nat → V) (h0 : Heap) (hI : I f0 h0 m f0 h0)
    (step : ∀ m f h, I f0 h0 m f h → (∀ m' f' h', m' < m → I f0 h0 m' f' h' → wp c (.loop b) ⟨tab n f', h', d, p, ro⟩ K Q) → wp c b ⟨tab n f, h, d, p, ro⟩ (.loop b :: K) Q) :
    wp c (.loop b) ⟨tab n f0, h0, d, p, ro⟩ K Q := wp_loop c hk (I f0 h0) step m f0 h0 hI
/-- A deferred call. -/
theorem Di_of_wp {f : FuncId} {fn : Func} {code : Code} {first cap args : List V} {h h' : Heap} {p p' : Pan} (hf : c.P.funcs[f]? = some fn) (hb : fn.body = some code) (hl : (first ++ args ++ cap).length ≤ fn.ntmps)
    (hw : wp c code ⟨tab fn.ntmps (lf (first ++ args ++ cap)), h, [], p, none⟩ [] (fun ax s => (ax = .normal ∨ ax = .ret) ∧ s.d = [] ∧ (readRes c.P s.h s.t fn.results.toList).isSome = true ∧ s.h = h' ∧ s.p = p')) :
    Di c (.func (.func f) first cap) args h p = some (h', p') := by
  rw [Di_eq]
  unfold dbodyS
  simp only [hf, hb]
  rw [initT_tab hl]
  unfold wp at hw
  cases hx : Ei c code ⟨tab fn.ntmps (lf (first ++ args ++ cap)), h, [], p, none⟩ with
  | none => rw [hx] at hw; exact hw.elim
  | some y =>
    obtain ⟨ax, s⟩ := y
    rw [hx] at hw
    obtain ⟨h1, h2, h3, h4, h5⟩ := hw
    cases hr : readRes c.P s.h s.t fn.results.toList with
    | none => rw [hr] at h3; cases h3
    | some r =>
      subst h4; subst h5
      rcases h1 with rfl | rfl <;> simp [h2, hr]
/-- A cut: what holds behind a piece of code. -/
theorem wp_cut (Q' : Ax → St → Prop) (h1 : wp c a s [] Q') (h2 : ∀ ax s', Q' ax s' → dn c ax s' K Q) : wp c a s K Q := by
  unfold wp dn at *
  cases h : Ei c a s with
  | none => rw [h] at h1; simp [thr, sat] at h1
  | some x => obtain ⟨ax, s'⟩ := x; rw [h] at h1; exact h2 ax s' h1

/-! ### Whole calls -/
def Qout (rs : List ResultVar) (r : CRes) (ax : Ax) (s : St) : Prop := outS (finS c rs (some (ax, s))) = some r
@[simp] theorem Qout_normal (rs : List ResultVar) (r : CRes) : Qout c rs r .normal s = (outS (finM c rs s .ret) = some r) := rfl
@[simp] theorem Qout_ret (rs : List ResultVar) (r : CRes) : Qout c rs r .ret s = (outS (finM c rs s .ret) = some r) := rfl
@[simp] theorem Qout_panic (rs : List ResultVar) (r : CRes) (v : V) : Qout c rs r (.panic v) s = (outS (finM c rs s (.pan v)) = some r) := rfl
theorem outS_of_wp {f : FuncId} {fn : Func} {code : Code} {xs : List V} {r : CRes} (hf : c.P.funcs[f]? = some fn) (hb : fn.body = some code) (hl : xs.length ≤ fn.ntmps)
    (h : wp c code ⟨tab fn.ntmps (lf xs), emptyH, [], .no, none⟩ [] (Qout c fn.results.toList r)) : outS (bodyS c (Ei c) (Di c) f xs emptyH) = some r := by
  rw [bodyS_fin c hf hb, initT_tab hl]
  unfold wp at h
  simp only [thr] at h
  cases hx : Ei c code ⟨tab fn.ntmps (lf xs), emptyH, [], .no, none⟩ with
  | none => rw [hx] at h; cases h
  | some y => obtain ⟨ax, s⟩ := y; rw [hx] at h; exact h
/-- What is proved of a function that is called with data alone. -/
def Kc (f : FuncId) (xs : List V) (r : CRes) : Prop := outS (bodyS c (Ei c) (Di c) f xs emptyH) = some r
theorem Ci_K {f : FuncId} {args xs : List V} {h : Heap} {r : CRes} (hp : c.pure f = true) (he : c.ext f xs = none) (hc : V.closed.closedL args = true) (hn : V.norm.normL args = xs) (hK : Kc c f xs r) :
    Ci c (.func (.func f) [] []) args h = some (r, h) := by
  rw [Ci_eq]
  unfold Kc at hK
  simp [callS, hp, handV, hc, hn, he, hK]
theorem Ci_K2 {f : FuncId} {args xs : List V} {h h' : Heap} {r : CRes} (hp : c.pure f = true) (he : c.ext f xs = none) (hn : handV h args = some (xs, h')) (hK : Kc c f xs r) :
    Ci c (.func (.func f) [] []) args h = some (r, h') := by
  rw [Ci_eq]
  unfold Kc at hK
  simp [callS, hp, hn, he, hK]
end
attribute [irreducible] wp wpc ww wr wk wo dn asgW Qout Owe wyld wrng wcq wbody wrec wrf
end Go.Ab
