/- Regions whose order is drawn: every order does what the text's own does. -/
import Derived.Test.YtdfpmhgfmmcopaaDoorAbsSim5
import Derived.Orders
set_option linter.unusedVariables false
set_option linter.unusedSimpArgs false
set_option linter.unusedSectionVars false
set_option linter.deprecated false
namespace Go.Ab

theorem map_part_congr {ev ev' : Operand → V} (l : List (Nat × Operand)) (h : ∀ x ∈ l.map (·.2), ev x = ev' x) : (l.map fun (i, x) => (i, ev x)) = l.map fun (i, x) => (i, ev' x) := by
  induction l with
  | nil => rfl
  | cons p l ih =>
    obtain ⟨i, x⟩ := p
    simp only [List.map_cons, List.cons.injEq, Prod.mk.injEq, true_and]
    exact ⟨h x (by simp), ih fun y hy => h y (by simp only [List.map_cons, List.mem_cons]; exact .inr hy)⟩
theorem map_congr' {ev ev' : Operand → V} (l : List Operand) (h : ∀ x ∈ l, ev x = ev' x) : l.map ev = l.map ev' := List.map_congr_left h

theorem opR_congr (c : Cfg) (h : Heap) {ev ev' : Operand → V} (o : Oper) (hv : ∀ x ∈ o.op.operands, ev x = ev' x) : opR c h ev o = opR c h ev' o := by
  obtain ⟨dst, op, type, pos, after, guard⟩ := o
  cases op <;> simp only [Op.operands] at hv <;> simp only [opR]
  case build t ps => rw [map_part_congr ps.toList fun x hx => hv x (by simpa using hx)]
  case buildSlice t n ps => rw [map_part_congr ps.toList fun x hx => hv x (by simpa using hx)]
  case makeFunc fn first captured =>
    rw [map_congr' first.toList fun x hx => hv x (by simp at hx; simp [hx]), map_congr' captured.toList fun x hx => hv x (by simp at hx; simp [hx])]
  case makeMap t r => cases r <;> simp_all
  case slice t x lo hi mx => cases lo <;> cases hi <;> cases mx <;> simp_all
  case defer cl =>
    cases hc : cl.callee <;> simp only
    rename_i f
    rw [hv f (by simp [Call.operands, hc]), map_congr' cl.args.toList fun x hx => hv x (by simp at hx; simp [Call.operands, hx])]
  case call cl =>
    have ha : cl.args.toList.map ev = cl.args.toList.map ev' := map_congr' cl.args.toList fun x hx => hv x (by simp at hx; simp [Call.operands, hx])
    cases hc : cl.callee with
    | value f => simp only; rw [hv f (by simp [Call.operands, hc]), ha]
    | invoke r m => rfl
    | builtin b =>
      have hget : ∀ i x, cl.args[i]? = some x → ev x = ev' x := fun i x hx => hv x (by have := Array.mem_of_getElem? hx; simp [Call.operands, this])
      cases b <;> simp only
      case len =>
        split
        · rename_i t x h1 h2; rw [hget _ _ h2]
        · rfl
      case append =>
        split
        · rename_i t x h1 h2; rw [hget _ _ h1, hget _ _ h2]
        · rfl
      case max =>
        cases hl : cl.args.toList with
        | nil => rfl
        | cons x r => rw [hl] at ha; simp only [List.map_cons, List.cons.injEq] at ha; simp only [ha.1, ha.2]
      case min =>
        cases hl : cl.args.toList with
        | nil => rfl
        | cons x r => rw [hl] at ha; simp only [List.map_cons, List.cons.injEq] at ha; simp only [ha.1, ha.2]
  all_goals (first | rfl | (simp_all; done))

/-- What one operation of a region does to all but the temporaries. -/
def eff (c : Cfg) (C : CallF) (q piv : Bool) (o : Oper) (want : Option Bool) (ev : Operand → V) (h : Heap) (d : List Def) (p : Pan) (ro : Option Nat) : Option ((V × Heap × List Def × Pan) ⊕ (V × Heap)) :=
  match want with
  | none => none
  | some false => some (.inl (.tuple [], h, d, p))
  | some true => match opR c h ev o with
    | none => none
    | some (.val v h) => some (.inl (v, h, d, p))
    | some (.skip h) => some (.inl (.tuple [], h, d, p))
    | some (.dfr x) => if ro.isSome then none else some (.inl (.tuple [], h, x :: d, p))
    | some (.pan v) => if q && !piv then none else some (.inr (v, h))
    | some .recover => if ro.isSome then none else match p with
      | .pan v => some (.inl (v, h, d, .got v))
      | _ => some (.inl (.niliface, h, d, p))
    | some (.call f args) =>
      if q && clsOf c o == 0 && !V.closed.closedL args then none else
      match C f args h with
      | some (.ret v, h) => some (.inl (v, h, d, p))
      | some (.panic v, h) => if q && !piv then none else some (.inr (v, h))
      | none => none

/-- The state behind an operation. -/
def aft (s : St) (dst : Option Tmp) (x : V × Heap × List Def × Pan) : St := { s with t := putT s.t dst x.1, h := x.2.1, d := x.2.2.1, p := x.2.2.2 }

theorem execOps_cons (c : Cfg) (C : CallF) (q : Bool) (ops : Array Oper) (i : Nat) (l : List Nat) (s : St) : execOps c C q ops (i :: l) s =
    match ops[i]? with
    | none => none
    | some o => match eff c C q (pivot ops i) o (wantedV ops o s.t) (evT c s.t) s.h s.d s.p s.ro with
      | some (.inl x) => execOps c C q ops l (aft s o.dst x)
      | some (.inr (v, h)) => some (.panic v, { s with h })
      | none => none := by
  rw [execOps]
  cases ho : ops[i]? with
  | none => rfl
  | some o =>
    simp only [eff]
    cases wantedV ops o s.t with
    | none => rfl
    | some b => cases b with
      | false => rfl
      | true =>
        simp only
        cases opR c s.h (evT c s.t) o with
        | none => rfl
        | some r => cases r with
          | val v h => rfl
          | skip h => rfl
          | dfr d => simp only; split <;> rfl
          | pan v => simp only; split <;> rfl
          | recover => simp only; split <;> (try rfl); cases s.p <;> rfl
          | call f args =>
            simp only
            split
            · rfl
            · cases C f args s.h with
              | none => rfl
              | some x => obtain ⟨r, h⟩ := x; cases r <;> simp only <;> (try split) <;> rfl

/-- What is asked of pure calls: they leave the heap alone and do not look at it. -/
def CQuiet (c : Cfg) (C : CallF) : Prop :=
  ∀ f args h r h', c.pure f = true → V.closed.closedL args = true → C (.func (.func f) [] []) args h = some (r, h') → h' = h ∧ ∀ h2, C (.func (.func f) [] []) args h2 = some (r, h2)

theorem eff_congr {c : Cfg} {C : CallF} {q piv : Bool} {o : Oper} {want : Option Bool} {ev ev' : Operand → V} {h : Heap} {d : List Def} {p : Pan} {ro : Option Nat} (hv : ∀ x ∈ o.op.operands, ev x = ev' x) :
    eff c C q piv o want ev h d p ro = eff c C q piv o want ev' h d p ro := by
  unfold eff
  rw [opR_congr c h o hv]

/-- operations that do not look at the heap -/
theorem opR_cls0 {c : Cfg} {h : Heap} {t : List V} {o : Oper} {r : OR} (hc : clsOf c o = 0) (he : opR c h (evT c t) o = some r) :
    (∃ v, r = .val v h ∧ ∀ h2, opR c h2 (evT c t) o = some (.val v h2)) ∨ ∃ f args, c.pure f = true ∧ r = .call (.func (.func f) [] []) args ∧ ∀ h2, opR c h2 (evT c t) o = some (.call (.func (.func f) [] []) args) := by
  have hmap : ∀ (x : Option V) (r : OR), x.map (OR.val · h) = some r → ∃ v, r = .val v h ∧ ∀ h2, x.map (OR.val · h2) = some (.val v h2) := by
    intro x r hx
    cases x with
    | none => cases hx
    | some v => simp only [Option.map_some, Option.some.injEq] at hx; exact ⟨v, hx.symm, fun _ => rfl⟩
  obtain ⟨dst, op, type, pos, after, guard⟩ := o
  cases op <;> simp only [clsOf] at hc <;> simp only [opR] at he ⊢
  case call cl =>
    cases hcl : cl.callee with
    | value f =>
      cases f with
      | func f =>
        simp only [hcl] at hc he
        split at hc
        · rename_i hp
          simp only [Option.some.injEq] at he
          exact .inr ⟨f, _, hp, he.symm, fun h2 => rfl⟩
        · cases hc
      | _ => simp [hcl] at hc
    | invoke r m => simp [hcl] at hc
    | builtin b =>
      simp only [hcl] at hc he ⊢
      cases b <;> simp only at hc he ⊢ <;> (try (cases hc; done))
      case max =>
        left
        cases hl : cl.args.toList with
        | nil => rw [hl] at he; cases he
        | cons x r => rw [hl] at he; exact hmap _ _ he
      case min =>
        left
        cases hl : cl.args.toList with
        | nil => rw [hl] at he; cases he
        | cons x r => rw [hl] at he; exact hmap _ _ he
  case convert src dst x =>
    left
    cases hd : c.P.underlying dst with
    | none => rw [hd] at hc; cases hc
    | some d =>
      rw [hd] at hc
      cases d <;> simp only at hc <;> first | (cases hc; done) | skip
      unfold convV at he ⊢
      rw [hd] at he ⊢
      cases hs : c.P.underlying src with
      | none => rw [hs] at he; simp at he
      | some sd =>
        rw [hs] at he
        cases hx : evT c t x <;> rw [hx] at he <;> simp at he
        subst he
        exact ⟨_, rfl, fun h2 => rfl⟩
  all_goals (try (cases hc; done))
  all_goals (try (left; exact hmap _ _ he))
  all_goals (left)
  all_goals (try (simp only [Option.some.injEq] at he; exact ⟨_, he.symm, fun _ => rfl⟩))
  all_goals (try (split at he <;> first | (cases he; done) | (simp only [Option.some.injEq] at he; exact ⟨_, he.symm, fun _ => rfl⟩)))
  case makeInterface ty x =>
    cases hu : c.P.underlying ty with
    | none => rw [hu] at he; cases he
    | some d =>
      rw [hu] at he
      cases d <;> simp only at he ⊢ <;> first | (cases he; done) | skip
      all_goals
        cases hx : evT c t x <;> rw [hx] at he <;> first | (cases he; done) | (simp only [Option.some.injEq] at he; exact ⟨_, he.symm, fun _ => rfl⟩)
  case extract ty i =>
    cases hx : evT c t ty <;> rw [hx] at he <;> first | (cases he; done) | exact hmap _ _ he

theorem opR_cls1 {c : Cfg} {h : Heap} {ev : Operand → V} {o : Oper} {r : OR} (hc : clsOf c o = 1) (he : opR c h ev o = some r) : ∃ v, r = .val v h := by
  have hmap : ∀ (x : Option V) (r : OR), x.map (OR.val · h) = some r → ∃ v, r = .val v h := by
    intro x r hx
    cases x with
    | none => cases hx
    | some v => simp only [Option.map_some, Option.some.injEq] at hx; exact ⟨v, hx.symm⟩
  obtain ⟨dst, op, type, pos, after, guard⟩ := o
  cases op <;> simp only [clsOf] at hc <;> simp only [opR] at he ⊢
  case call cl =>
    cases hcl : cl.callee with
    | value f =>
      cases f with
      | func f => simp only [hcl] at hc; split at hc <;> cases hc
      | _ => simp [hcl] at hc
    | invoke r m => simp [hcl] at hc
    | builtin b =>
      simp only [hcl] at hc he ⊢
      cases b <;> simp only at hc he ⊢ <;> (try (cases hc; done))
      split at he
      · exact hmap _ _ he
      · cases he
  case convert src dst x =>
    cases hd : c.P.underlying dst with
    | none => rw [hd] at hc; cases hc
    | some d =>
      rw [hd] at hc
      cases d <;> simp only at hc <;> first | (cases hc; done) | skip
      cases hcv : convV c.P h src dst (ev x) with
      | none => rw [hcv] at he; cases he
      | some y =>
        rw [hcv] at he
        simp only [Option.map_some, Option.some.injEq] at he
        subst he
        have : y.2 = h := by
          unfold convV at hcv
          rw [hd] at hcv
          split at hcv <;> (try (cases hcv; done)) <;> (try simp_all)
          · obtain ⟨rfl⟩ := hcv; rfl
          · split at hcv <;> (try (cases hcv; done))
            split at hcv <;> (try (cases hcv; done))
            split at hcv <;> (try (cases hcv; done))
            obtain ⟨s, _, rfl⟩ := Option.map_eq_some_iff.1 hcv
            rfl
        exact ⟨y.1, by rw [← this]⟩
  all_goals (try (cases hc; done))
  all_goals exact hmap _ _ he

/-! ### Readings behind a new block -/
section
variable {P : Program} {h : Heap} {b : Blk}
theorem newB_get {a : Nat} {x : Blk} (hx : h.bs[a]? = some x) : (newB h b).bs[a]? = some x := by
  have := (List.getElem?_eq_some_iff.1 hx).1
  simp [newB, List.getElem?_append_left this, hx]
theorem readP_newB {p : V} {n : Nat} {cs : List V} (hr : readP h p n = some cs) : readP (newB h b) p n = some cs := by
  unfold readP at hr ⊢
  cases p <;> simp only at hr ⊢ <;> first | exact hr | skip
  rename_i a off
  cases hx : h.bs[a]? with
  | none => rw [hx] at hr; cases hr
  | some x => rw [newB_get hx]; rw [hx] at hr; exact hr
theorem loadP_newB {t : TypeId} {p x : V} (hl : loadP P h t p = some x) : loadP P (newB h b) t p = some x := by
  unfold loadP at hl ⊢
  cases ha : isAggO P t with
  | none => rw [ha] at hl; cases hl
  | some g =>
    rw [ha] at hl
    cases g with
    | true =>
      simp only at hl ⊢
      cases hs : szO P t with
      | none => rw [hs] at hl; cases hl
      | some n =>
        rw [hs] at hl
        simp only at hl ⊢
        obtain ⟨cs, h1, rfl⟩ := Option.map_eq_some_iff.1 hl
        rw [readP_newB h1]; rfl
    | false =>
      simp only at hl ⊢
      cases hr : readP h p 1 with
      | none => rw [hr] at hl; cases hl
      | some cs => rw [readP_newB hr]; rw [hr] at hl; exact hl
theorem lookupV_newB {t : TypeId} {m k x : V} {ok : Bool} (hl : lookupV P h t m k ok = some x) : lookupV P (newB h b) t m k ok = some x := by
  unfold lookupV at hl ⊢
  split at hl
  · rename_i kt et hu
    split at hl
    · cases hl
    · rename_i hk
      rw [if_neg hk]
      cases m <;> simp only at hl ⊢ <;> first | exact hl | skip
      rename_i a
      cases hx : h.bs[a]? with
      | none => rw [hx] at hl; cases hl
      | some y => rw [newB_get hx]; rw [hx] at hl; exact hl
  · cases hl
theorem sliceV_newB {t : TypeId} {x y : V} {lo hi mx : Option V} (hl : sliceV P t h x lo hi mx = some y) : sliceV P t (newB h b) x lo hi mx = some y := by
  unfold sliceV at hl ⊢
  cases x <;> simp only at hl ⊢ <;> first | exact hl | skip
  rename_i a off
  cases hx : h.bs[a]? with
  | some z => rw [newB_get hx]; rw [hx] at hl; exact hl
  | none =>
    rw [hx] at hl
    exfalso
    split at hl <;> (try (cases hl; done))
    split at hl <;> (try (cases hl; done))
    split at hl <;> (try (cases hl; done))
    split at hl <;> (try (cases hl; done))
    split at hl <;> (try (cases hl; done))
theorem lenV_newB {t : TypeId} {x y : V} (hl : lenV P h t x = some y) : lenV P (newB h b) t x = some y := by
  unfold lenV at hl ⊢
  cases hu : P.underlying t with
  | none => rw [hu] at hl; cases hl
  | some d =>
  rw [hu] at hl
  cases d <;> cases x <;> simp only at hl ⊢ <;> first | exact hl | skip
  rename_i a
  cases hx : h.bs[a]? with
  | none => rw [hx] at hl; cases hl
  | some z => rw [newB_get hx]; rw [hx] at hl; exact hl
theorem sliceCells_newB {n : Nat} {x : V} {cs : List V} (hl : sliceCells h n x = some cs) : sliceCells (newB h b) n x = some cs := by
  unfold sliceCells at hl ⊢
  cases x <;> simp only at hl ⊢ <;> first | exact hl | skip
  rename_i a off len sz
  split at hl
  · rename_i hs
    rw [if_pos hs]
    cases hx : h.bs[a]? with
    | none => rw [hx] at hl; cases hl
    | some z => rw [newB_get hx]; rw [hx] at hl; exact hl
  · cases hl
theorem opR_cls1_newB {c : Cfg} {ev : Operand → V} {o : Oper} {v : V} (hc : clsOf c o = 1) (he : opR c h ev o = some (.val v h)) : opR c (newB h b) ev o = some (.val v (newB h b)) := by
  have hmap : ∀ (x y : Option V) (v : V), (∀ z, x = some z → y = some z) → x.map (OR.val · h) = some (.val v h) → y.map (OR.val · (newB h b)) = some (.val v (newB h b)) := by
    intro x y v hxy hx
    cases x with
    | none => cases hx
    | some z => simp only [Option.map_some, Option.some.injEq, OR.val.injEq, and_true] at hx; subst hx; rw [hxy z rfl]; rfl
  obtain ⟨dst, op, type, pos, after, guard⟩ := o
  cases op <;> simp only [clsOf] at hc <;> simp only [opR] at he ⊢
  case call cl =>
    cases hcl : cl.callee with
    | value f =>
      cases f with
      | func f => simp only [hcl] at hc; split at hc <;> cases hc
      | _ => simp [hcl] at hc
    | invoke r m => simp [hcl] at hc
    | builtin b =>
      simp only [hcl] at hc he ⊢
      cases b <;> simp only at hc he ⊢ <;> (try (cases hc; done))
      split at he
      · exact hmap _ _ _ (fun z hz => lenV_newB hz) he
      · cases he
  case convert src dst x =>
    cases hd : c.P.underlying dst with
    | none => rw [hd] at hc; cases hc
    | some d =>
      rw [hd] at hc
      cases d <;> simp only at hc <;> first | (cases hc; done) | skip
      cases hcv : convV c.P h src dst (ev x) with
      | none => rw [hcv] at he; cases he
      | some y =>
        rw [hcv] at he
        simp only [Option.map_some, Option.some.injEq, OR.val.injEq] at he
        obtain ⟨rfl, _⟩ := he
        have : convV c.P (newB h b) src dst (ev x) = some (y.1, newB h b) := by
          unfold convV at hcv ⊢
          rw [hd] at hcv ⊢
          cases hs : c.P.underlying src with
          | none => rw [hs] at hcv; simp at hcv
          | some sd =>
            rw [hs] at hcv
            generalize ev x = vx at hcv ⊢
            cases sd with
            | slice e =>
              cases hue : c.P.underlying e with
              | none => simp only [hue] at hcv; cases hcv
              | some d =>
                simp only [hue] at hcv ⊢
                cases d with
                | int k => cases k with
                  | u8 =>
                    simp only at hcv ⊢
                    by_cases hisl : isSl vx = true
                    · rw [if_pos hisl] at hcv ⊢
                      cases hcs : sliceCells h 1 vx with
                      | none => rw [hcs] at hcv; cases hcv
                      | some cs =>
                        rw [hcs] at hcv
                        rw [sliceCells_newB hcs]
                        simp only at hcv ⊢
                        obtain ⟨s, h1, rfl⟩ := Option.map_eq_some_iff.1 hcv
                        rw [h1]; rfl
                    · rw [if_neg hisl] at hcv; cases hcv
                  | _ => cases hcv
                | _ => cases hcv
            | string => cases vx <;> first | (cases hcv; done) | (simp only [Option.some.injEq] at hcv; subst hcv; rfl)
            | _ => cases vx <;> cases hcv
        rw [this]; rfl
  all_goals (try (cases hc; done))
  case load ty a => exact hmap _ _ _ (fun z hz => loadP_newB hz) he
  case lookup => exact hmap _ _ _ (fun z hz => lookupV_newB hz) he
  case slice => exact hmap _ _ _ (fun z hz => sliceV_newB hz) he
theorem opR_cls3 {c : Cfg} {ev : Operand → V} {o : Oper} {r : OR} (hc : clsOf c o = 3) (he : opR c h ev o = some r) : ∃ v b, r = .val v (newB h b) := by
  obtain ⟨dst, op, type, pos, after, guard⟩ := o
  cases op <;> simp only [clsOf] at hc <;> simp only [opR] at he
  case call cl =>
    cases hcl : cl.callee with
    | value f =>
      cases f with
      | func f => simp only [hcl] at hc; split at hc <;> cases hc
      | _ => simp [hcl] at hc
    | invoke r m => simp [hcl] at hc
    | builtin b => simp only [hcl] at hc; cases b <;> simp only at hc <;> cases hc
  case convert src dst x =>
    split at hc <;> cases hc
  all_goals (try (cases hc; done))
  all_goals (split at he <;> first | (cases he; done) | (simp only [Option.some.injEq] at he; exact ⟨_, _, he.symm⟩))
end

section
variable {c : Cfg} {C : CallF} {o : Oper} {want : Option Bool} {t : List V} {h : Heap} {d : List Def} {p : Pan} {ro : Option Nat} {x : V × Heap × List Def × Pan} {piv : Bool}

theorem eff_cls0 (hC : CQuiet c C) (hc : clsOf c o = 0) (he : eff c C true piv o want (evT c t) h d p ro = some (.inl x)) :
    ∃ v, x = (v, h, d, p) ∧ ∀ h2 d2 p2, eff c C true piv o want (evT c t) h2 d2 p2 ro = some (.inl (v, h2, d2, p2)) := by
  unfold eff at he ⊢
  cases want with
  | none => cases he
  | some b => cases b with
    | false => simp only [Option.some.injEq, Sum.inl.injEq] at he; exact ⟨_, he.symm, fun _ _ _ => rfl⟩
    | true =>
      simp only at he ⊢
      cases ho : opR c h (evT c t) o with
      | none => rw [ho] at he; cases he
      | some r =>
        rcases opR_cls0 hc ho with ⟨v, rfl, h1⟩ | ⟨f, args, hp, rfl, h1⟩
        · rw [ho] at he
          simp only [Option.some.injEq, Sum.inl.injEq] at he
          exact ⟨v, he.symm, fun h2 d2 p2 => by rw [h1 h2]⟩
        · rw [ho] at he
          simp only at he
          split at he
          · cases he
          · rename_i hcl
            have hcl' : V.closed.closedL args = true := by simpa [hc] using hcl
            cases hr : C (.func (.func f) [] []) args h with
            | none => rw [hr] at he; cases he
            | some y =>
              obtain ⟨r, h'⟩ := y
              obtain ⟨e1, e2⟩ := hC f args h r h' hp hcl' hr
              subst e1
              rw [hr] at he
              cases r with
              | ret v =>
                simp only [Option.some.injEq, Sum.inl.injEq] at he
                exact ⟨v, he.symm, fun h2 d2 p2 => by rw [h1 h2]; simp only; rw [if_neg hcl, e2 h2]⟩
              | panic v => simp only at he; split at he <;> cases he

theorem eff_cls1 {q : Bool} {ev : Operand → V} (hc : clsOf c o = 1) (he : eff c C q piv o want ev h d p ro = some (.inl x)) :
    ∃ v, x = (v, h, d, p) ∧ ∀ d2 p2, eff c C q piv o want ev h d2 p2 ro = some (.inl (v, h, d2, p2)) := by
  unfold eff at he ⊢
  cases want with
  | none => cases he
  | some b => cases b with
    | false => simp only [Option.some.injEq, Sum.inl.injEq] at he; exact ⟨_, he.symm, fun _ _ => rfl⟩
    | true =>
      simp only at he ⊢
      cases ho : opR c h ev o with
      | none => rw [ho] at he; cases he
      | some r =>
        obtain ⟨v, rfl⟩ := opR_cls1 hc ho
        rw [ho] at he
        simp only [Option.some.injEq, Sum.inl.injEq] at he
        exact ⟨v, he.symm, fun d2 p2 => rfl⟩

theorem eff_cls1_newB {q : Bool} {ev : Operand → V} {v : V} {b : Blk} (hc : clsOf c o = 1) (he : eff c C q piv o want ev h d p ro = some (.inl (v, h, d, p))) (d2 : List Def) (p2 : Pan) :
    eff c C q piv o want ev (newB h b) d2 p2 ro = some (.inl (v, newB h b, d2, p2)) := by
  unfold eff at he ⊢
  cases want with
  | none => cases he
  | some w => cases w with
    | false => simp only [Option.some.injEq, Sum.inl.injEq, Prod.mk.injEq, and_true] at he ⊢; exact he
    | true =>
      simp only at he ⊢
      cases ho : opR c h ev o with
      | none => rw [ho] at he; cases he
      | some r =>
        obtain ⟨v', rfl⟩ := opR_cls1 hc ho
        rw [ho] at he
        simp only [Option.some.injEq, Sum.inl.injEq, Prod.mk.injEq] at he
        obtain ⟨rfl, _⟩ := he
        rw [opR_cls1_newB hc ho]

theorem eff_cls3 {q : Bool} {ev : Operand → V} (hc : clsOf c o = 3) (he : eff c C q piv o want ev h d p ro = some (.inl x)) :
    ∃ v h', x = (v, h', d, p) ∧ (h' = h ∨ ∃ b, h' = newB h b) ∧ ∀ d2 p2, eff c C q piv o want ev h d2 p2 ro = some (.inl (v, h', d2, p2)) := by
  unfold eff at he ⊢
  cases want with
  | none => cases he
  | some w => cases w with
    | false => simp only [Option.some.injEq, Sum.inl.injEq] at he; exact ⟨_, _, he.symm, .inl rfl, fun _ _ => rfl⟩
    | true =>
      simp only at he ⊢
      cases ho : opR c h ev o with
      | none => rw [ho] at he; cases he
      | some r =>
        obtain ⟨v, b, rfl⟩ := opR_cls3 hc ho
        rw [ho] at he
        simp only [Option.some.injEq, Sum.inl.injEq] at he
        exact ⟨v, _, he.symm, .inr ⟨b, rfl⟩, fun d2 p2 => rfl⟩
end

theorem putT_get {t : List V} {dst : Option Tmp} {v : V} {i : Nat} (h : dst ≠ some i) : (putT t dst v)[i]? = t[i]? := by
  cases dst with
  | none => rfl
  | some d =>
    have : d ≠ i := fun e => h (by rw [e])
    simp [putT, List.getElem?_set_ne this]
theorem putT_comm {t : List V} {x y : Option Tmp} {v u : V} (h : ∀ d, x = some d → y ≠ some d) : putT (putT t x v) y u = putT (putT t y u) x v := by
  cases x with
  | none => rfl
  | some d => cases y with
    | none => rfl
    | some e =>
      have : d ≠ e := fun e' => h d rfl (by rw [e'])
      simp only [putT]
      rw [List.set_comm _ _ this]

/-- What an operation does not read may be put. -/
theorem eff_put {c : Cfg} {C : CallF} {q piv : Bool} {ops : Array Oper} {o : Oper} {t : List V} {dst : Option Tmp} {v : V} {h : Heap} {d : List Def} {p : Pan} {ro : Option Nat}
    (hr : ∀ i, dst = some i → i ∉ readsOf ops o) :
    eff c C q piv o (wantedV ops o (putT t dst v)) (evT c (putT t dst v)) h d p ro = eff c C q piv o (wantedV ops o t) (evT c t) h d p ro := by
  have hw : wantedV ops o (putT t dst v) = wantedV ops o t := by
    unfold wantedV
    cases hg : o.guard with
    | none => rfl
    | some jw =>
      obtain ⟨j, w⟩ := jw
      simp only
      cases hj : ops[j]? with
      | none => rfl
      | some g =>
        simp only
        cases hd : g.dst with
        | none => rfl
        | some i =>
          simp only
          rw [putT_get (fun e => hr i e (by simp [readsOf, hg, hj, hd]))]
  rw [hw]
  exact eff_congr fun x hx => by
    cases x with
    | tmp i =>
      have : (putT t dst v)[i]? = t[i]? := putT_get (fun e => hr i e (by
        unfold readsOf tmpsOf
        exact List.mem_append_left _ (List.mem_filterMap.2 ⟨.tmp i, by simpa using hx, rfl⟩)))
      simp [evT, List.getD, this]
    | _ => rfl

theorem indep_spec {c : Cfg} {ops : Array Oper} {a b : Oper} (h : indep c ops a b = true) :
    (∀ d, a.dst = some d → b.dst ≠ some d) ∧ (∀ d, a.dst = some d → d ∉ readsOf ops b) ∧ (∀ d, b.dst = some d → d ∉ readsOf ops a) ∧ (clsOf c a = 0 ∨ clsOf c b = 0 ∨ clsOf c a = 1 ∧ clsOf c b = 1 ∨ clsOf c a = 1 ∧ clsOf c b = 3) := by
  unfold indep at h
  simp only [Bool.and_eq_true, Bool.or_eq_true, beq_iff_eq] at h
  obtain ⟨⟨h1, h2⟩, h3⟩ := h
  refine ⟨fun d hd => ?_, fun d hd => ?_, fun d hd => ?_, ?_⟩
  · rw [hd] at h1; simp at h1; exact h1.1
  · rw [hd] at h1; simp at h1; exact h1.2
  · rw [hd] at h2; simpa using h2
  · rcases h3 with ((h3 | h3) | h3) | h3
    · exact .inl h3
    · exact .inr (.inl h3)
    · exact .inr (.inr (.inl h3))
    · exact .inr (.inr (.inr h3))

theorem load_apart {P : Program} {h h' : Heap} {t t' : TypeId} {p q v : V} (hs : storeP P h t q v = some h') (ha : apartV p q = true) : loadP P h' t' p = loadP P h t' p := by
  unfold apartV at ha
  split at ha
  · rename_i a i b j
    have hne : a ≠ b := by simpa using ha
    unfold storeP at hs
    split at hs <;> (try (cases hs; done))
    rename_i a' off n vs hq hn hv
    simp only [V.ptr.injEq] at hq
    obtain ⟨rfl, rfl⟩ := hq
    split at hs <;> (try (cases hs; done))
    split at hs <;> (try (cases hs; done))
    split at hs <;> (try (cases hs; done))
    simp only [Option.some.injEq] at hs
    subst hs
    have hr : ∀ (cs : List V) (n : Nat), readP { h with bs := h.bs.set b (.cells cs) } (.ptr a i) n = readP h (.ptr a i) n := by
      intro cs n
      unfold readP
      simp only [List.getElem?_set_ne (Ne.symm hne)]
    unfold loadP
    simp only [hr]
  · cases ha
section
variable {c : Cfg} {C : CallF} {o : Oper} {want : Option Bool} {h : Heap} {d : List Def} {p : Pan} {ro : Option Nat} {x : V × Heap × List Def × Pan} {piv : Bool}
theorem eff_load {q : Bool} {ev : Operand → V} {t : TypeId} {a : Operand} (hop : o.op = .load t a) (he : eff c C q piv o want ev h d p ro = some (.inl x)) :
    ∃ v, x = (v, h, d, p) ∧ ∀ h2, loadP c.P h2 t (ev a) = loadP c.P h t (ev a) → eff c C q piv o want ev h2 d p ro = some (.inl (v, h2, d, p)) := by
  unfold eff at he ⊢
  cases want with
  | none => cases he
  | some b => cases b with
    | false => simp only [Option.some.injEq, Sum.inl.injEq] at he; exact ⟨_, he.symm, fun _ _ => rfl⟩
    | true =>
      simp only [opR, hop] at he ⊢
      cases hl : loadP c.P h t (ev a) with
      | none => rw [hl] at he; cases he
      | some v =>
        rw [hl] at he
        simp only [Option.map_some, Option.some.injEq, Sum.inl.injEq] at he
        exact ⟨v, he.symm, fun h2 e => by rw [e]; rfl⟩
theorem eff_store {q : Bool} {ev : Operand → V} {t : TypeId} {a b : Operand} (hop : o.op = .store t a b) (he : eff c C q piv o want ev h d p ro = some (.inl x)) :
    ∃ h', x = (.tuple [], h', d, p) ∧ (h' = h ∨ storeP c.P h t (ev a) (ev b) = some h') := by
  unfold eff at he
  cases want with
  | none => cases he
  | some w => cases w with
    | false => simp only [Option.some.injEq, Sum.inl.injEq] at he; exact ⟨_, he.symm, .inl rfl⟩
    | true =>
      simp only [opR, hop] at he
      cases hl : storeP c.P h t (ev a) (ev b) with
      | none => rw [hl] at he; cases he
      | some h' =>
        rw [hl] at he
        simp only [Option.map_some, Option.some.injEq, Sum.inl.injEq] at he
        exact ⟨h', he.symm, .inr rfl⟩
end
/-- may two operations change places? -/
def Swp (c : Cfg) (ops : Array Oper) (s : St) (a b : Oper) : Prop :=
  (∀ d, a.dst = some d → b.dst ≠ some d) ∧ (∀ d, a.dst = some d → d ∉ readsOf ops b) ∧ (∀ d, b.dst = some d → d ∉ readsOf ops a) ∧
  ((clsOf c a = 0 ∨ clsOf c b = 0 ∨ clsOf c a = 1 ∧ clsOf c b = 1 ∨ clsOf c a = 1 ∧ clsOf c b = 3) ∨
    ∃ t p u q v, a.op = .load t p ∧ b.op = .store u q v ∧ apartV (evT c s.t p) (evT c s.t q) = true)
/-- Two operations side by side change places. -/
theorem execOps_swap {c : Cfg} {C : CallF} (hC : CQuiet c C) {ops : Array Oper} {i j : Nat} {a b : Oper} (ha : ops[i]? = some a) (hb : ops[j]? = some b) (hi : pivot ops i = false) (hj : pivot ops j = false)
    {l : List Nat} {s : St} {r : Ax × St} (hab : Swp c ops s a b) (h : execOps c C true ops (i :: j :: l) s = some r) : execOps c C true ops (j :: i :: l) s = some r := by
  obtain ⟨d1, d2, d3, d4⟩ := hab
  have nopan : ∀ {o : Oper} {want : Option Bool} {ev : Operand → V} {h : Heap} {d : List Def} {p : Pan} {ro : Option Nat} {y : V × Heap}, eff c C true false o want ev h d p ro ≠ some (.inr y) := by
    intro o want ev h d p ro y he
    unfold eff at he
    split at he <;> (try (cases he; done))
    split at he <;> (try (cases he; done))
    · split at he <;> cases he
    · split at he
      · cases he
      · split at he <;> cases he
    · split at he
      · cases he
      · split at he <;> (try (cases he; done))
  rw [execOps_cons, ha] at h
  simp only [hi] at h
  cases e1 : eff c C true false a (wantedV ops a s.t) (evT c s.t) s.h s.d s.p s.ro with
  | none => rw [e1] at h; cases h
  | some x => cases x with
    | inr y => exact absurd e1 nopan
    | inl x =>
      rw [e1] at h
      simp only at h
      rw [execOps_cons, hb] at h
      simp only [hj] at h
      cases e2 : eff c C true false b (wantedV ops b (aft s a.dst x).t) (evT c (aft s a.dst x).t) (aft s a.dst x).h (aft s a.dst x).d (aft s a.dst x).p (aft s a.dst x).ro with
      | none => rw [e2] at h; cases h
      | some y => cases y with
        | inr y => exact absurd e2 nopan
        | inl y =>
          rw [e2] at h
          simp only at h
          simp only [aft] at e2
          rw [eff_put d2] at e2
          -- the two, the other way round
          have key : ∃ y' x', eff c C true false b (wantedV ops b s.t) (evT c s.t) s.h s.d s.p s.ro = some (.inl y') ∧
              eff c C true false a (wantedV ops a s.t) (evT c s.t) y'.2.1 y'.2.2.1 y'.2.2.2 s.ro = some (.inl x') ∧ x'.1 = x.1 ∧ y'.1 = y.1 ∧ x'.2 = y.2 := by
            rcases d4 with (h0 | h0 | ⟨h0, h1⟩ | ⟨h0, h1⟩) | ⟨t1, p1, t2, p2, v2, o1, o2, hap⟩
            · obtain ⟨v, rfl, k⟩ := eff_cls0 hC h0 e1
              exact ⟨y, _, e2, k _ _ _, rfl, rfl, rfl⟩
            · obtain ⟨v, rfl, k⟩ := eff_cls0 hC h0 e2
              exact ⟨_, x, k _ _ _, e1, rfl, rfl, rfl⟩
            · obtain ⟨v, rfl, k⟩ := eff_cls1 h0 e1
              obtain ⟨u, rfl, k'⟩ := eff_cls1 h1 e2
              exact ⟨_, _, k' _ _, k _ _, rfl, rfl, rfl⟩
            · obtain ⟨v, rfl, k⟩ := eff_cls1 h0 e1
              obtain ⟨u, h', rfl, hh, k'⟩ := eff_cls3 h1 e2
              refine ⟨_, (v, h', s.d, s.p), k' _ _, ?_, rfl, rfl, rfl⟩
              rcases hh with rfl | ⟨b, rfl⟩
              · exact k _ _
              · exact eff_cls1_newB h0 e1 _ _
            · obtain ⟨v, rfl, k⟩ := eff_load o1 e1
              obtain ⟨h', rfl, hh⟩ := eff_store o2 e2
              refine ⟨_, (v, h', s.d, s.p), e2, ?_, rfl, rfl, rfl⟩
              rcases hh with rfl | hh
              · exact k _ rfl
              · exact k _ (load_apart hh hap)
          obtain ⟨y', x', f1, f2, f3, f4, f5⟩ := key
          rw [execOps_cons, hb]
          simp only [hj, f1]
          rw [execOps_cons, ha]
          simp only [hi]
          have e3 : eff c C true false a (wantedV ops a (aft s b.dst y').t) (evT c (aft s b.dst y').t) (aft s b.dst y').h (aft s b.dst y').d (aft s b.dst y').p (aft s b.dst y').ro = some (.inl x') := by
            simp only [aft]
            rw [eff_put d3]
            exact f2
          rw [e3]
          simp only
          have e4 : aft (aft s b.dst y') a.dst x' = aft (aft s a.dst x) b.dst y := by
            simp only [aft, f3, f4]
            rw [putT_comm (x := a.dst) (y := b.dst) d1, f5]
          rw [e4]
          exact h

/-! ### Orders -/
theorem foldl_edges {P : Nat → Prop} {acc : List (List Nat)} (S : ∀ j, P j → ∀ y ∈ acc.getD j [], P y) : ∀ (l : List Edge) (s : List Nat), (∀ y ∈ s, P y) → (∀ e ∈ l, Region.binds .any e = true → P e.on) →
    ∀ y ∈ l.foldl (fun s e => if Region.binds .any e then e.on :: (acc.getD e.on [] ++ s) else s) s, P y
  | [], s, hs, _ => hs
  | e :: l, s, hs, hl => by
    rw [List.foldl_cons]
    refine foldl_edges S l _ ?_ (fun e' he' => hl e' (List.mem_cons_of_mem _ he'))
    split
    · rename_i hb
      intro y hy
      simp only [List.mem_cons, List.mem_append] at hy
      rcases hy with rfl | hy | hy
      · exact hl e (by simp) hb
      · exact S _ (hl e (by simp) hb) y hy
      · exact hs y hy
    · exact hs

/-- what stands ahead of an operation lies in whatever set is closed under edges and holds its own -/
theorem befores_sub {ops : Array Oper} {P : Nat → Prop} (hS : ∀ j o, ops[j]? = some o → P j → ∀ e ∈ o.after, Region.binds .any e = true → P e.on) {i : Nat} {o : Oper} (ho : ops[i]? = some o)
    (hi : ∀ e ∈ o.after, Region.binds .any e = true → P e.on) : ∀ y ∈ (befores ops).getD i [], P y := by
  let f : List (List Nat) → Oper → List (List Nat) := fun acc o => acc ++ [o.after.toList.foldl (init := []) fun s e => if Region.binds .any e then e.on :: (acc.getD e.on [] ++ s) else s]
  have key : ∀ (l : List Oper) (acc : List (List Nat)), (∀ k, (acc.length + k < acc.length + l.length) → ops[acc.length + k]? = l[k]?) →
      (∀ j o, ops[j]? = some o → j < acc.length → (∀ e ∈ o.after, Region.binds .any e = true → P e.on) → ∀ y ∈ acc.getD j [], P y) →
      ∀ j o, ops[j]? = some o → j < acc.length + l.length → (∀ e ∈ o.after, Region.binds .any e = true → P e.on) → ∀ y ∈ (l.foldl f acc).getD j [], P y := by
    intro l
    induction l with
    | nil => intro acc _ hacc j o hj hlt; exact hacc j o hj (by simpa using hlt)
    | cons x l ih =>
      intro acc hops hacc
      have hS' : ∀ j, P j → ∀ y ∈ acc.getD j [], P y := by
        intro j hj y hy
        by_cases hlt : j < acc.length
        · cases hoj : ops[j]? with
          | none =>
            exfalso
            have h1 := hops 0 (by simp)
            have h2 : acc.length < ops.size := by
              have : ops[acc.length]? = some x := by simpa using h1
              exact (Array.getElem?_eq_some_iff.1 this).1
            have h3 : ops.size ≤ j := by simpa using hoj
            omega
          | some oj => exact hacc j oj hoj hlt (hS j oj hoj hj) y hy
        · simp [List.getD, List.getElem?_eq_none (Nat.le_of_not_lt hlt)] at hy
      have := ih (f acc x) (by
        intro k hk
        have h1 := hops (k + 1) (by simp [f] at hk ⊢; omega)
        simp only [List.getElem?_cons_succ] at h1
        rw [← h1]
        congr 1
        simp [f]
        omega) (by
        intro j o hj hlt hedge y hy
        by_cases hlt2 : j < acc.length
        · have : (f acc x).getD j [] = acc.getD j [] := by simp [f, List.getD, List.getElem?_append_left hlt2]
          rw [this] at hy
          exact hacc j o hj hlt2 hedge y hy
        · have hje : j = acc.length := by simp [f] at hlt; omega
          subst hje
          have h1 := hops 0 (by simp)
          have hox : x = o := by
            have : ops[acc.length]? = some x := by simpa using h1
            rw [this] at hj
            simpa using hj
          subst hox
          have : (f acc x).getD acc.length [] = x.after.toList.foldl (init := []) fun s e => if Region.binds .any e then e.on :: (acc.getD e.on [] ++ s) else s := by simp [f, List.getD]
          rw [this] at hy
          exact foldl_edges hS' _ _ (by simp) (fun e he => hedge e (by simpa using he)) y hy)
      intro j o hj hlt
      exact this j o hj (by simp [f] at hlt ⊢; omega)
  have := key ops.toList [] (by intro k hk; simp) (by intro j o hj hlt; simp at hlt) i o ho (by simpa using (Array.getElem?_eq_some_iff.1 ho).1) hi
  exact this

theorem edgesBack_spec {ops : Array Oper} (h : edgesBack ops = true) {i : Nat} {o : Oper} (ho : ops[i]? = some o) : ∀ e ∈ o.after, Region.binds .any e = true → e.on < i := by
  intro e he hb
  unfold edgesBack at h
  rw [List.all_eq_true] at h
  have := h (o, i) (by
    rw [List.mem_zipIdx_iff_getElem?]
    simpa using ho)
  simp only [List.all_eq_true] at this
  have := this e (by simpa using he)
  simpa [hb] using this

theorem befores_lt {ops : Array Oper} (h : edgesBack ops = true) {i : Nat} {o : Oper} (ho : ops[i]? = some o) : ∀ y ∈ (befores ops).getD i [], y < i :=
  befores_sub (P := fun y => y < i) (fun j oj hj hlt e he hb => Nat.lt_trans (edgesBack_spec h hj e he hb) hlt) ho (edgesBack_spec h ho)

theorem pivot_false {ops : Array Oper} {i j : Nat} (hj : j < ops.size) (hne : j ≠ i) (h1 : j ∉ (befores ops).getD i []) (h2 : i ∉ (befores ops).getD j []) : pivot ops i = false := by
  unfold pivot
  rw [← Bool.not_eq_true, List.all_eq_true]
  intro h
  have := h j (List.mem_range.2 hj)
  simp only [Bool.or_eq_true, beq_iff_eq, List.contains_iff_mem] at this
  rcases this with (h | h) | h
  · exact hne h
  · exact h1 h
  · exact h2 h

/-- temporaries that a region leaves alone are as they were -/
def Sty (ops : Array Oper) (t0 : List V) (s : St) : Prop := ∀ i, (ops.toList.all fun o => o.dst != some i) = true → s.t[i]? = t0[i]?
theorem Sty.ev {c : Cfg} {ops : Array Oper} {t0 : List V} {s : St} (h : Sty ops t0 s) {p : Operand} (hp : stayT ops p = true) : evT c s.t p = evT c t0 p := by
  cases p with
  | tmp i =>
    have := h i hp
    simp only [evT, List.getD_eq_getElem?_getD, this]
  | _ => rfl
theorem Sty.aft {ops : Array Oper} {t0 : List V} {s : St} (h : Sty ops t0 s) {y : Nat} {o : Oper} (ho : ops[y]? = some o) (x : V × Heap × List Def × Pan) : Sty ops t0 (Go.Ab.aft s o.dst x) := by
  intro i hi
  rw [List.all_eq_true] at hi
  have h1 := hi o (by simpa using Array.mem_of_getElem? ho)
  have h2 : o.dst ≠ some i := by simpa using h1
  show (putT s.t o.dst x.1)[i]? = _
  rw [putT_get h2]
  exact h i (by rw [List.all_eq_true]; exact hi)
theorem drawOk_T {c : Cfg} {ops : Array Oper} (t : List V) (h : drawOk c ops = true) : drawOkT c ops t = true := by
  unfold drawOk at h
  unfold drawOkT
  simp only [Bool.and_eq_true, List.all_eq_true] at h ⊢
  refine ⟨h.1, fun i hi a ha => ?_⟩
  have := h.2 i hi a ha
  simp only [Bool.or_eq_true] at this ⊢
  rcases this with h1 | h1
  · exact .inl h1
  · right
    split at h1
    · simp only [Bool.or_eq_true]; exact .inl h1
    · cases h1
theorem drawOk_spec {c : Cfg} {ops : Array Oper} {t0 : List V} (h : drawOkT c ops t0 = true) {i a : Nat} {x y : Oper} (ha : ops[a]? = some x) (hi : ops[i]? = some y) (hlt : a < i) (hb : a ∉ (befores ops).getD i []) {s : St} (hs : Sty ops t0 s) : Swp c ops s x y := by
  unfold drawOkT at h
  simp only [Bool.and_eq_true, List.all_eq_true] at h
  have := h.2 i (List.mem_range.2 (Array.getElem?_eq_some_iff.1 hi).1) a (List.mem_range.2 hlt)
  simp only [Bool.or_eq_true, List.contains_iff_mem, ha, hi] at this
  rcases this with h | h | h
  · exact absurd h hb
  · obtain ⟨d1, d2, d3, d4⟩ := indep_spec h
    exact ⟨d1, d2, d3, .inl d4⟩
  · unfold apartO at h
    simp only [Bool.and_eq_true] at h
    obtain ⟨⟨h1, h2⟩, h3⟩ := h
    refine ⟨fun d hd => ?_, fun d hd => ?_, fun d hd => ?_, .inr ?_⟩
    · rw [hd] at h1; simp at h1; exact h1.1
    · rw [hd] at h1; simp at h1; exact h1.2
    · rw [hd] at h2; simpa using h2
    · split at h3
      · rename_i t p u q v e1 e2
        simp only [Bool.and_eq_true] at h3
        exact ⟨t, p, u, q, v, e1, e2, by rw [hs.ev h3.1.1, hs.ev h3.1.2]; exact h3.2⟩
      · cases h3

/-- An operation that what stands before it need not precede moves ahead. -/
theorem execOps_ahead {c : Cfg} {C : CallF} (hC : CQuiet c C) {ops : Array Oper} {t0 : List V} (hd : drawOkT c ops t0 = true) {x : Nat} {ox : Oper} (hx : ops[x]? = some ox) : ∀ (l1 l2 : List Nat) (s : St) (r : Ax × St), Sty ops t0 s →
    (∀ y ∈ l1, y < x ∧ y ∉ (befores ops).getD x []) → execOps c C true ops (l1 ++ x :: l2) s = some r → execOps c C true ops (x :: l1 ++ l2) s = some r
  | [], l2, s, r, _, _, h => h
  | y :: l1, l2, s, r, hst, hl, h => by
    have hyx := hl y (by simp)
    have hyl : y < ops.size := Nat.lt_trans hyx.1 (Array.getElem?_eq_some_iff.1 hx).1
    have hxl : x < ops.size := (Array.getElem?_eq_some_iff.1 hx).1
    have hy : ops[y]? = some ops[y] := by simp [hyl]
    have heb : edgesBack ops = true := by unfold drawOkT at hd; simp only [Bool.and_eq_true] at hd; exact hd.1
    have hxy : x ∉ (befores ops).getD y [] := fun hm => by have := befores_lt heb hy x hm; omega
    have hp1 : pivot ops x = false := pivot_false hyl (by omega) hyx.2 hxy
    have hp2 : pivot ops y = false := pivot_false hxl (by omega) hxy hyx.2
    have h1 : execOps c C true ops (y :: x :: (l1 ++ l2)) s = some r := by
      rw [List.cons_append, execOps_cons] at h
      rw [execOps_cons]
      cases ho : ops[y]? with
      | none => rw [ho] at h; cases h
      | some o =>
        rw [ho] at h
        simp only at h ⊢
        split at h
        · exact execOps_ahead hC hd hx l1 l2 _ r (hst.aft ho _) (fun y hy => hl y (by simp [hy])) h
        · exact h
        · cases h
    exact execOps_swap hC hy hx hp2 hp1 (drawOk_spec hd hy hx hyx.1 hyx.2 hst) h1

theorem go_ok {c : Cfg} {C : CallF} (hC : CQuiet c C) {ops : Array Oper} {t0 : List V} (hd : drawOkT c ops t0 = true) : ∀ (fuel t : Nat) (listed : Array Bool) (s : St) (r : Ax × St), Sty ops t0 s →
    listed.size = ops.size → (∀ j o, ops[j]? = some o → listed.getD j false = true → ∀ e ∈ o.after, Region.binds .any e = true → listed.getD e.on false = true) →
    ((List.range ops.size).filter fun i => !listed.getD i true).length ≤ fuel →
    execOps c C true ops ((List.range ops.size).filter fun i => !listed.getD i true) s = some r →
    execOps c C true ops (Region.linearise.go .any ops fuel t listed []) s = some r := by
  have heb : edgesBack ops = true := by unfold drawOkT at hd; simp only [Bool.and_eq_true] at hd; exact hd.1
  intro fuel
  induction fuel with
  | zero =>
    intro t listed s r hst hsz hcl hlen h
    have : ((List.range ops.size).filter fun i => !listed.getD i true) = [] := List.eq_nil_of_length_eq_zero (by omega)
    rw [this] at h
    simpa [Region.linearise.go] using h
  | succ fuel ih =>
    intro t listed s r hst hsz hcl hlen h
    have hgd : ∀ j, j < ops.size → listed.getD j true = listed.getD j false := by
      intro j hj
      have : j < listed.size := by omega
      simp [Array.getD, this]
    simp only [Region.linearise.go]
    change execOps c C true ops (match (Region.ready .any ops listed)[t % (Region.ready .any ops listed).length]? with
      | some i => Region.linearise.go .any ops fuel (t / (Region.ready .any ops listed).length) (listed.setIfInBounds i true) [i]
      | none => [].reverse) s = some r
    cases hi : (Region.ready .any ops listed)[t % (Region.ready .any ops listed).length]? with
    | none =>
      have hnil : Region.ready .any ops listed = [] := by
        cases hr : Region.ready .any ops listed with
        | nil => rfl
        | cons x xs =>
          rw [hr] at hi
          have hlt : t % (x :: xs).length < (x :: xs).length := Nat.mod_lt _ (by simp)
          simp at hi
          simp at hlt
          omega
      -- nothing is left
      have hall : ((List.range ops.size).filter fun i => !listed.getD i true) = [] := by
        have key : ∀ n, n ≤ ops.size → ∀ j, j < n → listed.getD j false = true := by
          intro n
          induction n with
          | zero => intro _ j hj; omega
          | succ n ihn =>
            intro hn j hj
            by_cases hjn : j < n
            · exact ihn (by omega) j hjn
            · have : j = n := by omega
              subst this
              have hjl : j < ops.size := by omega
              have hoj : ops[j]? = some ops[j] := by simp [hjl]
              by_cases hls : listed.getD j false = true
              · exact hls
              · exfalso
                have : j ∈ Region.ready .any ops listed := by
                  rw [mem_ready]
                  refine ⟨by rw [hgd j hjl]; simpa using hls, _, hoj, fun e he hb => ihn (by omega) _ (edgesBack_spec heb hoj e he hb)⟩
                rw [hnil] at this
                cases this
        rw [List.filter_eq_nil_iff]
        intro j hj
        rw [hgd j (List.mem_range.1 hj), key ops.size (Nat.le_refl _) j (List.mem_range.1 hj)]
        simp
      rw [hall] at h
      simpa using h
    | some x =>
      have hmem := List.mem_of_getElem? hi
      obtain ⟨m1, ox, m2, m3⟩ := mem_ready.1 hmem
      simp only
      rw [linearise_go_acc, List.reverse_singleton, List.singleton_append]
      have hxl : x < ops.size := (Array.getElem?_eq_some_iff.1 m2).1
      have hxin : x ∈ ((List.range ops.size).filter fun i => !listed.getD i true) := by
        rw [List.mem_filter]; exact ⟨List.mem_range.2 hxl, by simp [m1]⟩
      obtain ⟨l1, l2, hl⟩ := List.append_of_mem hxin
      have hsort : ((List.range ops.size).filter fun i => !listed.getD i true).Pairwise (· < ·) := List.Pairwise.filter _ List.pairwise_lt_range
      have hl1 : ∀ y ∈ l1, y < x ∧ y ∉ (befores ops).getD x [] := by
        intro y hy
        refine ⟨?_, fun hb => ?_⟩
        · rw [hl] at hsort
          exact (List.pairwise_append.1 hsort).2.2 y hy x (by simp)
        · have h1 : listed.getD y false = true := befores_sub (P := fun y => listed.getD y false = true) hcl m2 m3 y hb
          have h2 : y ∈ ((List.range ops.size).filter fun i => !listed.getD i true) := by rw [hl]; simp [hy]
          rw [List.mem_filter] at h2
          rw [hgd y (List.mem_range.1 h2.1), h1] at h2
          simp at h2
      rw [hl] at h
      have h1 := execOps_ahead hC hd m2 l1 l2 s r hst hl1 h
      have hrest : ((List.range ops.size).filter fun i => !(listed.setIfInBounds x true).getD i true) = l1 ++ l2 := by
        have hnd : (l1 ++ x :: l2).Nodup := by rw [← hl]; exact List.Pairwise.filter _ List.nodup_range
        have e1 : ((List.range ops.size).filter fun i => !(listed.setIfInBounds x true).getD i true) = ((List.range ops.size).filter fun i => !listed.getD i true).filter fun i => i != x := by
          rw [List.filter_filter]
          apply List.filter_congr
          intro j hj
          by_cases hjx : x = j
          · subst hjx
            have : x < listed.size := by omega
            simp [this]
          · rw [getD_set_ne true hjx]
            have : (j != x) = true := by simp; omega
            simp [this]
        rw [e1, hl, List.filter_append, List.filter_cons]
        have hx1 : x ∉ l1 := fun hm => by
          have := List.nodup_append.1 hnd
          exact this.2.2 x hm x (by simp) rfl
        have hx2 : x ∉ l2 := fun hm => by
          have := (List.nodup_append.1 hnd).2.1
          exact (List.nodup_cons.1 this).1 hm
        have f1 : l1.filter (fun i => i != x) = l1 := List.filter_eq_self.2 fun y hy => by simp; rintro rfl; exact hx1 hy
        have f2 : l2.filter (fun i => i != x) = l2 := List.filter_eq_self.2 fun y hy => by simp; rintro rfl; exact hx2 hy
        simp [f1, f2]
      rw [List.cons_append, execOps_cons] at h1
      rw [execOps_cons]
      rw [m2] at h1 ⊢
      simp only at h1 ⊢
      split at h1
      · refine ih _ (listed.setIfInBounds x true) _ r (hst.aft m2 _) (by simpa using hsz) ?_ ?_ (by rw [hrest]; exact h1)
        · intro j o hj hls e he hb
          by_cases hjx : j = x
          · subst hjx
            rw [m2] at hj
            simp only [Option.some.injEq] at hj
            subst hj
            exact getD_set_true (m3 e he hb)
          · rw [getD_set_ne false (Ne.symm hjx)] at hls
            exact getD_set_true (hcl j o hj hls e he hb)
        · rw [hrest]
          have : (l1 ++ x :: l2).length ≤ fuel + 1 := by rw [← hl]; exact hlen
          simp at this ⊢
          omega
      · exact h1
      · cases h1

theorem regOk_of {c : Cfg} {C : CallF} (hP : PrOk c.P) (hC : CQuiet c C) : RegOk c C := by
  intro ops s r t hd h
  unfold Region.schedule
  rw [hP.follows]
  simp only [Bool.true_or, if_true, Region.linearise]
  have hf : ((List.range ops.size).filter fun i => !(Array.replicate ops.size false).getD i true) = List.range ops.size := by
    apply List.filter_eq_self.2
    intro j hj
    have := List.mem_range.1 hj
    simp [Array.getD, this]
  have hd : drawOkT c ops s.t = true := by
    simp only [Bool.or_eq_true] at hd
    rcases hd with h | h
    · exact drawOk_T _ h
    · exact h
  refine go_ok hC hd ops.size t _ s r (fun _ _ => rfl) (by simp) ?_ (by rw [hf]; simp) (by rw [hf]; exact h)
  intro j o hj hls
  simp [Array.getD] at hls

theorem cquiet_run (c : Cfg) : ∀ n, CQuiet c (run c n).C
  | 0 => fun f args h r h' _ _ hc => by simp [run] at hc
  | n + 1 => fun f args h r h' hp hcl hc => by
    simp only [run, callS, List.nil_append, List.append_nil, hp, if_true, handV, hcl] at hc ⊢
    split at hc
    · rename_i r1 hx
      simp only [Option.some.injEq, Prod.mk.injEq] at hc
      obtain ⟨rfl, rfl⟩ := hc
      exact ⟨rfl, fun h2 => rfl⟩
    · rename_i hx
      simp only [Option.map_eq_some_iff, Prod.mk.injEq] at hc
      obtain ⟨r1, ho, rfl, rfl⟩ := hc
      exact ⟨rfl, fun h2 => by rw [ho]; rfl⟩

theorem regOkAll {c : Cfg} (hP : PrOk c.P) : RegOkAll c := fun n => regOk_of hP (cquiet_run c n)

/-- THE SIMULATION: what 'run' says is what the machine does. -/
theorem sim {c : Cfg} (hP : PrOk c.P) (hX : ExtOk c) (n : Nat) : ESim c (run c n).E ∧ CSim c (run c n).C ∧ DSim c (run c n).D := run_sim hP hX (regOkAll hP) n

/-- A contract from a body's evaluation. -/
theorem psim_of_run {c : Cfg} (hP : PrOk c.P) (hX : ExtOk c) {n : Nat} {f : FuncId} {xs : List V} {r : CRes} (h : outS (bodyS c (run c n).E (run c n).D f xs emptyH) = some r) : PSim c.P c.glob f xs r :=
  psim_of_bsim h fun r h' hb => bodyS_sim hP (sim hP hX n).1 (sim hP hX n).2.2 hb
theorem psim_empty_run {c : Cfg} (hP : PrOk c.P) (hX : ExtOk c) {n : Nat} {f : FuncId} {r : CRes} (h1 : outS (bodyS c (run c n).E (run c n).D f [.row true true [] 0 none] emptyH) = some r)
    (h2 : outS (bodyS c (run c n).E (run c n).D f [.row false false [] 0 (some 0)] ⟨[], [none]⟩) = some r) : PSim c.P c.glob f [.row false false [] 0 none] r :=
  psim_empty h1 (fun r h' hb => bodyS_sim hP (sim hP hX n).1 (sim hP hX n).2.2 hb) h2 (fun r h' hb => bodyS_sim hP (sim hP hX n).1 (sim hP hX n).2.2 hb)

end Go.Ab
