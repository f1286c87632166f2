/- Contracts and how they are used: one function's proof rests on those of the functions that it calls. -/
import Derived.Test.YtdfpmhgfmmcopaaDoorAbsSym
set_option linter.unusedVariables false
set_option linter.unusedSimpArgs false
set_option linter.unusedSectionVars false
set_option linter.deprecated false
namespace Go.Ab

/-- What is proved of a function, as an answer to calls. -/
noncomputable def dOf {α : Type} (ok : α → Prop) (enc : α → List V) (F : α → CRes) : List V → Option CRes := fun xs => by
  classical exact if h : ∃ a, ok a ∧ xs = enc a then some (F h.choose) else none

theorem dOf_ok {P : Program} {glob : Nat → Option (List V)} {g : FuncId} {α : Type} {ok : α → Prop} {enc : α → List V} {F : α → CRes} (h : ∀ a, ok a → PSim P glob g (enc a) (F a)) :
    ∀ xs r, dOf ok enc F xs = some r → PSim P glob g xs r := by
  intro xs r hr
  unfold dOf at hr
  split at hr
  · rename_i hex
    simp only [Option.some.injEq] at hr
    subst hr
    have h1 := hex.choose_spec
    have h2 := h _ h1.1
    rwa [← h1.2] at h2
  · cases hr

theorem dOf_eq {α : Type} {ok : α → Prop} {enc : α → List V} {F : α → CRes} (inj : ∀ a b, enc a = enc b → F a = F b) {a : α} (h : ok a) : dOf ok enc F (enc a) = some (F a) := by
  unfold dOf
  have hex : ∃ b, ok b ∧ enc a = enc b := ⟨a, h, rfl⟩
  rw [dif_pos hex]
  rw [inj _ _ hex.choose_spec.2.symm]

/-- The answers to calls, one function ahead of the others. -/
def extC (g : FuncId) (d : List V → Option CRes) (e : FuncId → List V → Option CRes) : FuncId → List V → Option CRes := fun f xs => if f = g then d xs else e f xs
def ext0 : FuncId → List V → Option CRes := fun _ _ => none

def ExtP (P : Program) (glob : Nat → Option (List V)) (e : FuncId → List V → Option CRes) : Prop := ∀ f xs r, e f xs = some r → PSim P glob f xs r
theorem extP_nil {P : Program} {glob : Nat → Option (List V)} : ExtP P glob ext0 := fun f xs r h => by simp [ext0] at h
theorem extP_cons {P : Program} {glob : Nat → Option (List V)} {g : FuncId} {d : List V → Option CRes} {e : FuncId → List V → Option CRes} (h : ∀ xs r, d xs = some r → PSim P glob g xs r) (he : ExtP P glob e) : ExtP P glob (extC g d e) := by
  intro f xs r hr
  unfold extC at hr
  split at hr
  · rename_i hf; subst hf; exact h xs r hr
  · exact he f xs r hr

/-- A pure call whose answer is known. -/
theorem Ci_ext {c : Cfg} {f : FuncId} {args : List V} {h : Heap} {r : CRes} (hp : c.pure f = true) (hc : V.closed.closedL args = true) (he : c.ext f (V.norm.normL args) = some r) : Ci c (.func (.func f) [] []) args h = some (r, h) := by
  rw [Ci_eq]
  simp [callS, hp, handV, hc, he]

/-- A call of a function that shares the heap. -/
theorem Ci_fun {c : Cfg} {f : FuncId} {first cap args : List V} {h : Heap} (hp : c.pure f = false) : Ci c (.func (.func f) first cap) args h = bodyS c (Ei c) (Di c) f (first ++ args ++ cap) h := by
  rw [Ci_eq]
  simp [callS, hp]

/-! ### Values in use -/
def ints (l : List Int) : List V := l.map (V.int .i64)
@[simp] theorem ints_length (l : List Int) : (ints l).length = l.length := by simp [ints]
@[simp] theorem ints_nil : ints [] = [] := rfl
@[simp] theorem ints_cons (x : Int) (l : List Int) : ints (x :: l) = .int .i64 x :: ints l := rfl
theorem ints_append (a b : List Int) : ints (a ++ b) = ints a ++ ints b := by simp [ints]
theorem ints_drop (l : List Int) (i : Nat) : (ints l).drop i = ints (l.drop i) := by simp [ints, List.map_drop]
theorem ints_take (l : List Int) (i : Nat) : (ints l).take i = ints (l.take i) := by simp [ints, List.map_take]
theorem ints_inj : ∀ {a b : List Int}, ints a = ints b → a = b
  | [], [], _ => rfl
  | [], _ :: _, h => by simp at h
  | _ :: _, [], h => by simp at h
  | x :: a, y :: b, h => by simp only [ints_cons, List.cons.injEq, V.int.injEq, true_and] at h; rw [h.1, ints_inj h.2]
@[simp] theorem closed_ints (l : List Int) : V.closed.closedL (ints l) = true := by
  induction l with
  | nil => rfl
  | cons x l ih => simp [V.closed.closedL, V.closed, ih]
@[simp] theorem norm_ints (l : List Int) : V.norm.normL (ints l) = ints l := by
  induction l with
  | nil => rfl
  | cons x l ih => simp [V.norm.normL, V.norm, ih]

theorem killS_true {c : Cfg} (h : c.kill = true) (b : Code) (s : St) : killS c b s = { s with t := killT (killSet b) s.t } := by simp [killS, h]

end Go.Ab
