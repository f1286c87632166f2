/- How an abstract value, heap and state stand for the machine's: the relation and its small laws. -/
import Derived.Test.YtdfpmhgfmmcopaaDoorAbsDef
import Derived.Below
set_option linter.unusedVariables false
set_option linter.unusedSimpArgs false
set_option linter.unusedSectionVars false
set_option linter.deprecated false
namespace Go.Ab
open Go.RowKit (Below)

structure TokI where
  B : Nat
  e : Nat
  m : Nat
  sz : Nat

inductive Own where
  | blk (a : Nat)
  | tok (k : Nat)
  deriving DecidableEq

/-- The ghost: cells that never change; where the abstract blocks and tokens lie; who owns a block. -/
structure Gh where
  G : Nat → Nat → Option Value
  mu : Nat → Option Nat
  ta : Nat → Option TokI
  be : Nat → Option Own
  /-- how many cells of an abstract block's place may be written -/
  cp : Nat → Nat

structure Gh.le (g g' : Gh) : Prop where
  G : ∀ B o v, g.G B o = some v → g'.G B o = some v
  mu : ∀ a B, g.mu a = some B → g'.mu a = some B
  ta : ∀ k t, g.ta k = some t → g'.ta k = some t
  cp : ∀ a B, g.mu a = some B → g'.cp a = g.cp a

theorem Gh.le.refl (g : Gh) : g.le g := ⟨fun _ _ _ h => h, fun _ _ h => h, fun _ _ h => h, fun _ _ _ => rfl⟩
theorem Gh.le.trans {a b c : Gh} (h : a.le b) (k : b.le c) : a.le c :=
  ⟨fun B o v x => k.G B o v (h.G B o v x), fun x B y => k.mu x B (h.mu x B y), fun x B y => k.ta x B (h.ta x B y), fun a B x => (k.cp a B (h.mu a B x)).trans (h.cp a B x)⟩

/-- The ghost with nothing but the cells that never change. -/
def Gh.shut (g : Gh) : Gh := ⟨g.G, fun _ => none, fun _ => none, fun _ => none, fun _ => 0⟩
theorem Gh.shut_le (g : Gh) : g.shut.le g := ⟨fun _ _ _ h => h, fun _ _ h => (by cases h), fun _ _ h => (by cases h), fun _ _ h => (by cases h)⟩
theorem Gh.le.shut {g g' : Gh} (h : g.le g') : g.shut.le g'.shut := ⟨h.G, fun _ _ h => (by cases h), fun _ _ h => (by cases h), fun _ _ h => (by cases h)⟩

mutual
def Rep (g : Gh) : V → Value → Prop
  | .undef, _ => True
  | .bool b, v => v = .bool b
  | .int k n, v => v = .int k n
  | .str s, v => v = .string ⟨s.toArray⟩
  | .row nl fl cs n tok, v => ∃ a cap, v = .slice a n cap ∧ n ≤ cap ∧ (fl = true → cap = n) ∧
      (nl = true → a = none ∧ cap = 0) ∧ (a = none → cap = 0) ∧ (a = none → cs = [] ∧ tok = none) ∧
      (∀ A, a = some A → (cs ≠ [] → A.spot = none) ∧ RepC g cs A.block A.off ∧
        ∀ k, tok = some k → ∃ t, g.ta k = some t ∧ (t.sz = 0 ∨ (A.spot = none ∧ t.B = A.block ∧ t.e = A.off + cs.length ∧ cap = n + t.m)))
  | .rptr cs, v => ∃ B o, v = .pointer (some ⟨B, o, none⟩) ∧ RepC g cs B o
  | .ptr a off, v => ∃ B, g.mu a = some B ∧ v = .pointer (some ⟨B, off, none⟩)
  | .nilptr, v => v = .pointer none
  | .slice a off len sz, v => ∃ B cap, g.mu a = some B ∧ v = .slice (some ⟨B, off, none⟩) len cap ∧ len ≤ cap ∧ off + cap * sz ≤ g.cp a
  | .map a, v => ∃ B, g.mu a = some B ∧ v = .map (some B)
  | .nilmap, v => v = .map none
  | .func fn a b, v => ∃ a' b', v = .func fn a' b' ∧ RepL g a a'.toList ∧ RepL g b b'.toList
  | .nilfunc, v => v = .nilFunc
  | .yld a, v => ∃ B, g.mu a = some B ∧ v = .func (.yield B) #[] #[]
  | .iface t x, v => ∃ y, v = .iface t y ∧ Rep g x y
  | .niliface, v => v = .nilIface
  | .agg cs, v => ∃ vs, v = .agg vs ∧ RepL g cs vs.toList
  | .tuple cs, v => ∃ vs, v = .tuple vs ∧ RepL g cs vs.toList
def RepL (g : Gh) : List V → List Value → Prop
  | [], vs => vs = []
  | x :: xs, vs => ∃ y ys, vs = y :: ys ∧ Rep g x y ∧ RepL g xs ys
def RepC (g : Gh) : List V → Nat → Nat → Prop
  | [], _, _ => True
  | x :: xs, B, o => (∃ v, g.G B o = some v ∧ Rep g x v ∧ x.one = true) ∧ RepC g xs B (o + 1)
end

mutual
theorem Rep.mono {g g' : Gh} (h : g.le g') : ∀ (x : V) (v : Value), Rep g x v → Rep g' x v
  | .undef, _, _ => by simp [Rep]
  | .bool b, v, r => by simpa [Rep] using r
  | .int k n, v, r => by simpa [Rep] using r
  | .str s, v, r => by simpa [Rep] using r
  | .row nl fl cs n tok, v, r => by
    simp only [Rep] at r ⊢
    obtain ⟨a, cap, h1, h2, h3, h4, h5, h6, h7⟩ := r
    refine ⟨a, cap, h1, h2, h3, h4, h5, h6, fun A hA => ?_⟩
    obtain ⟨s1, s2, s3⟩ := h7 A hA
    refine ⟨s1, RepC.mono h cs _ _ s2, fun k hk => ?_⟩
    obtain ⟨t, t1, t2⟩ := s3 k hk
    exact ⟨t, h.ta _ _ t1, t2⟩
  | .rptr cs, v, r => by
    simp only [Rep] at r ⊢
    obtain ⟨B, o, h1, h2⟩ := r
    exact ⟨B, o, h1, RepC.mono h cs _ _ h2⟩
  | .ptr a off, v, r => by
    simp only [Rep] at r ⊢
    obtain ⟨B, h1, h2⟩ := r
    exact ⟨B, h.mu _ _ h1, h2⟩
  | .nilptr, v, r => by simpa [Rep] using r
  | .slice a off len sz, v, r => by
    simp only [Rep] at r ⊢
    obtain ⟨B, cap, h1, h2, h3, h4⟩ := r
    exact ⟨B, cap, h.mu _ _ h1, h2, h3, by rw [h.cp _ _ h1]; exact h4⟩
  | .map a, v, r => by
    simp only [Rep] at r ⊢
    obtain ⟨B, h1, h2⟩ := r
    exact ⟨B, h.mu _ _ h1, h2⟩
  | .nilmap, v, r => by simpa [Rep] using r
  | .func fn a b, v, r => by
    simp only [Rep] at r ⊢
    obtain ⟨a', b', h1, h2, h3⟩ := r
    exact ⟨a', b', h1, RepL.mono h a _ h2, RepL.mono h b _ h3⟩
  | .nilfunc, v, r => by simpa [Rep] using r
  | .yld a, v, r => by
    simp only [Rep] at r ⊢
    obtain ⟨B, h1, h2⟩ := r
    exact ⟨B, h.mu _ _ h1, h2⟩
  | .iface t x, v, r => by
    simp only [Rep] at r ⊢
    obtain ⟨y, h1, h2⟩ := r
    exact ⟨y, h1, Rep.mono h x y h2⟩
  | .niliface, v, r => by simpa [Rep] using r
  | .agg cs, v, r => by
    simp only [Rep] at r ⊢
    obtain ⟨vs, h1, h2⟩ := r
    exact ⟨vs, h1, RepL.mono h cs _ h2⟩
  | .tuple cs, v, r => by
    simp only [Rep] at r ⊢
    obtain ⟨vs, h1, h2⟩ := r
    exact ⟨vs, h1, RepL.mono h cs _ h2⟩
theorem RepL.mono {g g' : Gh} (h : g.le g') : ∀ (xs : List V) (vs : List Value), RepL g xs vs → RepL g' xs vs
  | [], vs, r => by simpa [RepL] using r
  | x :: xs, vs, r => by
    simp only [RepL] at r ⊢
    obtain ⟨y, ys, h1, h2, h3⟩ := r
    exact ⟨y, ys, h1, Rep.mono h x y h2, RepL.mono h xs ys h3⟩
theorem RepC.mono {g g' : Gh} (h : g.le g') : ∀ (xs : List V) (B o : Nat), RepC g xs B o → RepC g' xs B o
  | [], _, _, _ => by simp [RepC]
  | x :: xs, B, o, r => by
    simp only [RepC] at r ⊢
    obtain ⟨⟨v, h1, h2, h3⟩, h4⟩ := r
    exact ⟨⟨v, h.G _ _ _ h1, Rep.mono h x v h2, h3⟩, RepC.mono h xs B (o + 1) h4⟩
end

/-! ### Lists -/
theorem RepL.nil (g : Gh) : RepL g [] [] := by simp [RepL]
theorem RepL.cons {g : Gh} {x : V} {v : Value} {xs : List V} {vs : List Value} (h : Rep g x v) (k : RepL g xs vs) : RepL g (x :: xs) (v :: vs) := by
  simp only [RepL]; exact ⟨v, vs, rfl, h, k⟩
theorem RepL.cons_iff {g : Gh} {x : V} {xs : List V} {v : Value} {vs : List Value} : RepL g (x :: xs) (v :: vs) ↔ Rep g x v ∧ RepL g xs vs := by
  simp only [RepL]
  constructor
  · rintro ⟨y, ys, h, h1, h2⟩; simp only [List.cons.injEq] at h; obtain ⟨rfl, rfl⟩ := h; exact ⟨h1, h2⟩
  · rintro ⟨h1, h2⟩; exact ⟨v, vs, rfl, h1, h2⟩
theorem RepL.nil_iff {g : Gh} {vs : List Value} : RepL g [] vs ↔ vs = [] := by simp [RepL]

theorem RepL.iff {g : Gh} : ∀ {xs : List V} {vs : List Value}, RepL g xs vs ↔ xs.length = vs.length ∧ ∀ (i : Nat) (x : V), xs[i]? = some x → ∃ v, vs[i]? = some v ∧ Rep g x v
  | [], vs => by
    rw [RepL.nil_iff]
    constructor
    · rintro rfl; simp
    · rintro ⟨h, _⟩; exact List.eq_nil_of_length_eq_zero h.symm
  | x :: xs, [] => by simp [RepL]
  | x :: xs, v :: vs => by
    rw [RepL.cons_iff, RepL.iff]
    constructor
    · rintro ⟨h1, h2, h3⟩
      refine ⟨by simp [h2], fun i y hy => ?_⟩
      cases i with
      | zero => simp at hy; subst hy; exact ⟨v, by simp, h1⟩
      | succ i => simp at hy; simpa using h3 i y hy
    · rintro ⟨h1, h2⟩
      refine ⟨?_, by simpa using h1, fun i y hy => ?_⟩
      · obtain ⟨v', hv, hr⟩ := h2 0 x (by simp); simp at hv; subst hv; exact hr
      · obtain ⟨v', hv, hr⟩ := h2 (i + 1) y (by simpa using hy); exact ⟨v', by simpa using hv, hr⟩

theorem RepL.length {g : Gh} {xs : List V} {vs : List Value} (h : RepL g xs vs) : xs.length = vs.length := (RepL.iff.1 h).1
theorem RepL.get {g : Gh} {xs : List V} {vs : List Value} (h : RepL g xs vs) {i : Nat} {x : V} (hx : xs[i]? = some x) : ∃ v, vs[i]? = some v ∧ Rep g x v := (RepL.iff.1 h).2 i x hx
theorem RepL.append {g : Gh} : ∀ {xs ys : List V} {vs ws : List Value}, RepL g xs vs → RepL g ys ws → RepL g (xs ++ ys) (vs ++ ws)
  | [], ys, vs, ws, h, k => by rw [RepL.nil_iff] at h; subst h; simpa using k
  | x :: xs, ys, [], ws, h, k => by simp [RepL] at h
  | x :: xs, ys, v :: vs, ws, h, k => by
    rw [RepL.cons_iff] at h
    rw [List.cons_append, List.cons_append, RepL.cons_iff]
    exact ⟨h.1, RepL.append h.2 k⟩
theorem RepL.set {g : Gh} {xs : List V} {vs : List Value} (h : RepL g xs vs) {i : Nat} {x : V} {v : Value} (hx : Rep g x v) : RepL g (xs.set i x) (vs.set i v) := by
  rw [RepL.iff] at h ⊢
  refine ⟨by simp [h.1], fun j y hy => ?_⟩
  rw [List.getElem?_set] at hy ⊢
  split at hy
  · rename_i e
    subst e
    split at hy
    · rename_i hl
      simp only [Option.some.injEq] at hy
      subst hy
      rw [if_pos rfl, if_pos (by rw [← h.1]; exact hl)]
      exact ⟨v, rfl, hx⟩
    · cases hy
  · rename_i e
    rw [if_neg e]
    exact h.2 j y hy
theorem RepL.replicate {g : Gh} {x : V} {v : Value} (h : Rep g x v) : ∀ n, RepL g (List.replicate n x) (List.replicate n v)
  | 0 => by simp [RepL]
  | n + 1 => by rw [List.replicate_succ, List.replicate_succ, RepL.cons_iff]; exact ⟨h, RepL.replicate h n⟩
theorem RepL.take {g : Gh} {xs : List V} {vs : List Value} (h : RepL g xs vs) (n : Nat) : RepL g (xs.take n) (vs.take n) := by
  rw [RepL.iff] at h ⊢
  refine ⟨by simp [h.1], fun i x hx => ?_⟩
  rw [List.getElem?_take] at hx ⊢
  split at hx
  · rename_i hl; rw [if_pos hl]; exact h.2 i x hx
  · cases hx
theorem RepL.drop {g : Gh} {xs : List V} {vs : List Value} (h : RepL g xs vs) (n : Nat) : RepL g (xs.drop n) (vs.drop n) := by
  rw [RepL.iff] at h ⊢
  refine ⟨by simp [h.1], fun i x hx => ?_⟩
  rw [List.getElem?_drop] at hx ⊢
  exact h.2 _ x hx
theorem RepL.map {g : Gh} {α : Type} (f : α → V) (f' : α → Value) (h : ∀ x, Rep g (f x) (f' x)) : ∀ l : List α, RepL g (l.map f) (l.map f')
  | [] => by simp [RepL]
  | x :: l => by rw [List.map_cons, List.map_cons, RepL.cons_iff]; exact ⟨h x, RepL.map f f' h l⟩
theorem RepL.forget {g : Gh} {xs : List V} {vs : List Value} (h : RepL g xs vs) (i : Nat) : RepL g (xs.set i .undef) vs := by
  rw [RepL.iff] at h ⊢
  refine ⟨by simp [h.1], fun j y hy => ?_⟩
  rw [List.getElem?_set] at hy
  split at hy
  · split at hy
    · rename_i e hl
      simp only [Option.some.injEq] at hy
      subst hy
      subst e
      exact ⟨vs[i]'(by rw [← h.1]; exact hl), by simp, by simp [Rep]⟩
    · cases hy
  · exact h.2 j y hy

/-! ### Cells -/
theorem RepC.iff {g : Gh} : ∀ {xs : List V} {B o : Nat}, RepC g xs B o ↔ ∀ (i : Nat) (x : V), xs[i]? = some x → ∃ v, g.G B (o + i) = some v ∧ Rep g x v ∧ x.one = true
  | [], B, o => by simp [RepC]
  | x :: xs, B, o => by
    simp only [RepC]
    rw [RepC.iff]
    constructor
    · rintro ⟨h1, h2⟩ i y hy
      cases i with
      | zero => simp at hy; subst hy; simpa using h1
      | succ i => simp at hy; have := h2 i y hy; rwa [show o + 1 + i = o + (i + 1) by omega] at this
    · intro h
      refine ⟨by simpa using h 0 x (by simp), fun i y hy => ?_⟩
      have := h (i + 1) y (by simpa using hy)
      rwa [show o + 1 + i = o + (i + 1) by omega]
theorem RepC.drop {g : Gh} {xs : List V} {B o : Nat} (h : RepC g xs B o) (n : Nat) : RepC g (xs.drop n) B (o + n) := by
  rw [RepC.iff] at h ⊢
  intro i x hx
  rw [List.getElem?_drop] at hx
  have := h _ x hx
  rwa [show o + n + i = o + (n + i) by omega]
theorem RepC.take {g : Gh} {xs : List V} {B o : Nat} (h : RepC g xs B o) (n : Nat) : RepC g (xs.take n) B o := by
  rw [RepC.iff] at h ⊢
  intro i x hx
  rw [List.getElem?_take] at hx
  split at hx
  · exact h _ x hx
  · cases hx
theorem RepC.append {g : Gh} {xs ys : List V} {B o : Nat} (h : RepC g xs B o) (k : RepC g ys B (o + xs.length)) : RepC g (xs ++ ys) B o := by
  rw [RepC.iff] at h k ⊢
  intro i x hx
  rw [List.getElem?_append] at hx
  split at hx
  · exact h _ x hx
  · rename_i hl
    have := k _ x hx
    rwa [show o + xs.length + (i - xs.length) = o + i by omega] at this

/-- what a value of one cell stands for is a value of one cell -/
theorem one_rep {g : Gh} {x : V} {v : Value} (h : x.one = true) (r : Rep g x v) : v.oneCell' = true := by
  cases x <;> simp [V.one] at h <;> simp only [Rep] at r
  all_goals first
    | (subst r; rfl)
    | (obtain ⟨_, _, rfl, _⟩ := r; rfl)
    | (obtain ⟨_, rfl, _⟩ := r; rfl)
    | (obtain ⟨_, _, rfl⟩ := r; rfl)
    | (obtain ⟨_, _, _, rfl, _⟩ := r; rfl)

theorem one_cells {g : Gh} {x : V} {v : Value} (h : x.one = true) (r : Rep g x v) : v.cells = #[v] := by
  have := one_rep h r
  cases v <;> simp_all [Value.oneCell', Value.cells]

theorem cellsO_rep {g : Gh} {x : V} {v : Value} {cs : List V} (h : x.cellsO = some cs) (r : Rep g x v) :
    RepL g cs v.cells.toList ∧ (∀ c ∈ cs, V.one c = true) := by
  cases x with
  | agg l =>
    simp only [V.cellsO] at h
    split at h
    · rename_i hall
      simp only [Option.some.injEq] at h
      subst h
      simp only [Rep] at r
      obtain ⟨vs, rfl, r⟩ := r
      exact ⟨by simpa [Value.cells] using r, fun c hc => List.all_eq_true.1 hall c hc⟩
    · cases h
  | _ =>
    simp only [V.cellsO] at h
    split at h
    · rename_i h1
      simp only [Option.some.injEq] at h
      subst h
      rw [one_cells h1 r]
      exact ⟨RepL.cons r (RepL.nil g), by simpa using h1⟩
    · cases h

theorem ofVal_rep (g : Gh) (v : Value) : Rep g (ofVal v) v := by
  unfold ofVal
  split <;> simp only [Rep]
  · exact ⟨none, 0, rfl, Nat.le_refl _, by simp, by simp, by simp, by simp, by simp⟩
  · exact ⟨_, rfl, RepL.nil g⟩

theorem ofZero_rep (g : Gh) (v : Value) : RepL g (ofZero v) v.cells.toList := by
  unfold ofZero
  have : ∀ l : List Value, RepL g (l.map ofVal) l := fun l => by
    induction l with
    | nil => simp [RepL]
    | cons x l ih => rw [List.map_cons, RepL.cons_iff]; exact ⟨ofVal_rep g x, ih⟩
  exact this _

end Go.Ab
