/- More of the walk's rules: blocks, made slices, handing over, calls that share the heap. -/
import Derived.Test.YtdfpmhgfmmcopaaDoorAbsGo
set_option linter.unusedVariables false
set_option linter.unusedSimpArgs false
set_option linter.unusedSectionVars false
set_option linter.deprecated false
namespace Go.Ab
set_option maxRecDepth 100000
@[simp] theorem lst_get {α : Type} (r : List α) (b : α) : (r ++ [b])[r.length]? = some b := by simp
@[simp] theorem lst_set {α : Type} (r : List α) (b x : α) : (r ++ [b]).set r.length x = r ++ [x] := by simp
@[simp] theorem foldN_max2 (k k' : IntKind) (a b : Int) : foldN .max (.int k a) [.int k' b] = some (.int k (max a b)) := by
  simp only [foldN, maxN]
  congr 2
  by_cases h : b > a
  · rw [if_pos h]; omega
  · rw [if_neg h]; omega
def idxRow (cs : List V) (n : Nat) (i : Int) : Option Nat → Option V
  | some sz => if 0 ≤ i ∧ i.toNat < n ∧ i.toNat * sz < cs.length then some (.rptr (cs.drop (i.toNat * sz))) else none
  | none => none
attribute [simp] idxRow
@[simp] theorem indexAddr_raw {P : Program} {t : TypeId} {nl f : Bool} {cs : List V} {n : Nat} {tok : Option Nat} {k : IntKind} {i : Int} : indexAddrV P t (.row nl f cs n tok) (.int k i) = idxRow cs n i (esz P t) := by
  unfold indexAddrV idxRow esz
  simp only [intOf?]
  cases elemOfSlice P t with
  | none => rfl
  | some e => simp only [Option.bind_some]; cases szO P e <;> rfl
/-- What a call that shares the heap comes to. -/
def Fout (c : Cfg) (rs : List ResultVar) (r : CRes) (h' : Heap) (ax : Ax) (s : St) : Prop := finS c rs (some (ax, s)) = some (r, h')
@[simp] theorem Fout_normal (c : Cfg) (rs : List ResultVar) (r : CRes) (h' : Heap) (s : St) : Fout c rs r h' .normal s = (finM c rs s .ret = some (r, h')) := rfl
@[simp] theorem Fout_ret (c : Cfg) (rs : List ResultVar) (r : CRes) (h' : Heap) (s : St) : Fout c rs r h' .ret s = (finM c rs s .ret = some (r, h')) := rfl
attribute [irreducible] Fout
theorem Ci_fun_wp {c : Cfg} {f : FuncId} {fn : Func} {code : Code} {first cap args : List V} {h h' : Heap} {r : CRes} (hp : c.pure f = false) (hf : c.P.funcs[f]? = some fn) (hb : fn.body = some code) (hl : (first ++ args ++ cap).length ≤ fn.ntmps)
    (hw : wp c code ⟨tab fn.ntmps (lf (first ++ args ++ cap)), h, [], .no, none⟩ [] (Fout c fn.results.toList r h')) : Ci c (.func (.func f) first cap) args h = some (r, h') := by
  rw [Ci_fun hp, bodyS_fin c hf hb, initT_tab hl]
  unfold wp Fout at hw
  cases hx : Ei c code ⟨tab fn.ntmps (lf (first ++ args ++ cap)), h, [], .no, none⟩ with
  | none => rw [hx] at hw; exact hw.elim
  | some y => obtain ⟨ax, s⟩ := y; rw [hx] at hw; exact hw
theorem bs_left {l r : List Blk} {i : Nat} (h : i < l.length) : (l ++ r)[i]? = l[i]? := List.getElem?_append_left h
theorem app_at {l L : List Blk} {j : Nat} : (l ++ L)[l.length + j]? = L[j]? := by rw [List.getElem?_append_right (by omega)]; congr 1; omega
theorem app_at0 {l L : List Blk} : (l ++ L)[l.length]? = L[0]? := by rw [List.getElem?_append_right (by omega)]; congr 1; omega
theorem app_set {l L : List Blk} {j : Nat} {x : Blk} : (l ++ L).set (l.length + j) x = l ++ L.set j x := by rw [List.set_append_right _ _ (by omega)]; congr 2; omega
theorem app_set0 {l L : List Blk} {x : Blk} : (l ++ L).set l.length x = l ++ L.set 0 x := by rw [List.set_append_right _ _ (by omega)]; congr 2; omega
theorem app_at' {l L : List Blk} {n j : Nat} (h : l.length = n) : (l ++ L)[n + j]? = L[j]? := by subst h; exact app_at
theorem app_at0' {l L : List Blk} {n : Nat} (h : l.length = n) : (l ++ L)[n]? = L[0]? := by subst h; exact app_at0
theorem app_set' {l L : List Blk} {n j : Nat} {x : Blk} (h : l.length = n) : (l ++ L).set (n + j) x = l ++ L.set j x := by subst h; exact app_set
theorem app_set0' {l L : List Blk} {n : Nat} {x : Blk} (h : l.length = n) : (l ++ L).set n x = l ++ L.set 0 x := by subst h; exact app_set0
theorem set_left {l r : List Blk} {i : Nat} {x : Blk} (h : i < l.length) : (l ++ r).set i x = l.set i x ++ r := List.set_append_left _ _ h
theorem set_at {l : List Blk} {i : Nat} {x : Blk} (h : i < l.length) : (l.set i x)[i]? = some x := List.getElem?_set_self h
theorem set_ne {l : List Blk} {i j : Nat} {x : Blk} (h : ¬ i = j) : (l.set i x)[j]? = l[j]? := List.getElem?_set_ne h
theorem append_Rn {P : Program} {α : Type} {E : α → List V} {sz : Nat} {h : Heap} {fl : Fl} {l m : List α} [hE : EncC E sz] {ts : Array TypeId} {fl2 : Fl} (ht : apok P ts sz = true) (hm : ¬ m = []) (ha : App h.ts sz fl) (hl : l.length + m.length ≤ 4294967296) :
    appendV P h false ts (R fl E l) (R fl2 E m) = some (R (false, false, some h.ts.length) E (l ++ m), bump h fl.2.2 sz) := by
  obtain ⟨b, h1, h2⟩ := apok_apz ht
  exact append_R h1 hm ha hl h2
theorem eqV_Rn {P : Program} {α : Type} {E : α → List V} {sz : Nat} [hE : EncC E sz] {t : TypeId} {b : Bool} {l : List α} (h : slcD (P.underlying t) = true) (hl : ¬ l = []) : eqV P b t (R fl0 E l) (.row true true [] 0 none) = some false := by
  unfold R
  rw [eqV_rn h]
  have : rows E l ≠ [] := by
    intro e
    have h1 := rows_length (E := E) l
    rw [e] at h1
    have h2 := List.length_pos_iff.2 hl
    have h3 := Nat.mul_pos h2 hE.pos
    simp at h1; omega
  cases hr : rows E l with
  | nil => exact absurd hr this
  | cons x r => rfl
/-- Cells that reach no block. -/
class EncP {α : Type} (E : α → List V) : Prop where
  reach : ∀ x g, reach1.reach1L g (E x) = []
  pure : ∀ x g h, pure1.pure1L g h (E x) = some (E x)
instance : EncP eI := ⟨fun _ _ => rfl, fun _ _ _ => rfl⟩
instance : EncP eS := ⟨fun _ _ => rfl, fun _ _ _ => rfl⟩
instance : EncP eB := ⟨fun _ _ => rfl, fun _ _ _ => rfl⟩
instance : EncP eBo := ⟨fun _ _ => rfl, fun _ _ _ => rfl⟩
theorem reach1L_append (g : Nat → List Nat) : ∀ a b : List V, reach1.reach1L g (a ++ b) = reach1.reach1L g a ++ reach1.reach1L g b
  | [], b => by simp [reach1.reach1L]
  | x :: a, b => by simp [reach1.reach1L, reach1L_append g a b]
theorem pure1L_append (g : V → Option V) (h : Heap) : ∀ (a b a' b' : List V), pure1.pure1L g h a = some a' → pure1.pure1L g h b = some b' → pure1.pure1L g h (a ++ b) = some (a' ++ b')
  | [], b, a', b', h1, h2 => by simp [pure1.pure1L] at h1; subst h1; simpa using h2
  | x :: a, b, a', b', h1, h2 => by
    simp only [pure1.pure1L] at h1
    cases hx : pure1 g h x with
    | none => rw [hx] at h1; simp at h1
    | some y =>
      rw [hx] at h1
      cases ha : pure1.pure1L g h a with
      | none => rw [ha] at h1; simp at h1
      | some ys =>
        rw [ha] at h1
        simp only [Option.some.injEq] at h1
        subst h1
        simp [pure1.pure1L, hx, pure1L_append g h a b ys b' ha h2]
theorem rows_reach {α : Type} {E : α → List V} [hE : EncP E] (g : Nat → List Nat) : ∀ l : List α, reach1.reach1L g (rows E l) = []
  | [] => rfl
  | x :: l => by rw [rows_cons, reach1L_append, hE.reach, rows_reach g l]; rfl
theorem rows_pure {α : Type} {E : α → List V} [hE : EncP E] (g : V → Option V) (h : Heap) : ∀ l : List α, pure1.pure1L g h (rows E l) = some (rows E l)
  | [] => rfl
  | x :: l => by rw [rows_cons]; exact pure1L_append g h _ _ _ _ (hE.pure x g h) (rows_pure g h l)
@[simp] theorem R_reach {α : Type} {E : α → List V} [hE : EncP E] (g : Nat → List Nat) (fl : Fl) (l : List α) : reach1 g (R fl E l) = [] := by
  unfold R; rw [reach1]; exact rows_reach g l
@[simp] theorem R_pure {α : Type} {E : α → List V} [hE : EncP E] (g : V → Option V) (h : Heap) (fl : Fl) (l : List α) : pure1 g h (R fl E l) = some (R fl0 E l) := by
  unfold R; rw [pure1, rows_pure g h l]; rfl
instance {α : Type} {E : α → List V} [EncP E] : EncP (eR E) := ⟨fun x g => by simp [eR, reach1.reach1L], fun x g h => by simp [eR, pure1.pure1L]⟩
theorem flat_reach {α : Type} {E : α → List V} [hE : EncP E] (h : Heap) (n : Nat) (l : List α) : (rows E l).flatMap (reachN h n) = [] := by
  cases n with
  | zero => induction rows E l with
    | nil => rfl
    | cons x r ih => simp [reachN]
  | succ n =>
    have key : ∀ cs : List V, cs.flatMap (reachN h (n + 1)) = reach1.reach1L (fun a => a :: (match h.bs[a]? with | some (.cells cs) | some (.frozen cs) => cs.flatMap (reachN h n) | _ => [])) cs := by
      intro cs
      induction cs with
      | nil => rfl
      | cons x r ih => rw [List.flatMap_cons, ih]; rfl
    rw [key, rows_reach]
theorem map_pure {α : Type} {E : α → List V} [hE : EncP E] (h : Heap) (n : Nat) (l : List α) : pure1.mapO (pureN h (n + 1)) (rows E l) = some (rows E l) := by
  have key : ∀ cs : List V, pure1.mapO (pureN h (n + 1)) cs = pure1.pure1L (pureN h n) h cs := by
    intro cs
    induction cs with
    | nil => rfl
    | cons x r ih => simp only [pure1.mapO, pure1.pure1L, ih]; rfl
  rw [key, rows_pure]
/-- a row and a made slice, handed over -/
theorem handV_RS {α β : Type} {E : α → List V} {E' : β → List V} {sz : Nat} [EncP E] [EncC E 3] [EncP E'] [hE' : EncC E' sz] {h : Heap} {fl : Fl} {l : List α} {L : List β} {a : Nat} (hb : h.bs[a]? = some (.cells (rows E' L))) :
    handV h [R fl E l, .slice a 0 L.length sz] = some ([R fl0 E l, R fl0 E' L], freezeB h a) := by
  have hc : V.closed.closedL [R fl E l, V.slice a 0 L.length sz] = false := by simp [V.closed.closedL, V.closed]
  unfold handV
  rw [if_neg (by rw [hc]; decide)]
  have hr : [R fl E l, V.slice a 0 L.length sz].flatMap (reachN h 8) = [a] := by
    simp only [List.flatMap_cons, List.flatMap_nil, List.append_nil]
    have h1 : reachN h 8 (R fl E l) = [] := R_reach _ _ _
    have h2 : reachN h 8 (V.slice a 0 L.length sz) = [a] := by
      show a :: (match h.bs[a]? with | some (.cells cs) | some (.frozen cs) => cs.flatMap (reachN h 7) | _ => []) = [a]
      rw [hb]; simp only; rw [flat_reach]
    rw [h1, h2]; rfl
  rw [hr]
  have ha : a < h.bs.length := (List.getElem?_eq_some_iff.1 hb).1
  have hf : freezeAll h [a] = freezeB h a := rfl
  have hfb : (freezeB h a).bs[a]? = some (.frozen (rows E' L)) := by
    unfold freezeB; rw [hb]; simp [ha]
  rw [hf]
  have p1 : pureN (freezeB h a) 8 (R fl E l) = some (R fl0 E l) := R_pure _ _ _ _
  have p2 : pureN (freezeB h a) 8 (V.slice a 0 L.length sz) = some (R fl0 E' L) := by
    show pure1 (pureN (freezeB h a) 7) (freezeB h a) (V.slice a 0 L.length sz) = _
    rw [pure1, hfb]
    simp only [Nat.zero_add, List.drop_zero]
    rw [if_pos (by rw [rows_length]; exact Nat.le_refl _), List.take_of_length_le (by rw [rows_length]; exact Nat.le_refl _), map_pure]
    rfl
  simp [pure1.mapO, p1, p2]
@[simp] theorem lenV_sl {P : Program} {h : Heap} {t : TypeId} {a o n s : Nat} : lenV P h t (.slice a o n s) = lenD n (P.underlying t) := by
  unfold lenV lenD
  cases P.underlying t with
  | none => rfl
  | some d => cases d <;> rfl
@[simp] theorem indexAddr_sl {P : Program} {t : TypeId} {a o n s : Nat} {k : IntKind} {i : Int} (he : esz P t = some s) : indexAddrV P t (.slice a o n s) (.int k i) = if 0 ≤ i ∧ i.toNat < n then some (.ptr a (o + i.toNat * s)) else none := by
  unfold esz at he
  obtain ⟨e, h1, h2⟩ := Option.bind_eq_some_iff.1 he
  unfold indexAddrV
  simp only [intOf?, h1, h2, true_and]
theorem rowsI_set (L : List Int) (i : Nat) (x : Int) : (rows eI L).set i (.int .i64 x) = rows eI (L.set i x) := by
  induction L generalizing i with
  | nil => simp
  | cons y L ih => cases i with
    | zero => rfl
    | succ i => simp only [rows_cons, List.set_cons_succ]; show .int .i64 y :: (rows eI L).set i _ = _; rw [ih]; rfl
end Go.Ab
