/- From a row's reading of the arguments to the simulation, and back to what a row asks. -/
import Derived.Test.YtdfpmhgfmmcopaaDoorAbsReg
import Derived.Deep.DeepHandedRow
import Derived.Carry
import Derived.OpenShut
import Derived.ChangeCalls
set_option linter.unusedVariables false
set_option linter.unusedSimpArgs false
set_option linter.unusedSectionVars false
set_option linter.deprecated false
namespace Go.Ab
open Go.RowKit Go.ChangeShapes

/-- How much a reading holds: what is asked of the count. -/
structure BkOk {H : Type} (bk : DataW H → Nat) : Prop where
  one : ∀ d, 1 ≤ bk d
  str : ∀ s, s.length + 1 ≤ bk (.lit (.string s))
  slice : ∀ e s, (e.map bk).sum + 1 ≤ bk (.slice e s)
  agg : ∀ p, (p.map bk).sum + 1 ≤ bk (.agg p)

/-- What is read as type t is one of α, and stands for it. -/
def Reads (P : Program) (t : TypeId) {α : Type} (ok : α → Prop) (enc : α → List V) (size : α → Nat) : Prop :=
  ∀ (H : Type) (eH : TypeId × Value → H) (bk : DataW H → Nat), BkOk bk → ∀ (w : World) (base : Nat) (sp : Nat → Bool) (held : Bool) (fuel : Nat) (cs : List Value) (x : DataW H × List MemPlace),
    DataW.trod eH P w base sp held fuel t cs = some x → ∀ g : Gh, (∀ B o v, w.cell? ⟨B, o, none⟩ = some v → g.G B o = some v) →
    ∃ a, ok a ∧ RepL g (enc a) cs ∧ (∀ c ∈ enc a, V.one c = true) ∧ cs.length = P.cellsOf t ∧ size a + 1 ≤ bk x.1

section
variable {P : Program} {t e : TypeId}

theorem reads_bool (ht : P.underlying t = some .bool) (hc : P.cellsOf t = 1) : Reads P t (fun _ : Bool => True) (fun b => [.bool b]) (fun _ => 0) := by
  intro H eH bk hbk w base sp held fuel cs x h g hg
  obtain ⟨b, rfl, rfl⟩ := DataW.trod_bool ht h
  exact ⟨b, trivial, RepL.cons (by simp [Rep]) (RepL.nil _), by simp [V.one], by simp [hc], by simpa using hbk.one _⟩
theorem reads_int {k : IntKind} (ht : P.underlying t = some (.int k)) (hc : P.cellsOf t = 1) : Reads P t (fun n : Int => (Lit.int k n).wf = true) (fun n => [.int k n]) (fun _ => 0) := by
  intro H eH bk hbk w base sp held fuel cs x h g hg
  obtain ⟨n, rfl, rfl, hw⟩ := DataW.trod_int ht h
  exact ⟨n, hw, RepL.cons (by simp [Rep]) (RepL.nil _), by simp [V.one], by simp [hc], by simpa using hbk.one _⟩
theorem reads_string (ht : P.underlying t = some .string) (hc : P.cellsOf t = 1) : Reads P t (fun _ : List UInt8 => True) (fun s => [.str s]) (fun s => s.length) := by
  intro H eH bk hbk w base sp held fuel cs x h g hg
  obtain ⟨s, rfl, rfl, _⟩ := DataW.trod_string ht h
  refine ⟨s.data.toList, trivial, RepL.cons (by simp [Rep]) (RepL.nil _), by simp [V.one], by simp [hc], hbk.str _⟩

theorem cell_spot {w : World} {a : Addr} {v : Value} (h : w.cell? a = some v) : a.spot = none := by
  unfold World.cell? at h
  split at h
  · split at h
    · cases h
    · rename_i hs; simpa using hs
  · cases h

theorem cellsGet {w : World} {a : Addr} : ∀ (n s : Nat) (vs : List Value), ((List.range' s n).mapM fun i => w.cell? (a.add i)) = some vs → vs.length = n ∧ ∀ i v, vs[i]? = some v → w.cell? (a.add (s + i)) = some v
  | 0, s, vs, h => by
    simp at h
    subst h
    exact ⟨rfl, fun i v hi => by simp at hi⟩
  | n + 1, s, vs, h => by
    rw [List.range'_succ, List.mapM_cons] at h
    cases h1 : w.cell? (a.add s) with
    | none => simp [h1] at h
    | some u =>
      cases h2 : (List.range' (s + 1) n).mapM fun i => w.cell? (a.add i) with
      | none => simp [h1, h2] at h
      | some us =>
        simp [h1, h2] at h
        subst h
        obtain ⟨k1, k2⟩ := cellsGet n (s + 1) us h2
        refine ⟨by simp [k1], fun i v hi => ?_⟩
        cases i with
        | zero => simp at hi; subst hi; simpa using h1
        | succ i => simp at hi; have := k2 i v hi; rwa [show s + 1 + i = s + (i + 1) by omega] at this

theorem repC_of_cells {w : World} {g : Gh} (hg : ∀ B o v, w.cell? ⟨B, o, none⟩ = some v → g.G B o = some v) {base : Nat} {a : Addr} {n : Nat} {vs : List Value} (h : w.cells? base a n = some vs) {xs : List V} (hr : RepL g xs vs) (ho : ∀ c ∈ xs, V.one c = true) :
    RepC g xs a.block a.off ∧ (xs ≠ [] → a.spot = none) := by
  unfold World.cells? at h
  split at h
  · rw [List.range_eq_range'] at h
    obtain ⟨k1, k2⟩ := cellsGet n 0 vs h
    have hsp : ∀ v, vs[0]? = some v → a.spot = none := by
      intro v hv
      have h1 := k2 0 v hv
      simp only [Nat.zero_add] at h1
      rw [show a.add 0 = a by simp [Addr.add]] at h1
      exact cell_spot h1
    have hne0 : ∀ (i : Nat) (v : Value), vs[i]? = some v → a.spot = none := by
      intro i v hi
      have : 0 < vs.length := by have := (List.getElem?_eq_some_iff.1 hi).1; omega
      exact hsp vs[0] (by simp [this])
    have key : ∀ (i : Nat) (v : Value), vs[i]? = some v → w.cell? ⟨a.block, a.off + i, none⟩ = some v := by
      intro i v hi
      have h1 := k2 i v hi
      obtain ⟨B, o, sp⟩ := a
      have h3 : sp = none := hne0 i v hi
      subst h3
      rw [Nat.zero_add, add_none] at h1
      exact h1
    refine ⟨RepC.iff.2 fun i x hx => ?_, fun hne => ?_⟩
    · obtain ⟨v, hv, hrv⟩ := hr.get hx
      exact ⟨v, hg _ _ _ (key i v hv), hrv, ho x (List.mem_of_getElem? hx)⟩
    · cases xs with
      | nil => exact absurd rfl hne
      | cons x xs =>
        obtain ⟨v, hv, _⟩ := hr.get (i := 0) (x := x) (by simp)
        exact hne0 0 v hv
  · cases h

theorem elems_repC {α : Type} {ok : α → Prop} {enc : α → List V} {size : α → Nat} (he : Reads P e ok enc size) (hpos : P.cellsOf e ≠ 0) {H : Type} {eH : TypeId × Value → H} {bk : DataW H → Nat} (hbk : BkOk bk) {w : World} {base : Nat} {sp : Nat → Bool} {held : Bool} {n : Nat}
    {g : Gh} (hg : ∀ B o v, w.cell? ⟨B, o, none⟩ = some v → g.G B o = some v) {a : Addr} : ∀ (elems : List (DataW H × List MemPlace)) (s : Nat), (s = 0 ∨ P.cellsOf e = 0 ∨ a.spot = none) →
      (∀ i, i < elems.length → (w.cells? base (a.add ((s + i) * P.cellsOf e)) (P.cellsOf e)).bind (DataW.trod eH P w base sp held n e) = elems[i]?) →
      ∃ bs : List α, bs.length = elems.length ∧ (∀ b ∈ bs, ok b) ∧ RepC g (bs.flatMap enc) a.block (a.off + s * P.cellsOf e) ∧ (bs.flatMap enc ≠ [] → s = 0 → a.spot = none) ∧ (bs.map fun y => size y + 1).sum ≤ ((elems.map (·.1)).map bk).sum
  | [], s, _, _ => ⟨[], rfl, by simp, by simp [RepC], by simp, by simp⟩
  | y :: elems, s, hs, h => by
    have h0 := h 0 (by simp)
    simp only [Nat.add_zero, List.getElem?_cons_zero, Option.bind_eq_some_iff] at h0
    obtain ⟨cs, hc, ht⟩ := h0
    obtain ⟨b, hb, hr, ho, hl, hz⟩ := he H eH bk hbk w base sp held n cs y ht g hg
    obtain ⟨k1, k2⟩ := repC_of_cells hg hc hr ho
    have hlen : (enc b).length = P.cellsOf e := by rw [hr.length, hl]
    have hoff : (a.add (s * P.cellsOf e)).block = a.block ∧ (a.add (s * P.cellsOf e)).off = a.off + s * P.cellsOf e := by
      unfold Addr.add
      split
      · rename_i h0; rw [h0]; exact ⟨rfl, rfl⟩
      · exact ⟨rfl, rfl⟩
    rw [hoff.1, hoff.2] at k1
    have hspot : P.cellsOf e ≠ 0 → s = 0 → a.spot = none := by
      intro hz hs0
      have hne : enc b ≠ [] := fun e0 => by rw [e0] at hlen; simp at hlen; omega
      have := k2 hne
      rw [hs0, Nat.zero_mul] at this
      simpa [Addr.add] using this
    obtain ⟨bs, b1, b2, b3, b4, b5⟩ := elems_repC he hpos hbk hg elems (s + 1) (by
      rcases hs with hs | hs | hs
      · by_cases hz : P.cellsOf e = 0
        · exact .inr (.inl hz)
        · exact .inr (.inr (hspot hz hs))
      · exact .inr (.inl hs)
      · exact .inr (.inr hs)) (fun i hi => by
      have := h (i + 1) (by simpa using hi)
      rw [show s + (i + 1) = s + 1 + i by omega] at this
      simpa using this)
    refine ⟨b :: bs, by simp [b1], ?_, ?_, ?_, ?_⟩
    · intro x hx
      rcases List.mem_cons.1 hx with rfl | hx
      · exact hb
      · exact b2 x hx
    · rw [List.flatMap_cons]
      refine k1.append ?_
      rw [hlen]
      rw [show a.off + s * P.cellsOf e + P.cellsOf e = a.off + (s + 1) * P.cellsOf e by rw [Nat.succ_mul]; omega]
      exact b3
    · intro hne hs0
      exact hspot hpos hs0
    · simp only [List.map_cons, List.sum_cons]
      have := b5
      simp only [List.map_map] at this ⊢
      omega

theorem reads_slice {α : Type} {ok : α → Prop} {enc : α → List V} {size : α → Nat} (ht : P.underlying t = some (.slice e)) (hc : P.cellsOf t = 1) (hpos : P.cellsOf e ≠ 0) (he : Reads P e ok enc size) :
    Reads P t (fun x : List α => ∀ y ∈ x, ok y) (fun x => [.row false false (x.flatMap enc) x.length none]) (fun x => (x.map fun y => size y + 1).sum) := by
  intro H eH bk hbk w base sp held fuel cs x h g hg
  rcases DataW.trod_slice ht h with h0 | h0
  · obtain ⟨rfl, rfl⟩ := h0
    exact ⟨[], by simp, RepL.cons (by simp only [Rep]; exact ⟨none, 0, rfl, by simp, by simp, by simp, by simp, by simp, by simp⟩) (RepL.nil _), by simp [V.one], by simp [hc], by simpa using hbk.one _⟩
  · obtain ⟨a, len, cap, elems, rest, n, rfl, rfl, rfl, h1, h2, h3, h4, h5, _, _⟩ := h0
    subst h4
    obtain ⟨bs, b1, b2, b3, b4, b5⟩ := elems_repC he hpos hbk hg elems 0 (.inl rfl) (fun i hi => by rw [Nat.zero_add]; exact h5 i hi)
    refine ⟨bs, b2, RepL.cons ?_ (RepL.nil _), by simp [V.one], by simp [hc], ?_⟩
    · simp only [Rep]
      refine ⟨some a, cap, by rw [b1], by rw [b1]; exact h2, by simp, by simp, by simp, by simp, fun A hA => ?_⟩
      simp only [Option.some.injEq] at hA
      subst hA
      exact ⟨fun hx => b4 hx rfl, by simpa using b3, by simp⟩
    · have := hbk.slice (elems.map (·.1)) (rest.map (·.1))
      simp only at this ⊢
      omega

/-- The fields of a struct from some place on. -/
def ReadsF (P : Program) (fs : List Field) (off T : Nat) {α : Type} (ok : α → Prop) (enc : α → List V) (size : α → Nat) : Prop :=
  ∀ (H : Type) (eH : TypeId × Value → H) (bk : DataW H → Nat), BkOk bk → ∀ (w : World) (base : Nat) (sp : Nat → Bool) (held : Bool) (fuel : Nat) (cs : List Value) (xs : List (DataW H × List MemPlace)), cs.length = T →
    xs.length = fs.length → (∀ (i : Nat) (f : Field), fs[i]? = some f → DataW.trod eH P w base sp held fuel f.type ((cs.drop f.offset).take (P.cellsOf f.type)) = xs[i]?) → ∀ g : Gh, (∀ B o v, w.cell? ⟨B, o, none⟩ = some v → g.G B o = some v) →
    ∃ a, ok a ∧ RepL g (enc a) (cs.drop off) ∧ (∀ c ∈ enc a, V.one c = true) ∧ size a + fs.length ≤ ((xs.map (·.1)).map bk).sum

theorem readsF_nil (T : Nat) : ReadsF P [] T T (fun _ : Unit => True) (fun _ => []) (fun _ => 0) := by
  intro H eH bk hbk w base sp held fuel cs xs hl hx h g hg
  refine ⟨(), trivial, ?_, by simp, by simp⟩
  rw [List.drop_eq_nil_of_le (by omega)]
  exact RepL.nil _

theorem readsF_cons {α β : Type} {ok : α → Prop} {enc : α → List V} {size : α → Nat} {ok' : β → Prop} {enc' : β → List V} {size' : β → Nat} {f : Field} {fs : List Field} {off T : Nat} (ho : f.offset = off) (hf : Reads P f.type ok enc size)
    (hr : ReadsF P fs (off + P.cellsOf f.type) T ok' enc' size') : ReadsF P (f :: fs) off T (fun x : α × β => ok x.1 ∧ ok' x.2) (fun x => enc x.1 ++ enc' x.2) (fun x => size x.1 + size' x.2) := by
  intro H eH bk hbk w base sp held fuel cs xs hl hx h g hg
  cases xs with
  | nil => simp at hx
  | cons y xs =>
    have h0 := h 0 f (by simp)
    rw [ho, List.getElem?_cons_zero] at h0
    obtain ⟨a, a1, a2, a3, a4, a5⟩ := hf H eH bk hbk w base sp held fuel _ y h0 g hg
    obtain ⟨b, b1, b2, b3, b4⟩ := hr H eH bk hbk w base sp held fuel cs xs hl (by simpa using hx) (fun i f' hi => by
      have := h (i + 1) f' (by simpa using hi)
      simpa using this) g hg
    refine ⟨(a, b), ⟨a1, b1⟩, ?_, ?_, ?_⟩
    · have e : cs.drop off = (cs.drop off).take (P.cellsOf f.type) ++ cs.drop (off + P.cellsOf f.type) := by
        rw [← List.drop_drop, List.take_append_drop]
      rw [e]
      exact a2.append b2
    · intro c hc
      rcases List.mem_append.1 hc with hc | hc
      · exact a3 c hc
      · exact b3 c hc
    · simp only [List.map_cons, List.sum_cons, List.length_cons] at b4 ⊢
      omega

theorem reads_struct {α : Type} {ok : α → Prop} {enc : α → List V} {size : α → Nat} {fs : Array Field} (ht : P.underlying t = some (.struct fs)) (hf : ReadsF P fs.toList 0 (P.cellsOf t) ok enc size) : Reads P t ok enc size := by
  intro H eH bk hbk w base sp held fuel cs x h g hg
  obtain ⟨xs, n, rfl, rfl, h2, h3, h4⟩ := DataW.trod_struct ht h
  obtain ⟨a, a1, a2, a3, a4⟩ := hf H eH bk hbk w base sp held n cs xs h2 (by simpa using h3) (fun i f hi => h4 i f (by simpa using hi)) g hg
  refine ⟨a, a1, by simpa using a2, a3, h2, ?_⟩
  have := hbk.agg (xs.map (·.1))
  simp only at this ⊢
  omega

theorem reads_congr {α β : Type} {ok : α → Prop} {enc : α → List V} {size : α → Nat} {ok' : β → Prop} {enc' : β → List V} {size' : β → Nat} (h : Reads P t ok enc size) (hx : ∀ a, ok a → ∃ b, ok' b ∧ enc' b = enc a ∧ size' b ≤ size a) : Reads P t ok' enc' size' := by
  intro H eH bk hbk w base sp held fuel cs x hh g hg
  obtain ⟨a, a1, a2, a3, a4, a5⟩ := h H eH bk hbk w base sp held fuel cs x hh g hg
  obtain ⟨b, b1, b2, b3⟩ := hx a a1
  exact ⟨b, b1, by rw [b2]; exact a2, by rw [b2]; exact a3, a4, by omega⟩

/-! ### Arguments -/
def isAggD : Option TypeDesc → Bool
  | some (.struct _) | some (.array _ _) => true
  | _ => false

def ReadsA (P : Program) (ts : List TypeId) {α : Type} (ok : α → Prop) (enc : α → List V) (size : α → Nat) : Prop :=
  ∀ (H : Type) (eH : TypeId × Value → H) (bk : DataW H → Nat), BkOk bk → ∀ (w : World) (base0 base : Nat) (sp : Nat → Bool) (held : Bool) (args : List Value) (ds : List (DataW H)) (ps : List MemPlace),
    DataW.TrodAll eH P w base sp held ts args ds ps → (∀ (j : Nat) t v, ts[j]? = some t → args[j]? = some v → Value.okWide P w .any base0 t v) → ∀ g : Gh, (∀ B o v, w.cell? ⟨B, o, none⟩ = some v → g.G B o = some v) →
    ∃ a, ok a ∧ RepL g (enc a) args ∧ size a + ts.length ≤ (ds.map bk).sum

theorem readsA_nil : ReadsA P [] (fun _ : Unit => True) (fun _ => []) (fun _ => 0) := by
  intro H eH bk hbk w base0 base sp held args ds ps h hv g hg
  obtain ⟨rfl, rfl, rfl⟩ := trodAll_nil h
  exact ⟨(), trivial, RepL.nil _, by simp⟩

theorem okWide_cells {w : World} {base : Nat} {v : Value} (h : Value.okWide P w .any base t v) (ha : isAggD (P.underlying t) = false) : v.cells = #[v] := by
  cases v <;> try rfl
  exfalso
  rename_i vs
  unfold Value.okWide at h
  cases hu : P.underlying t with
  | none => simp [hu, Cell.okWide, Cell.ok] at h
  | some d => cases d <;> simp [hu, isAggD] at ha <;> simp [hu, Cell.okWide, Cell.ok] at h

theorem readsA_cons {α β : Type} {ok : α → Prop} {e : α → V} {size : α → Nat} {ok' : β → Prop} {enc' : β → List V} {size' : β → Nat} {ts : List TypeId} (ha : isAggD (P.underlying t) = false) (hf : Reads P t ok (fun a => [e a]) size)
    (hr : ReadsA P ts ok' enc' size') : ReadsA P (t :: ts) (fun x : α × β => ok x.1 ∧ ok' x.2) (fun x => e x.1 :: enc' x.2) (fun x => size x.1 + size' x.2) := by
  intro H eH bk hbk w base0 base sp held args ds ps h hv g hg
  obtain ⟨v, vs, d, ds, p, q, rfl, rfl, rfl, h0, h1⟩ := trodAll_cons h
  obtain ⟨fuel, h0⟩ := h0
  obtain ⟨a, a1, a2, a3, a4, a5⟩ := hf H eH bk hbk w base sp held fuel _ _ h0 g hg
  obtain ⟨b, b1, b2, b3⟩ := hr H eH bk hbk w base0 base sp held vs ds q h1 (fun j t v ht hv' => hv (j + 1) t v (by simpa using ht) (by simpa using hv')) g hg
  rw [okWide_cells (hv 0 t v (by simp) (by simp)) ha] at a2
  refine ⟨(a, b), ⟨a1, b1⟩, ?_, ?_⟩
  · have a2' := RepL.cons_iff.1 a2
    exact RepL.cons a2'.1 b2
  · simp only [List.map_cons, List.sum_cons, List.length_cons] at b3 a5 ⊢
    omega

theorem readsA_cons_agg {α β : Type} {ok : α → Prop} {enc : α → List V} {size : α → Nat} {ok' : β → Prop} {enc' : β → List V} {size' : β → Nat} {ts : List TypeId} (ha : isAggD (P.underlying t) = true) (hf : Reads P t ok enc size)
    (hr : ReadsA P ts ok' enc' size') : ReadsA P (t :: ts) (fun x : α × β => ok x.1 ∧ ok' x.2) (fun x => .agg (enc x.1) :: enc' x.2) (fun x => size x.1 + size' x.2) := by
  intro H eH bk hbk w base0 base sp held args ds ps h hv g hg
  obtain ⟨v, vs, d, ds, p, q, rfl, rfl, rfl, h0, h1⟩ := trodAll_cons h
  obtain ⟨fuel, h0⟩ := h0
  obtain ⟨a, a1, a2, a3, a4, a5⟩ := hf H eH bk hbk w base sp held fuel _ _ h0 g hg
  obtain ⟨b, b1, b2, b3⟩ := hr H eH bk hbk w base0 base sp held vs ds q h1 (fun j t v ht hv' => hv (j + 1) t v (by simpa using ht) (by simpa using hv')) g hg
  have hok := hv 0 t v (by simp) (by simp)
  obtain ⟨us, rfl⟩ : ∃ us, v = .agg us := by
    unfold Value.okWide at hok
    cases hu : P.underlying t with
    | none => simp [hu, isAggD] at ha
    | some d =>
      cases d <;> simp [hu, isAggD] at ha <;> simp only [hu] at hok
      all_goals obtain ⟨us, rfl, _⟩ := hok; exact ⟨us, rfl⟩
  refine ⟨(a, b), ⟨a1, b1⟩, ?_, ?_⟩
  · refine RepL.cons ?_ b2
    simp only [Rep]
    exact ⟨us, rfl, a2⟩
  · simp only [List.map_cons, List.sum_cons, List.length_cons] at b3 a5 ⊢
    omega
end

/-! ### The world at the call -/
def gOf (w : World) : Gh := ⟨fun B o => w.cell? ⟨B, o, none⟩, fun _ => none, fun _ => none, fun _ => none, fun _ => 0⟩

theorem gOf_inv (w : World) : Inv (gOf w).shut w.heap.size emptyH w :=
  ⟨Nat.le_refl _, fun _ _ _ h => h, fun a b h => by simp [emptyH] at h, fun _ _ => rfl, fun k sz h => by simp [emptyH] at h, fun _ _ => rfl, fun _ _ => rfl⟩

/-- A contract of the simulation as the kit's. -/
theorem calls_of_psim {P : Program} {glob : Nat → Option (List V)} {f : FuncId} {xs : List V} {b : Bool} (h : PSim P glob f xs (.ret (.bool b))) {W : World} (hg : ∀ i cs, glob i = some cs → RepC (gOf W) cs i 0) {args : Array Value} (hr : RepL (gOf W) xs args.toList) :
    Calls P f args W fun e w' => e = .returned (.bool b) ∧ Below W.heap.size W w' := by
  intro cs
  obtain ⟨_, h2⟩ := h (gOf W) W.heap.size W args (gOf_inv W) hg hr
  obtain ⟨g', w', frL, e1, e2, e3, e4, u, u1, u2⟩ := h2 cs
  have : u = .bool b := rep_bool u1
  subst this
  exact ⟨.returned (.bool b), w', frL, ⟨rfl, e1.below⟩, e3, e4, u2⟩

/-! ### Tables -/
/-- The cells of a table of numbers, as the program's text lays it. -/
def dV {H : Type} : DataW H → List V
  | .lit (.int k n) => [.int k n]
  | .lit (.bool b) => [.bool b]
  | .lit (.string s) => [.str s]
  | .agg parts => dVL parts
  | _ => []
where dVL : List (DataW H) → List V
  | [] => []
  | d :: ds => dV d ++ dVL ds

theorem contract_of_psim {P : Program} {glob : Nat → Option (List V)} {f : FuncId} {fn : Func} {s : ChangeSpec} {tb : TypeId} {ts : List TypeId} (hl : laidOutB P = true) (hts : fn.params.toList = ts) (hread : ts.all (fun t => P.readableRec t && decide (t < P.types.size)) = true)
    (hres : fn.resultTypes = #[tb]) (htb : P.underlying tb = some .bool) (hvars : s.vars = []) (hfn : ∀ (H : Type) (ds : List (DataW H)), ds.length = ts.length → s.fn H ds = { results := [.lit (.bool true)], args := ds, vars := [] })
    {α : Type} {ok : α → Prop} {enc : α → List V} {size : α → Nat} (hrd : ReadsA P ts ok enc size) {N : Nat} (law : ∀ a, ok a → size a + ts.length ≤ N → PSim P glob f (enc a) (.ret (.bool true)))
    {H : Type} (eH : TypeId × Value → H) {bk : DataW H → Nat} (hbk : BkOk bk) (W : World) (base : Nat) (args : Array Value) (ds gs : List (DataW H)) (before : List MemPlace)
    (hval : ∀ (j : Nat) t v, fn.params[j]? = some t → args[j]? = some v → Value.okWide P W .any base t v)
    (hW : DataW.Whole eH P fn.params.toList s.vars false W args.toList ds gs before) (hsmall : ((ds ++ gs).map bk).sum ≤ N) (hglob : ∀ i cs, glob i = some cs → RepC (gOf W) cs i 0) :
    Calls P f args W fun e W' => ∃ v, e = .returned v ∧ s.post eH P fn false true false false W args v W' := by
  have hW' := hW
  obtain ⟨p, q, hA, hV, rfl, hfz, hnd⟩ := hW
  rw [hvars] at hV
  obtain ⟨rfl, rfl⟩ := trodVars_none hV
  rw [hts] at hA
  have hlen := (trodAll_length hA).2
  obtain ⟨a, a1, a2, a3⟩ := hrd H eH bk hbk W base 0 _ _ args.toList ds p hA (fun j t v hj hv => hval j t v (by rw [← Array.getElem?_toList, hts]; exact hj) (by simpa using hv)) (gOf W) (fun _ _ _ h => h)
  have hsz : size a + ts.length ≤ N := by simp at hsmall; omega
  refine (calls_of_psim (law a a1 hsz) hglob a2).mono fun e W' ⟨he, hb⟩ => ?_
  subst he
  have hlt : ∀ x ∈ p, x.block < W.heap.size := fun x hx => hA.lt x hx
  have hsp : s.fn H (ds ++ []) = { results := [.lit (.bool true)], args := ds, vars := [] } := by rw [List.append_nil]; exact hfn H ds hlen
  have stays : ∀ (sp : Nat → Bool), (∀ x ∈ p, sp x.block = true) → DataW.TrodAll eH P W' 0 sp true ts args.toList ds p := by
    intro sp hs
    have key : ∀ (ts : List TypeId) (vs : List Value) (ds : List (DataW H)) (p : List MemPlace), ts.all (fun t => P.readableRec t && decide (t < P.types.size)) = true → DataW.TrodAll eH P W 0 (fun _ => true) true ts vs ds p → (∀ x ∈ p, x.block < W.heap.size) → (∀ x ∈ p, sp x.block = true) →
        DataW.TrodAll eH P W' 0 sp true ts vs ds p := by
      intro ts
      induction ts with
      | nil => intro vs ds p _ h _ _; obtain ⟨rfl, rfl, rfl⟩ := trodAll_nil h; exact trodAll_mk0
      | cons t ts ih =>
        intro vs ds p hr h hlt hs
        obtain ⟨v, vs, d, ds, p0, q, rfl, rfl, rfl, h0, h1⟩ := trodAll_cons h
        simp only [List.all_cons, Bool.and_eq_true, decide_eq_true_eq] at hr
        have hr2 : ts.all (fun t => P.readableRec t && decide (t < P.types.size)) = true := by simpa using hr.2
        exact trodAll_cons_mk (WideElems.Trod_stays hl hr.1.1 hr.1.2 h0 (fun x hx => hb.same (hlt x (by simp [hx]))) (fun x hx => hs x (by simp [hx]))) (ih vs ds q hr2 h1 (fun x hx => hlt x (by simp [hx])) (fun x hx => hs x (by simp [hx])))
    exact key ts _ _ _ hread hA hlt hs
  have hres' : ∀ (b : Nat) (sp : Nat → Bool) (hd : Bool), DataW.TrodAll eH P W' b sp hd fn.resultTypes.toList ((Value.bool true).resultList fn.resultTypes.size) (s.fn H (ds ++ [])).results [] := by
    intro b sp hd
    rw [hsp, hres]
    exact trodAll_cons_mk (shut_bool htb _) trodAll_mk0
  refine ⟨_, rfl, ds, [], p ++ [], [], p, [], hW', hres' _ _ _, ?_, ?_, hb.frame _, fun h => by cases h⟩
  · rw [hsp, hts]
    exact stays _ (fun x hx => by simpa using hlt x hx)
  · rw [hsp, hvars]
    rfl

end Go.Ab
