/- The invariant between the abstract heap and the world, and how each kind of step keeps it. -/
import Derived.Test.YtdfpmhgfmmcopaaDoorAbsRel
set_option linter.unusedVariables false
set_option linter.unusedSimpArgs false
set_option linter.unusedSectionVars false
set_option linter.deprecated false
namespace Go.Ab
open Go.RowKit (Below)

def RepE (g : Gh) (es : List (V × V × Nat)) (rs : List MapEntry) : Prop :=
  es.length = rs.length ∧ ∀ (i : Nat) (x : V × V × Nat), es[i]? = some x → ∃ r, rs[i]? = some r ∧ Rep g x.1 r.key ∧ Rep g x.2.1 r.val ∧ r.born = x.2.2

def BlkRel (g : Gh) (w : World) (a B : Nat) : Blk → Prop
  | .cells cs => g.be B = some (.blk a) ∧ (∀ o, g.G B o = none) ∧ ∃ arr e fz, w.heap[B]? = some (.cells arr e fz) ∧ cs.length ≤ arr.size ∧
      (∀ (i : Nat) (x : V), cs[i]? = some x → x.one = true ∧ ∃ v, arr[i]? = some v ∧ Rep g x v) ∧ (∀ i, i < cs.length → ¬ (fz.1 ≤ i ∧ i < fz.2)) ∧
      cs.length ≤ g.cp a ∧ g.cp a ≤ arr.size ∧ ∀ i, i < g.cp a → ¬ (fz.1 ≤ i ∧ i < fz.2)
  | .frozen cs => RepC g cs B 0
  | .dead => True
  | .map es clock => g.be B = some (.blk a) ∧ ∃ rs : List MapEntry, w.heap[B]? = some (.map rs.toArray clock) ∧ RepE g es rs
  | .loop t ps as bo st pend db => g.be B = some (.blk a) ∧ ∃ L : Loop, w.heap[B]? = some (.loop L) ∧ RepL g t L.tmps.toList ∧ L.params.toList = ps ∧
      L.assign = as ∧ L.body = bo ∧ L.state = st ∧ L.pending = pend ∧ g.mu db = some L.defers
  | .dfr op => g.be B = some (.blk a) ∧ w.heap[B]? = some (.deferred (if op then some [] else none))

def TokRel (g : Gh) (w : World) (n0 k sz : Nat) (t : TokI) : Prop :=
  t.sz = sz ∧ n0 ≤ t.B ∧ g.be t.B = some (.tok k) ∧ (∀ o, t.e ≤ o → g.G t.B o = none) ∧
  ∃ arr e fz, w.heap[t.B]? = some (.cells arr e fz) ∧ t.e + t.m * sz ≤ arr.size ∧ (∀ i, t.e ≤ i → i < arr.size → ¬ (fz.1 ≤ i ∧ i < fz.2))

structure Inv (g : Gh) (n0 : Nat) (H : Heap) (w : World) : Prop where
  base : n0 ≤ w.heap.size
  agree : ∀ B o v, g.G B o = some v → w.cell? ⟨B, o, none⟩ = some v
  blk : ∀ (a : Nat) (b : Blk), H.bs[a]? = some b → ∃ B, g.mu a = some B ∧ n0 ≤ B ∧ BlkRel g w a B b
  new : ∀ a, H.bs.length ≤ a → g.mu a = none
  tok : ∀ (k : Nat) (sz : Nat), H.ts[k]? = some (some sz) → ∃ t, g.ta k = some t ∧ TokRel g w n0 k sz t
  newt : ∀ k, H.ts.length ≤ k → g.ta k = none
  fresh : ∀ B, w.heap.size ≤ B → g.be B = none

/-- What a stretch of the run may do: the ghost grows, its new cells lie from n0 on; the world below n0 is as it was. -/
structure Good (n0 : Nat) (g : Gh) (w : World) (g' : Gh) (w' : World) : Prop where
  le : g.le g'
  G : ∀ B o, B < n0 → g'.G B o = g.G B o
  below : Below n0 w w'

theorem Good.refl (n0 : Nat) (g : Gh) (w : World) : Good n0 g w g w := ⟨.refl g, fun _ _ _ => rfl, Below.refl _ _⟩
theorem Good.trans {n0 : Nat} {g g1 g2 : Gh} {w w1 w2 : World} (h : Good n0 g w g1 w1) (k : Good n0 g1 w1 g2 w2) : Good n0 g w g2 w2 :=
  ⟨h.le.trans k.le, fun B o hB => (k.G B o hB).trans (h.G B o hB), h.below.trans k.below⟩

theorem Inv.lt {g : Gh} {n0 : Nat} {H : Heap} {w : World} (h : Inv g n0 H w) {B o : Nat} {v : Value} (hg : g.G B o = some v) : B < w.heap.size :=
  World.block_lt_of_cell? w ⟨B, o, none⟩ (h.agree B o v hg)
theorem Inv.noG {g : Gh} {n0 : Nat} {H : Heap} {w : World} (h : Inv g n0 H w) {B : Nat} (hB : w.heap.size ≤ B) (o : Nat) : g.G B o = none := by
  cases hg : g.G B o with
  | none => rfl
  | some v => have := h.lt hg; omega

theorem RepE.mono {g g' : Gh} (h : g.le g') {es : List (V × V × Nat)} {rs : List MapEntry} (r : RepE g es rs) : RepE g' es rs :=
  ⟨r.1, fun i x hx => let ⟨r, h1, h2, h3, h4⟩ := r.2 i x hx; ⟨r, h1, h2.mono h, h3.mono h, h4⟩⟩

/-- A block of which nothing has turned is still in its relation. -/
theorem BlkRel.keep {g g' : Gh} {w w' : World} {a B : Nat} {b : Blk} (h : BlkRel g w a B b) (hmu : g.mu a = some B) (hle : g.le g') (hw : g.be B = some (.blk a) → w'.heap[B]? = w.heap[B]?)
    (hbe : g.be B = some (.blk a) → g'.be B = some (.blk a)) (hG : g.be B = some (.blk a) → (∀ o, g.G B o = none) → ∀ o, g'.G B o = none) : BlkRel g' w' a B b := by
  cases b with
  | cells cs =>
    obtain ⟨h1, h2, arr, e, fz, h3, h4, h5, h6, h7⟩ := h
    refine ⟨hbe h1, hG h1 h2, arr, e, fz, (hw h1).trans h3, h4, fun i x hx => ?_, h6, by rw [hle.cp _ _ hmu]; exact h7⟩
    obtain ⟨p, v, q, r⟩ := h5 i x hx
    exact ⟨p, v, q, r.mono hle⟩
  | frozen cs => exact RepC.mono hle cs B 0 h
  | dead => trivial
  | map es clock =>
    obtain ⟨h1, rs, h2, h3⟩ := h
    exact ⟨hbe h1, rs, (hw h1).trans h2, h3.mono hle⟩
  | loop t ps as bo st pend db =>
    obtain ⟨h1, L, h2, h3, h4, h5, h6, h7, h8, h9⟩ := h
    exact ⟨hbe h1, L, (hw h1).trans h2, RepL.mono hle _ _ h3, h4, h5, h6, h7, h8, hle.mu _ _ h9⟩
  | dfr op =>
    obtain ⟨h1, h2⟩ := h
    exact ⟨hbe h1, (hw h1).trans h2⟩

theorem TokRel.keep {g g' : Gh} {w w' : World} {n0 k sz : Nat} {t : TokI} (h : TokRel g w n0 k sz t) (hw : w'.heap[t.B]? = w.heap[t.B]?)
    (hbe : g'.be t.B = some (.tok k)) (hG : ∀ o, g.G t.B o = none → g'.G t.B o = none) : TokRel g' w' n0 k sz t := by
  obtain ⟨h1, h2, h3, h4, arr, e, fz, h5, h6, h7⟩ := h
  exact ⟨h1, h2, hbe, fun o ho => hG o (h4 o ho), arr, e, fz, hw.trans h5, h6, h7⟩

/-- A draw. -/
theorem Inv.drew {g : Gh} {n0 : Nat} {H : Heap} {w : World} (h : Inv g n0 H w) : Inv g n0 H w.drew :=
  ⟨h.base, h.agree, fun a b hb => let ⟨B, h1, h2, h3⟩ := h.blk a b hb; ⟨B, h1, h2, h3.keep h1 (.refl g) (fun _ => rfl) id (fun _ x => x)⟩, h.new,
    fun k sz hk => let ⟨t, h1, h2⟩ := h.tok k sz hk; ⟨t, h1, h2.keep rfl h2.2.2.1 (fun _ x => x)⟩, h.newt, h.fresh⟩
theorem Good.drew (n0 : Nat) (g : Gh) (w : World) : Good n0 g w g w.drew := ⟨.refl g, fun _ _ _ => rfl, (Below.refl _ _).drew⟩

/-- The ghost with one abstract block more. -/
def Gh.addB (g : Gh) (a B c : Nat) : Gh :=
  { g with mu := fun x => if x = a then some B else g.mu x, be := fun x => if x = B then some (.blk a) else g.be x, cp := fun x => if x = a then c else g.cp x }

theorem Gh.addB_le {g : Gh} {a B c : Nat} (h : g.mu a = none) : g.le (g.addB a B c) :=
  ⟨fun _ _ _ x => x, fun x y hx => by simp only [Gh.addB]; split <;> simp_all, fun _ _ x => x, fun x y hx => by simp only [Gh.addB]; split <;> simp_all⟩

/-- A new block of the heap, of whatever kind. -/
theorem Inv.newBlk {g : Gh} {n0 : Nat} {H : Heap} {w : World} (h : Inv g n0 H w) (o : Obj) (b : Blk) (c : Nat)
    (hb : BlkRel (g.addB H.bs.length w.heap.size c) (w.alloc o) H.bs.length w.heap.size b) :
    Inv (g.addB H.bs.length w.heap.size c) n0 (newB H b) (w.alloc o) ∧ Good n0 g w (g.addB H.bs.length w.heap.size c) (w.alloc o) ∧
      (g.addB H.bs.length w.heap.size c).mu H.bs.length = some w.heap.size := by
  have hle : g.le (g.addB H.bs.length w.heap.size c) := Gh.addB_le (h.new _ (Nat.le_refl _))
  refine ⟨⟨?_, ?_, ?_, ?_, ?_, ?_, ?_⟩, ⟨hle, fun _ _ _ => rfl, (Below.refl _ _).alloc h.base o⟩, by simp [Gh.addB]⟩
  · have := h.base; simp; omega
  · intro B o' v hg
    have hg' : g.G B o' = some v := hg
    rw [World.cell?_alloc_lt w o ⟨B, o', none⟩ (h.lt hg')]
    exact h.agree B o' v hg'
  · intro a b' hab
    simp only [newB] at hab
    rw [List.getElem?_append] at hab
    split at hab
    · rename_i hl
      obtain ⟨B, h1, h2, h3⟩ := h.blk a b' hab
      have hne : a ≠ H.bs.length := by omega
      refine ⟨B, by simp [Gh.addB, hne, h1], h2, ?_⟩
      have hB : g.be B = some (.blk a) → B < w.heap.size := fun hx => by
        by_cases hB : B < w.heap.size
        · exact hB
        · have := h.fresh B (by omega); rw [hx] at this; cases this
      refine h3.keep h1 hle (fun hx => Below.heap_alloc w o B (hB hx)) (fun hx => ?_) (fun _ hx => hx)
      have : B ≠ w.heap.size := by have := hB hx; omega
      simp [Gh.addB, this, hx]
    · rename_i hl
      have : a = H.bs.length := by
        have := List.getElem?_eq_some_iff.1 hab
        obtain ⟨hlt, _⟩ := this
        simp at hlt; omega
      subst this
      simp at hab
      subst hab
      exact ⟨w.heap.size, by simp [Gh.addB], h.base, hb⟩
  · intro a ha
    simp [newB] at ha
    have hne : a ≠ H.bs.length := by omega
    simp [Gh.addB, hne, h.new a (by omega)]
  · intro k sz hk
    obtain ⟨t, h1, h2⟩ := h.tok k sz hk
    have hB : t.B < w.heap.size := by
      by_cases hB : t.B < w.heap.size
      · exact hB
      · have := h.fresh t.B (by omega); rw [h2.2.2.1] at this; cases this
    refine ⟨t, h1, h2.keep (Below.heap_alloc w o _ hB) ?_ (fun _ x => x)⟩
    have : t.B ≠ w.heap.size := by omega
    simp [Gh.addB, this, h2.2.2.1]
  · exact h.newt
  · intro B hB
    simp at hB
    have : B ≠ w.heap.size := by omega
    simp [Gh.addB, this, h.fresh B (by omega)]

theorem Inv.own_lt {g : Gh} {n0 : Nat} {H : Heap} {w : World} (h : Inv g n0 H w) {B : Nat} {x : Own} (hx : g.be B = some x) : B < w.heap.size := by
  by_cases hB : B < w.heap.size
  · exact hB
  · have := h.fresh B (by omega); rw [hx] at this; cases this

/-- w' is w but for block B. -/
structure But (B : Nat) (w w' : World) : Prop where
  os : w'.os = w.os
  tape : w'.tape = w.tape
  output : w'.output = w.output
  size : w'.heap.size = w.heap.size
  block : ∀ k, k ≠ B → w'.heap[k]? = w.heap[k]?

theorem But.refl (B : Nat) (w : World) : But B w w := ⟨rfl, rfl, rfl, rfl, fun _ _ => rfl⟩
theorem But.trans {B : Nat} {a b c : World} (h : But B a b) (k : But B b c) : But B a c :=
  ⟨k.os.trans h.os, k.tape.trans h.tape, k.output.trans h.output, k.size.trans h.size, fun i hi => (k.block i hi).trans (h.block i hi)⟩
theorem But.setCell (w : World) (a : Addr) (v : Value) : But a.block w (w.setCell a v) :=
  ⟨rfl, rfl, rfl, by simp, fun k hk => Below.heap_setCell w a v k hk⟩
theorem But.putObj (w : World) (r : Nat) (o : Obj) : But r w (w.putObj r o) :=
  ⟨rfl, rfl, rfl, by simp, fun k hk => World.putObj_heap_other hk⟩
theorem But.below {B n0 : Nat} {w w' : World} (h : But B w w') (hB : n0 ≤ B) : Below n0 w w' :=
  ⟨h.os, h.tape, h.output, by rw [h.size]; exact Nat.le_refl _, fun k hk => h.block k (by omega)⟩
theorem But.cell {B : Nat} {w w' : World} (h : But B w w') {a : Addr} (ha : a.block ≠ B) : w'.cell? a = w.cell? a := World.cell?_of_block (h.block _ ha)

/-- One abstract block is written anew. -/
theorem Inv.updBlk {g : Gh} {n0 : Nat} {H : Heap} {w w' : World} (h : Inv g n0 H w) {a B : Nat} (b' : Blk) (ha : a < H.bs.length) (hmu : g.mu a = some B) (hn : n0 ≤ B)
    (hbe : g.be B = some (.blk a)) (hG : ∀ o, g.G B o = none) (hw : But B w w') (hb : BlkRel g w' a B b') :
    Inv g n0 { H with bs := H.bs.set a b' } w' ∧ Good n0 g w g w' := by
  refine ⟨⟨?_, ?_, ?_, ?_, ?_, ?_, ?_⟩, ⟨.refl g, fun _ _ _ => rfl, hw.below hn⟩⟩
  · rw [hw.size]; exact h.base
  · intro B' o v hg
    rw [hw.cell (a := ⟨B', o, none⟩) (by rintro rfl; simp [hG] at hg)]
    exact h.agree B' o v hg
  · intro x y hxy
    simp only at hxy
    rw [List.getElem?_set] at hxy
    split at hxy
    · rename_i e
      subst e
      simp only [Option.some.injEq] at hxy
      subst hxy
      exact ⟨B, hmu, hn, hb⟩
    · rename_i e
      obtain ⟨B', h1, h2, h3⟩ := h.blk x y hxy
      refine ⟨B', h1, h2, h3.keep h1 (.refl g) (fun hx => hw.block B' ?_) id (fun _ z => z)⟩
      rintro rfl
      rw [hbe] at hx
      simp only [Option.some.injEq, Own.blk.injEq] at hx
      exact e hx
  · intro x hx; exact h.new x (by simpa using hx)
  · intro k sz hk
    obtain ⟨t, h1, h2⟩ := h.tok k sz hk
    refine ⟨t, h1, h2.keep (hw.block _ ?_) h2.2.2.1 (fun _ x => x)⟩
    intro e
    have h3 := h2.2.2.1
    rw [e, hbe] at h3
    cases h3
  · exact h.newt
  · intro x hx; exact h.fresh x (by rw [hw.size] at hx; exact hx)

/-- An abstract block dies. -/
theorem Inv.killBlk {g : Gh} {n0 : Nat} {H : Heap} {w : World} (h : Inv g n0 H w) (a : Nat) : Inv g n0 { H with bs := H.bs.set a .dead } w := by
  refine ⟨h.base, h.agree, fun x y hxy => ?_, fun x hx => h.new x (by simpa using hx), h.tok, h.newt, h.fresh⟩
  simp only at hxy
  rw [List.getElem?_set] at hxy
  split at hxy
  · rename_i e
    subst e
    split at hxy
    · rename_i hl
      simp only [Option.some.injEq] at hxy
      subst hxy
      obtain ⟨B, h1, h2, _⟩ := h.blk a _ (List.getElem?_eq_getElem hl)
      exact ⟨B, h1, h2, trivial⟩
    · cases hxy
  · exact h.blk x y hxy

/-- An abstract block is written and goes on as another one. -/
theorem Inv.moveBlk {g : Gh} {n0 : Nat} {H : Heap} {w w' : World} (h : Inv g n0 H w) {a B : Nat} (b' : Blk) (ha : a < H.bs.length) (hmu : g.mu a = some B) (hn : n0 ≤ B)
    (hbe : g.be B = some (.blk a)) (hG : ∀ o, g.G B o = none) (hw : But B w w') (hb : BlkRel (g.addB H.bs.length B (g.cp a)) w' H.bs.length B b') :
    Inv (g.addB H.bs.length B (g.cp a)) n0 (newB { H with bs := H.bs.set a .dead } b') w' ∧ Good n0 g w (g.addB H.bs.length B (g.cp a)) w' := by
  have hle : g.le (g.addB H.bs.length B (g.cp a)) := Gh.addB_le (h.new _ (Nat.le_refl _))
  refine ⟨⟨?_, ?_, ?_, ?_, ?_, ?_, ?_⟩, ⟨hle, fun _ _ _ => rfl, hw.below hn⟩⟩
  · rw [hw.size]; exact h.base
  · intro B' o v hg
    have hg' : g.G B' o = some v := hg
    rw [hw.cell (a := ⟨B', o, none⟩) (by rintro rfl; simp [hG] at hg')]
    exact h.agree B' o v hg'
  · intro x y hxy
    simp only [newB] at hxy
    rw [List.getElem?_append, List.length_set] at hxy
    split at hxy
    · rename_i hl
      have hne : x ≠ H.bs.length := by omega
      rw [List.getElem?_set] at hxy
      split at hxy
      · rename_i e
        subst e
        simp only [Option.some.injEq, ha, if_true] at hxy
        subst hxy
        exact ⟨B, hle.mu _ _ hmu, hn, trivial⟩
      · rename_i e
        obtain ⟨B', h1, h2, h3⟩ := h.blk x y hxy
        have hB : g.be B' = some (.blk x) → B' ≠ B := by
          intro hx e'
          rw [e', hbe] at hx
          simp only [Option.some.injEq, Own.blk.injEq] at hx
          exact e hx
        refine ⟨B', hle.mu _ _ h1, h2, h3.keep h1 hle (fun hx => hw.block B' (hB hx)) (fun hx => ?_) (fun _ z => z)⟩
        simp [Gh.addB, hB hx, hx]
    · rename_i hl
      have : x = H.bs.length := by
        have := (List.getElem?_eq_some_iff.1 hxy).1
        simp at this; omega
      subst this
      simp at hxy
      subst hxy
      exact ⟨B, by simp [Gh.addB], hn, hb⟩
  · intro x hx
    simp [newB] at hx
    have hne : x ≠ H.bs.length := by omega
    simp [Gh.addB, hne, h.new x (by omega)]
  · intro k sz hk
    obtain ⟨t, h1, h2⟩ := h.tok k sz hk
    have hne : t.B ≠ B := by
      intro e
      have h3 := h2.2.2.1
      rw [e, hbe] at h3
      cases h3
    refine ⟨t, h1, h2.keep (hw.block _ hne) ?_ (fun _ x => x)⟩
    simp [Gh.addB, hne, h2.2.2.1]
  · exact h.newt
  · intro x hx
    rw [hw.size] at hx
    have hne : x ≠ B := by
      rintro rfl
      have := h.fresh x hx
      rw [hbe] at this
      cases this
    simp [Gh.addB, hne, h.fresh x hx]

/-- A block is not written any more. -/
def Gh.addG (g : Gh) (B : Nat) (f : Nat → Option Value) : Gh := { g with G := fun B' o => if B' = B then f o else g.G B' o }
theorem Gh.addG_le {g : Gh} {B : Nat} {f : Nat → Option Value} (h : ∀ o v, g.G B o = some v → f o = some v) : g.le (g.addG B f) :=
  ⟨fun B' o v hv => by
    by_cases e : B' = B
    · subst e; simp [Gh.addG, h o v hv]
    · simp [Gh.addG, e, hv], fun _ _ h => h, fun _ _ h => h, fun _ _ _ => rfl⟩

theorem cell_of_heap {w : World} {B o : Nat} {arr : Array Value} {e : TypeId} {fz : Nat × Nat} (h : w.heap[B]? = some (.cells arr e fz)) : w.cell? ⟨B, o, none⟩ = arr[o]? := by
  simp [World.cell?, h]

theorem Inv.freeze {g : Gh} {n0 : Nat} {H : Heap} {w : World} (h : Inv g n0 H w) {a : Nat} {cs : List V} (ha : H.bs[a]? = some (.cells cs)) :
    ∃ g', Inv g' n0 { H with bs := H.bs.set a (.frozen cs) } w ∧ Good n0 g w g' w := by
  obtain ⟨B, hmu, hn, hbe, hG, arr, e, fz, hh, hl, hc, hf, _⟩ := h.blk a _ ha
  have hlt : a < H.bs.length := (List.getElem?_eq_some_iff.1 ha).1
  have hle : g.le (g.addG B fun o => if o < cs.length then arr[o]? else none) := Gh.addG_le (fun o v hv => by rw [hG] at hv; cases hv)
  refine ⟨g.addG B (fun o => if o < cs.length then arr[o]? else none), ⟨h.base, ?_, ?_, fun x hx => h.new x (by simpa using hx), ?_, h.newt, h.fresh⟩, ⟨hle, fun B' o hB => ?_, Below.refl _ _⟩⟩
  · intro B' o v hv
    simp only [Gh.addG] at hv
    split at hv
    · rename_i e'
      subst e'
      split at hv
      · rw [cell_of_heap hh]; exact hv
      · cases hv
    · exact h.agree B' o v hv
  · intro x y hxy
    simp only at hxy
    rw [List.getElem?_set] at hxy
    split at hxy
    · rename_i e'
      subst e'
      simp only [Option.some.injEq] at hxy
      subst hxy
      refine ⟨B, hmu, hn, ?_⟩
      show RepC _ cs B 0
      rw [RepC.iff]
      intro i x hx
      obtain ⟨h1, v, h2, h3⟩ := hc i x hx
      have hi : i < cs.length := (List.getElem?_eq_some_iff.1 hx).1
      exact ⟨v, by simp [Gh.addG, hi, h2], h3.mono hle, h1⟩
    · rename_i e'
      obtain ⟨B', h1, h2, h3⟩ := h.blk x y hxy
      refine ⟨B', h1, h2, h3.keep h1 hle (fun _ => rfl) id (fun hx z o => ?_)⟩
      have hne : B' ≠ B := by
        rintro rfl
        rw [hbe] at hx
        simp only [Option.some.injEq, Own.blk.injEq] at hx
        exact e' hx
      simp [Gh.addG, hne, z o]
  · intro k sz hk
    obtain ⟨t, h1, h2⟩ := h.tok k sz hk
    refine ⟨t, h1, h2.keep rfl h2.2.2.1 (fun o hx => ?_)⟩
    have hne : t.B ≠ B := by
      intro e
      have h3 := h2.2.2.1
      rw [e, hbe] at h3
      cases h3
    simp [Gh.addG, hne, hx]
  · have hne : B' ≠ B := by omega
    simp [Gh.addG, hne]

/-- A new row that is not written again, without a token. -/
theorem Inv.newRow {g : Gh} {n0 : Nat} {H : Heap} {w : World} (h : Inv g n0 H w) (arr : Array Value) (e : TypeId) (cs : List V) (hr : RepL g cs (arr.toList.take cs.length)) (hone : ∀ c ∈ cs, V.one c = true) :
    ∃ g', Inv g' n0 H (w.alloc (.cells arr e)) ∧ Good n0 g w g' (w.alloc (.cells arr e)) ∧ RepC g' cs w.heap.size 0 ∧ g'.be = g.be ∧ ∀ o, cs.length ≤ o → g'.G w.heap.size o = none := by
  have hle : g.le (g.addG w.heap.size fun o => if o < cs.length then arr[o]? else none) := Gh.addG_le (fun o v hv => by rw [h.noG (Nat.le_refl _)] at hv; cases hv)
  refine ⟨g.addG w.heap.size (fun o => if o < cs.length then arr[o]? else none), ⟨by have := h.base; simp; omega, ?_, ?_, h.new, ?_, h.newt, ?_⟩, ⟨hle, fun B o hB => ?_, (Below.refl _ _).alloc h.base _⟩, ?_, rfl, fun o ho => by simp [Gh.addG]; omega⟩
  · intro B o v hv
    simp only [Gh.addG] at hv
    split at hv
    · rename_i e'
      subst e'
      split at hv
      · rw [World.cell?_alloc_new]; exact hv
      · cases hv
    · rw [World.cell?_alloc_lt w _ ⟨B, o, none⟩ (h.lt hv)]
      exact h.agree B o v hv
  · intro a b hab
    obtain ⟨B, h1, h2, h3⟩ := h.blk a b hab
    refine ⟨B, h1, h2, h3.keep h1 hle (fun hx => Below.heap_alloc w _ B (h.own_lt hx)) id (fun hx z o => ?_)⟩
    have hne : B ≠ w.heap.size := by have := h.own_lt hx; omega
    simp [Gh.addG, hne, z o]
  · intro k sz hk
    obtain ⟨t, h1, h2⟩ := h.tok k sz hk
    have hB := h.own_lt h2.2.2.1
    refine ⟨t, h1, h2.keep (Below.heap_alloc w _ _ hB) h2.2.2.1 (fun o hx => ?_)⟩
    have hne : t.B ≠ w.heap.size := by omega
    simp [Gh.addG, hne, hx]
  · intro B hB
    exact h.fresh B (by simp at hB; omega)
  · have hne : B ≠ w.heap.size := by have := h.base; omega
    simp [Gh.addG, hne]
  · rw [RepC.iff]
    intro i x hx
    have hi : i < cs.length := (List.getElem?_eq_some_iff.1 hx).1
    obtain ⟨v, hv, hrv⟩ := hr.get hx
    rw [List.getElem?_take, if_pos hi] at hv
    exact ⟨v, by simp [Gh.addG, hi]; simpa using hv, hrv.mono hle, hone x (List.mem_of_getElem? hx)⟩

def Gh.addT (g : Gh) (k : Nat) (t : TokI) : Gh := { g with ta := fun x => if x = k then some t else g.ta x, be := fun x => if x = t.B then some (.tok k) else g.be x }
theorem Gh.addT_le {g : Gh} {k : Nat} {t : TokI} (h : g.ta k = none) : g.le (g.addT k t) :=
  ⟨fun _ _ _ x => x, fun _ _ x => x, fun x y hx => by simp only [Gh.addT]; split <;> simp_all, fun _ _ _ => rfl⟩

theorem Inv.killTok {g : Gh} {n0 : Nat} {H : Heap} {w : World} (h : Inv g n0 H w) (k : Nat) : Inv g n0 { H with ts := H.ts.set k none } w :=
  ⟨h.base, h.agree, h.blk, h.new, fun j sz hj => by
    simp only at hj
    rw [List.getElem?_set] at hj
    split at hj
    · split at hj <;> simp at hj
    · exact h.tok j sz hj, fun x hx => h.newt x (by simpa using hx), h.fresh⟩

def dropTok (ts : List (Option Nat)) : Option Nat → List (Option Nat)
  | some k => ts.set k none
  | none => ts
def ownTok : Option Nat → Option Own
  | some k => some (.tok k)
  | none => none

/-- A new token over a block that nobody owns, or that an old token, which dies with this, has owned. -/
theorem Inv.newTok {g : Gh} {n0 : Nat} {H : Heap} {w : World} (h : Inv g n0 H w) (t : TokI) (old : Option Nat)
    (hown : g.be t.B = ownTok old)
    (ht : TokRel (g.addT H.ts.length t) w n0 H.ts.length t.sz t) :
    Inv (g.addT H.ts.length t) n0 { H with ts := dropTok H.ts old ++ [some t.sz] } w ∧ Good n0 g w (g.addT H.ts.length t) w := by
  have hle : g.le (g.addT H.ts.length t) := Gh.addT_le (h.newt _ (Nat.le_refl _))
  have hlen : (dropTok H.ts old).length = H.ts.length := by cases old <;> simp [dropTok]
  have key : ∀ (k : Nat) (sz : Nat), (dropTok H.ts old)[k]? = some (some sz) → H.ts[k]? = some (some sz) ∧ old ≠ some k := by
    intro k sz hk
    cases old with
    | none => exact ⟨hk, by simp⟩
    | some k' =>
      simp only [dropTok] at hk
      rw [List.getElem?_set] at hk
      split at hk
      · split at hk <;> simp at hk
      · rename_i hne; exact ⟨hk, by simpa using hne⟩
  have hown' : ∀ x, g.be t.B = some x → ∃ k, old = some k ∧ x = .tok k := by
    intro x hx
    cases old with
    | none => simp [hx, ownTok] at hown
    | some k => simp only [hx, ownTok, Option.some.injEq] at hown; exact ⟨k, rfl, hown⟩
  generalize dropTok H.ts old = ts0 at hlen key ⊢
  refine ⟨⟨h.base, h.agree, ?_, h.new, ?_, ?_, ?_⟩, ⟨hle, fun _ _ _ => rfl, Below.refl _ _⟩⟩
  · intro a b hab
    obtain ⟨B, h1, h2, h3⟩ := h.blk a b hab
    refine ⟨B, h1, h2, h3.keep h1 hle (fun _ => rfl) (fun hx => ?_) (fun _ x => x)⟩
    have hne : B ≠ t.B := by
      rintro rfl
      obtain ⟨k, _, e⟩ := hown' _ hx
      cases e
    simp [Gh.addT, hne, hx]
  · intro k sz hk
    simp only at hk
    rw [List.getElem?_append] at hk
    split at hk
    · obtain ⟨hk1, hk2⟩ := key k sz hk
      obtain ⟨t', h1, h2⟩ := h.tok k sz hk1
      have hne : t'.B ≠ t.B := by
        intro e
        have h3 := h2.2.2.1
        rw [e] at h3
        obtain ⟨k', e1, e2⟩ := hown' _ h3
        cases e2
        exact hk2 e1
      refine ⟨t', hle.ta _ _ h1, h2.keep rfl ?_ (fun _ x => x)⟩
      simp [Gh.addT, hne, h2.2.2.1]
    · rename_i hl
      rw [hlen] at hl hk
      have : k = H.ts.length := by
        have := (List.getElem?_eq_some_iff.1 hk).1
        simp at this; omega
      subst this
      simp at hk
      subst hk
      exact ⟨t, by simp [Gh.addT], ht⟩
  · intro k hk
    simp only [List.length_append, hlen, List.length_cons, List.length_nil] at hk
    have hne : k ≠ H.ts.length := by omega
    simp [Gh.addT, hne, h.newt k (by omega)]
  · intro B hB
    have hne : B ≠ t.B := by
      intro e
      have h1 := ht.2.2.2.2
      obtain ⟨arr, e', fz, h2, _⟩ := h1
      have := (Array.getElem?_eq_some_iff.1 h2).1
      omega
    simp [Gh.addT, hne, h.fresh B hB]

/-- Cells behind a token's first are written once and for all; the token's block else is as it was; the token itself is dead behind this (the next step makes a new one). -/
theorem Inv.growRow {g : Gh} {n0 : Nat} {H : Heap} {w w' : World} (h : Inv g n0 H w) {k sz : Nat} {t : TokI} (hk : H.ts[k]? = some (some sz)) (ht : g.ta k = some t)
    (hrel : TokRel g w n0 k sz t) (arr : Array Value) (e : TypeId) (fz : Nat × Nat) (hw : But t.B w w') (hh : w'.heap[t.B]? = some (.cells arr e fz)) (n : Nat)
    (hold : ∀ o, o < t.e → arr[o]? = (w.cell? ⟨t.B, o, none⟩)) :
    Inv (g.addG t.B fun o => if o < t.e then g.G t.B o else if o < t.e + n then arr[o]? else none) n0 { H with ts := H.ts.set k none } w' ∧
      Good n0 g w (g.addG t.B fun o => if o < t.e then g.G t.B o else if o < t.e + n then arr[o]? else none) w' := by
  obtain ⟨hsz, hn, hbe, hG, _⟩ := hrel
  have hle : g.le (g.addG t.B fun o => if o < t.e then g.G t.B o else if o < t.e + n then arr[o]? else none) := Gh.addG_le (fun o v hv => by
    by_cases ho : o < t.e
    · simp [ho, hv]
    · rw [hG o (by omega)] at hv; cases hv)
  refine ⟨⟨by rw [hw.size]; exact h.base, ?_, ?_, h.new, ?_, fun x hx => h.newt x (by simpa using hx), fun B hB => h.fresh B (by rw [hw.size] at hB; exact hB)⟩, ⟨hle, fun B o hB => ?_, hw.below hn⟩⟩
  · intro B o v hv
    simp only [Gh.addG] at hv
    split at hv
    · rename_i e'
      subst e'
      rw [cell_of_heap hh]
      split at hv
      · rename_i ho; rw [hold o ho]; exact h.agree _ _ _ hv
      · split at hv
        · exact hv
        · cases hv
    · rename_i hne
      rw [hw.cell (a := ⟨B, o, none⟩) hne]
      exact h.agree B o v hv
  · intro a b hab
    obtain ⟨B, h1, h2, h3⟩ := h.blk a b hab
    have hne : g.be B = some (.blk a) → B ≠ t.B := by
      intro hx e'
      rw [e', hbe] at hx
      cases hx
    refine ⟨B, h1, h2, h3.keep h1 hle (fun hx => hw.block B (hne hx)) id (fun hx z o => ?_)⟩
    simp [Gh.addG, hne hx, z o]
  · intro k' sz' hk'
    simp only at hk'
    rw [List.getElem?_set] at hk'
    split at hk'
    · split at hk' <;> simp at hk'
    · rename_i hkk
      obtain ⟨t', h1, h2⟩ := h.tok k' sz' hk'
      have hne : t'.B ≠ t.B := by
        intro e'
        have h3 := h2.2.2.1
        rw [e', hbe] at h3
        simp only [Option.some.injEq, Own.tok.injEq] at h3
        exact hkk h3
      refine ⟨t', h1, h2.keep (hw.block _ hne) h2.2.2.1 (fun o hx => ?_)⟩
      simp [Gh.addG, hne, hx]
  · have hne : B ≠ t.B := by omega
    simp [Gh.addG, hne]

end Go.Ab
