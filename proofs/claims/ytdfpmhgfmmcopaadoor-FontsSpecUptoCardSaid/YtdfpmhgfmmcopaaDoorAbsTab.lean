/- The listed tables: what their cells hold. -/
import Derived.Test.YtdfpmhgfmmcopaaDoorAbsTop
import Derived.Lib.LaidTab
set_option linter.unusedVariables false
set_option linter.unusedSimpArgs false
set_option linter.unusedSectionVars false
set_option linter.deprecated false
namespace Go.Ab
open Go.RowKit Go.ChangeShapes

def contig (P : Program) : List Field → Nat → Nat → Bool
  | [], off, T => off == T
  | f :: fs, off, T => f.offset == off && contig P fs (off + P.cellsOf f.type) T

def flatOk (P : Program) : Nat → TypeId → Bool
  | 0, _ => false
  | k + 1, t => match P.underlying t with
    | some .bool | some (.int _) | some .string => true
    | some (.array n e) => P.cellsOf t == n * P.cellsOf e && flatOk P k e
    | some (.struct fs) => contig P fs.toList 0 (P.cellsOf t) && fs.toList.all fun f => flatOk P k f.type
    | _ => false

section
variable {P : Program} {H : Type} {eH : TypeId × Value → H} {w : World} {base : Nat} {sp : Nat → Bool} {held : Bool} {g : Gh}

theorem array_dV {e : TypeId} {fuel : Nat} (he : ∀ cs x, DataW.trod eH P w base sp held fuel e cs = some x → RepL g (dV x.1) cs ∧ ∀ c ∈ dV x.1, V.one c = true) {cs : List Value} {n : Nat} (hcs : cs.length = n * P.cellsOf e) : ∀ (xs : List (DataW H × List MemPlace)) (s : Nat), s + xs.length = n →
    (∀ i, i < xs.length → DataW.trod eH P w base sp held fuel e ((cs.drop ((s + i) * P.cellsOf e)).take (P.cellsOf e)) = xs[i]?) → RepL g (dV.dVL (xs.map (·.1))) (cs.drop (s * P.cellsOf e)) ∧ ∀ c ∈ dV.dVL (xs.map (·.1)), V.one c = true
  | [], s, hs, h => by
    simp at hs
    subst hs
    rw [List.drop_eq_nil_of_le (by omega)]
    exact ⟨RepL.nil _, by simp [dV.dVL]⟩
  | x :: xs, s, hs, h => by
    have h0 := h 0 (by simp)
    rw [Nat.add_zero, List.getElem?_cons_zero] at h0
    obtain ⟨a1, a2⟩ := he _ _ h0
    obtain ⟨b1, b2⟩ := array_dV he hcs xs (s + 1) (by simp at hs; omega) (fun i hi => by
      have := h (i + 1) (by simpa using hi)
      rw [show s + (i + 1) = s + 1 + i by omega] at this
      simpa using this)
    simp only [List.map_cons, dV.dVL]
    refine ⟨?_, fun c hc => ?_⟩
    · have e1 : cs.drop (s * P.cellsOf e) = (cs.drop (s * P.cellsOf e)).take (P.cellsOf e) ++ cs.drop ((s + 1) * P.cellsOf e) := by
        rw [Nat.succ_mul, ← List.drop_drop, List.take_append_drop]
      rw [e1]
      exact a1.append b1
    · rcases List.mem_append.1 hc with hc | hc
      · exact a2 c hc
      · exact b2 c hc

theorem struct_dV {fuel : Nat} {cs : List Value} : ∀ (fs : List Field) (xs : List (DataW H × List MemPlace)) (off : Nat), contig P fs off cs.length = true → (∀ f ∈ fs, ∀ cs x, DataW.trod eH P w base sp held fuel f.type cs = some x → RepL g (dV x.1) cs ∧ ∀ c ∈ dV x.1, V.one c = true) → xs.length = fs.length →
    (∀ (i : Nat) (f : Field), fs[i]? = some f → DataW.trod eH P w base sp held fuel f.type ((cs.drop f.offset).take (P.cellsOf f.type)) = xs[i]?) → RepL g (dV.dVL (xs.map (·.1))) (cs.drop off) ∧ ∀ c ∈ dV.dVL (xs.map (·.1)), V.one c = true
  | [], [], off, hc, _, _, _ => by
    simp [contig] at hc
    subst hc
    rw [List.drop_eq_nil_of_le (by omega)]
    exact ⟨RepL.nil _, by simp [dV.dVL]⟩
  | [], _ :: _, _, _, _, h, _ => by simp at h
  | _ :: _, [], _, _, _, h, _ => by simp at h
  | f :: fs, x :: xs, off, hc, hf, hl, h => by
    simp only [contig, Bool.and_eq_true, beq_iff_eq] at hc
    have h0 := h 0 f (by simp)
    rw [hc.1, List.getElem?_cons_zero] at h0
    obtain ⟨a1, a2⟩ := hf f (by simp) _ _ h0
    obtain ⟨b1, b2⟩ := struct_dV fs xs _ hc.2 (fun f' hf' => hf f' (by simp [hf'])) (by simpa using hl) (fun i f' hi => by
      have := h (i + 1) f' (by simpa using hi)
      simpa using this)
    simp only [List.map_cons, dV.dVL]
    refine ⟨?_, fun c hc => ?_⟩
    · have e1 : cs.drop off = (cs.drop off).take (P.cellsOf f.type) ++ cs.drop (off + P.cellsOf f.type) := by
        rw [← List.drop_drop, List.take_append_drop]
      rw [e1]
      exact a1.append b1
    · rcases List.mem_append.1 hc with hc | hc
      · exact a2 c hc
      · exact b2 c hc

theorem trod_dV : ∀ (k : Nat) (t : TypeId), flatOk P k t = true → ∀ (fuel : Nat) (cs : List Value) (x : DataW H × List MemPlace), DataW.trod eH P w base sp held fuel t cs = some x → RepL g (dV x.1) cs ∧ ∀ c ∈ dV x.1, V.one c = true
  | 0, _, h => by simp [flatOk] at h
  | k + 1, t, h => by
    intro fuel cs x hx
    simp only [flatOk] at h
    cases hu : P.underlying t with
    | none => simp [hu] at h
    | some d =>
      cases d <;> simp only [hu] at h <;> first | (cases h; done) | skip
      case bool => obtain ⟨b, rfl, rfl⟩ := DataW.trod_bool hu hx; exact ⟨RepL.cons (by simp [Rep]) (RepL.nil _), by simp [dV, V.one]⟩
      case int k => obtain ⟨b, rfl, rfl, _⟩ := DataW.trod_int hu hx; exact ⟨RepL.cons (by simp [Rep]) (RepL.nil _), by simp [dV, V.one]⟩
      case string => obtain ⟨b, rfl, rfl, _⟩ := DataW.trod_string hu hx; exact ⟨RepL.cons (by simp [Rep]) (RepL.nil _), by simp [dV, V.one]⟩
      case array n e =>
        simp only [Bool.and_eq_true, beq_iff_eq] at h
        obtain ⟨xs, m, rfl, rfl, h2, h3, h4⟩ := DataW.trod_array hu hx
        have := array_dV (g := g) (fun cs x hx => trod_dV k e h.2 m cs x hx) (cs := cs) (n := n) (by rw [h2, h.1]) xs 0 (by omega) (fun i hi => by
          rw [Nat.zero_add]
          exact h4 i (by omega))
        simpa [dV] using this
      case struct fs =>
        simp only [Bool.and_eq_true, List.all_eq_true] at h
        obtain ⟨xs, n, rfl, rfl, h2, h3, h4⟩ := DataW.trod_struct hu hx
        have := struct_dV (g := g) (fuel := n) (cs := cs) fs.toList xs 0 (by rw [h2]; exact h.1) (fun f hf cs x hx => trod_dV k f.type (h.2 f hf) n cs x hx) (by simpa using h3) (fun i f hi => h4 i f (by simpa using hi))
        simpa [dV] using this
end

/-- ONE LISTED TABLE's CELLS. -/
theorem laid_dV {P : Program} {W : World} {laid : List (String × DataW Unit)} {ps : List MemPlace} (h : DataW.LaidVars P W laid ps) {n : String} {d : DataW Unit} (hm : (n, d) ∈ laid) {i : Nat} {t : TypeId} (hg : P.globalNamed n = some i) (ht : (P.globals[i]?).map (·.type) = some t)
    {k : Nat} (hf : flatOk P k t = true) : RepC (gOf W) (dV d) i 0 := by
  induction laid generalizing ps with
  | nil => cases hm
  | cons y r ih =>
    obtain ⟨n', d'⟩ := y
    obtain ⟨g', t', cs, fuel, p, q, h1, h2, h3, h4, h5, _⟩ := h
    rcases List.mem_cons.1 hm with hm | hm
    · simp only [Prod.mk.injEq] at hm
      obtain ⟨rfl, rfl⟩ := hm
      rw [hg] at h1
      simp only [Option.some.injEq] at h1
      subst h1
      rw [ht] at h2
      simp only [Option.some.injEq] at h2
      subst h2
      obtain ⟨r1, r2⟩ := trod_dV (g := gOf W) k t hf fuel cs.toList _ h4
      rw [RepC.iff]
      intro j x hx
      obtain ⟨v, hv, hrv⟩ := r1.get hx
      refine ⟨v, ?_, hrv, r2 x (List.mem_of_getElem? hx)⟩
      show W.cell? ⟨i, 0 + j, none⟩ = some v
      have := World.var?_cell hg h3 j
      rw [Nat.zero_add, this]
      simpa using hv
    · exact ih h5 hm

end Go.Ab
