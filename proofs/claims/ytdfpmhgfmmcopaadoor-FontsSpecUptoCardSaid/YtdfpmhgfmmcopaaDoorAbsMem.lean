/- Reading and writing cells: what the abstract heap's words do, and that the machine's do the same. -/
import Derived.Test.YtdfpmhgfmmcopaaDoorAbsInv
import Derived.Laws.Cells
import Derived.Laws.Entries
import Derived.Laws.Append
set_option linter.unusedVariables false
set_option linter.unusedSimpArgs false
set_option linter.unusedSectionVars false
set_option linter.deprecated false
namespace Go.Ab
open Go.RowKit (Below)
variable {P : Program} {g : Gh} {n0 : Nat} {H : Heap} {w : World}

theorem run_isAggO {t : TypeId} {b : Bool} (h : isAggO P t = some b) (w : World) : (isAgg t).run P w = .ok b w := by
  unfold isAggO at h
  cases hu : P.underlying t with
  | none => simp [hu] at h
  | some d =>
    simp only [isAgg, Sem.run_bind, run_underlying hu, Result.andThen_ok]
    rw [hu] at h
    cases d <;> simp_all
theorem info_of_szO {t : TypeId} {n : Nat} (h : szO P t = some n) : ∃ i, P.info? t = some i ∧ i.size = n := by
  unfold szO at h
  cases hi : P.info? t with
  | none => simp [hi] at h
  | some i => simp [hi] at h; exact ⟨i, rfl, h⟩
theorem run_typeInfo {t : TypeId} {i : TypeInfo} (h : P.info? t = some i) (w : World) : (typeInfo t).run P w = .ok i w := by
  simp [typeInfo, h]
theorem run_szO {t : TypeId} {n : Nat} (h : szO P t = some n) (w : World) : (sizeOf t).run P w = .ok n w := by
  obtain ⟨i, h1, h2⟩ := info_of_szO h
  simp [sizeOf, run_typeInfo h1, h2]

theorem add_none (B o j : Nat) : (⟨B, o, none⟩ : Addr).add j = ⟨B, o + j, none⟩ := Addr.add_lit B o j

theorem readP_rep {p : V} {n : Nat} {cs : List V} (h : readP H p n = some cs) (hI : Inv g n0 H w) {v : Value} (r : Rep g p v) :
    ∃ B o vs, v = .pointer (some ⟨B, o, none⟩) ∧ RepL g cs vs ∧ cs.length = n ∧ (∀ c ∈ cs, V.one c = true) ∧ ∀ (j : Nat) (u : Value), vs[j]? = some u → w.cell? ⟨B, o + j, none⟩ = some u := by
  cases p with
  | rptr l =>
    simp only [readP] at h
    split at h
    · rename_i hl
      simp only [Option.some.injEq] at h
      subst h
      simp only [Rep] at r
      obtain ⟨B, o, rfl, hc⟩ := r
      have hc := hc.take n
      refine ⟨B, o, (l.take n).mapIdx fun i _ => (g.G B (o + i)).getD .nilIface, rfl, ?_, by simp; omega, ?_, ?_⟩
      · rw [RepL.iff]
        refine ⟨by simp, fun i x hx => ?_⟩
        obtain ⟨v, hv, hr, _⟩ := RepC.iff.1 hc i x hx
        refine ⟨v, ?_, hr⟩
        rw [List.getElem?_mapIdx, hx]
        simp [hv]
      · intro c hcm
        obtain ⟨i, hi⟩ := List.mem_iff_getElem?.1 hcm
        obtain ⟨_, _, _, h1⟩ := RepC.iff.1 hc i c hi
        exact h1
      · intro j u hu
        rw [List.getElem?_mapIdx] at hu
        cases hx : (l.take n)[j]? with
        | none => simp [hx] at hu
        | some x =>
          obtain ⟨v, hv, _⟩ := RepC.iff.1 hc j x hx
          simp [hx, hv] at hu
          subst hu
          exact hI.agree _ _ _ hv
    · cases h
  | ptr a off =>
    simp only [Rep] at r
    obtain ⟨B, hmu, rfl⟩ := r
    simp only [readP] at h
    cases hb : H.bs[a]? with
    | none => simp [hb] at h
    | some b =>
      obtain ⟨B', hmu', hn, hrel⟩ := hI.blk a b hb
      rw [hmu] at hmu'
      simp only [Option.some.injEq] at hmu'
      subst hmu'
      cases b with
      | dead => simp [hb] at h
      | cells l =>
        simp only [hb] at h
        split at h
        · rename_i hl
          simp only [Option.some.injEq] at h
          obtain ⟨hbe, hG, arr, e, fz, hh, hsz, hc, hf⟩ := hrel
          refine ⟨B, off, (arr.toList.drop off).take n, rfl, ?_, by subst h; simp; omega, ?_, ?_⟩
          · rw [RepL.iff]
            refine ⟨by subst h; simp; omega, fun i x hx => ?_⟩
            subst h
            rw [List.getElem?_take] at hx ⊢
            split at hx
            · rename_i hi
              rw [if_pos hi]
              rw [List.getElem?_drop] at hx ⊢
              obtain ⟨_, v, hv, hr⟩ := hc _ x hx
              exact ⟨v, by simpa using hv, hr⟩
            · cases hx
          · intro c hcm
            subst h
            obtain ⟨i, hi⟩ := List.mem_iff_getElem?.1 (List.mem_of_mem_drop (List.mem_of_mem_take hcm))
            exact (hc i c hi).1
          · intro j u hu
            rw [List.getElem?_take] at hu
            split at hu
            · rw [List.getElem?_drop] at hu
              rw [cell_of_heap hh]
              simpa using hu
            · cases hu
        · cases h
      | frozen l =>
        simp only [hb] at h
        split at h
        · rename_i hl
          simp only [Option.some.injEq] at h
          have hc : RepC g l B 0 := hrel
          have hc := (hc.drop off).take n
          rw [h] at hc
          simp only [Nat.zero_add] at hc
          refine ⟨B, off, cs.mapIdx fun i _ => (g.G B (off + i)).getD .nilIface, rfl, ?_, by subst h; simp; omega, ?_, ?_⟩
          · rw [RepL.iff]
            refine ⟨by simp, fun i x hx => ?_⟩
            obtain ⟨v, hv, hr, _⟩ := RepC.iff.1 hc i x hx
            refine ⟨v, ?_, hr⟩
            rw [List.getElem?_mapIdx, hx]
            simp [hv]
          · intro c hcm
            obtain ⟨i, hi⟩ := List.mem_iff_getElem?.1 hcm
            obtain ⟨_, _, _, h1⟩ := RepC.iff.1 hc i c hi
            exact h1
          · intro j u hu
            rw [List.getElem?_mapIdx] at hu
            cases hx : cs[j]? with
            | none => simp [hx] at hu
            | some x =>
              obtain ⟨v, hv, _⟩ := RepC.iff.1 hc j x hx
              simp [hx, hv] at hu
              subst hu
              exact hI.agree _ _ _ hv
        · cases h
      | map es c => simp [hb] at h
      | loop t ps as bo st pend db => simp [hb] at h
      | dfr op => simp [hb] at h
  | _ => simp [readP] at h

theorem run_loadCells_at (B o : Nat) (vs : List Value) (h : ∀ (j : Nat) (u : Value), vs[j]? = some u → w.cell? ⟨B, o + j, none⟩ = some u) :
    (loadCells ⟨B, o, none⟩ vs.length).run P w = .ok vs.toArray w :=
  run_loadCells_list (P := P) w ⟨B, o, none⟩ vs fun j v hv => by rw [add_none]; exact h j v hv

theorem loadP_run {p : V} {t : TypeId} {x : V} (h : loadP P H t p = some x) (hI : Inv g n0 H w) {v : Value} (r : Rep g p v) :
    ∃ u B o, v = .pointer (some ⟨B, o, none⟩) ∧ (loadVar t ⟨B, o, none⟩).run P w = .ok u w ∧ Rep g x u := by
  unfold loadP at h
  cases ha : isAggO P t with
  | none => simp [ha] at h
  | some b =>
    cases b with
    | true =>
      simp only [ha] at h
      cases hs : szO P t with
      | none => simp [hs] at h
      | some n =>
        simp only [hs, Option.map_eq_some_iff] at h
        obtain ⟨cs, hcs, rfl⟩ := h
        obtain ⟨B, o, vs, rfl, hr, hl, _, hc⟩ := readP_rep hcs hI r
        refine ⟨.agg vs.toArray, B, o, rfl, ?_, ?_⟩
        · have := run_loadCells_at (P := P) B o vs hc
          rw [← hr.length, hl] at this
          simp [loadVar, run_isAggO ha, run_szO hs, this]
        · simp only [Rep]; exact ⟨vs.toArray, rfl, hr⟩
    | false =>
      simp only [ha] at h
      split at h
      · rename_i y hy
        simp only [Option.some.injEq] at h
        subst h
        obtain ⟨B, o, vs, rfl, hr, hl, _, hc⟩ := readP_rep hy hI r
        cases vs with
        | nil => have := hr.length; simp at this
        | cons u us =>
          rw [RepL.cons_iff] at hr
          have h0 := hc 0 u (by simp)
          simp only [Nat.add_zero] at h0
          exact ⟨u, B, o, rfl, by simp [loadVar, run_isAggO ha, run_load, h0], hr.1⟩
      · cases h

theorem loadAt_run {p : V} {t : TypeId} {x : V} (h : loadP P H t p = some x) (hI : Inv g n0 H w) {v : Value} (r : Rep g p v) :
    ∃ u, (Instr.loadAt t v).run P w = .ok u w ∧ Rep g x u := by
  obtain ⟨u, B, o, rfl, h1, h2⟩ := loadP_run h hI r
  exact ⟨u, by simp [Instr.loadAt, Instr.sureAddr, h1], h2⟩

/-! ### Writing -/
theorem writeL_length : ∀ (vs cs : List V) (i : Nat), (writeL cs i vs).length = cs.length
  | [], cs, i => rfl
  | v :: vs, cs, i => by rw [writeL, writeL_length]; simp
theorem writeL_get : ∀ (vs cs : List V) (i j : Nat), (writeL cs i vs)[j]? = if i ≤ j ∧ j < i + vs.length ∧ j < cs.length then vs[j - i]? else cs[j]?
  | [], cs, i, j => by simp [writeL]; intros; omega
  | v :: vs, cs, i, j => by
    rw [writeL, writeL_get]
    simp only [List.length_set, List.length_cons]
    by_cases h1 : i + 1 ≤ j ∧ j < i + 1 + vs.length ∧ j < cs.length
    · rw [if_pos h1, if_pos (by omega), show j - i = (j - (i + 1)) + 1 by omega]
      simp
    · rw [if_neg h1]
      by_cases h2 : j = i
      · subst h2
        by_cases h3 : j < cs.length
        · rw [if_pos (by omega)]; simp [h3]
        · rw [if_neg (by omega)]; simp [h3]
      · rw [if_neg (by omega), List.getElem?_set_ne (Ne.symm h2)]

theorem storeCells_run (B o : Nat) (e : TypeId) (fz : Nat × Nat) : ∀ (vs : List Value) (i : Nat) (arr : Array Value) (w : World), w.heap[B]? = some (.cells arr e fz) →
    o + i + vs.length ≤ arr.size → (∀ j, j < vs.length → ¬ (fz.1 ≤ o + i + j ∧ o + i + j < fz.2)) → (∀ v ∈ vs, v.oneCell' = true) →
    ∃ w' arr', (storeCells ⟨B, o, none⟩ vs i).run P w = .ok () w' ∧ But B w w' ∧ w'.heap[B]? = some (.cells arr' e fz) ∧ arr'.size = arr.size ∧
      ∀ j, arr'[j]? = if o + i ≤ j ∧ j < o + i + vs.length then vs[j - (o + i)]? else arr[j]?
  | [], i, arr, w, hh, hl, hf, h1 => ⟨w, arr, by simp [storeCells], But.refl B w, hh, rfl, fun j => by rw [if_neg (by simp)]⟩
  | v :: vs, i, arr, w, hh, hl, hf, h1 => by
    simp only [List.length_cons] at hl hf
    have hc : w.cell? ⟨B, o + i, none⟩ = some arr[o + i] := by rw [cell_of_heap hh]; simp [show o + i < arr.size by omega]
    have hfr : w.frozen? ⟨B, o + i, none⟩ = false := by
      have := hf 0 (by omega)
      simp only [Nat.add_zero] at this
      simp only [World.frozen?, hh]
      simpa using this
    have hs : (store ⟨B, o + i, none⟩ v).run P w = .ok () (w.setCell ⟨B, o + i, none⟩ v) := by
      rw [run_store P w _ v _ (h1 v (by simp))]
      simp [hc, hfr]
    have hh' : (w.setCell ⟨B, o + i, none⟩ v).heap[B]? = some (.cells (arr.setIfInBounds (o + i) v) e fz) := by
      simp [World.setCell, Array.getElem?_modify, hh]
    obtain ⟨w', arr', r1, r2, r3, r4, r5⟩ := storeCells_run B o e fz vs (i + 1) (arr.setIfInBounds (o + i) v) _ hh' (by simp; omega)
      (fun j hj => by have := hf (j + 1) (by omega); rwa [show o + i + (j + 1) = o + (i + 1) + j by omega] at this) (fun x hx => h1 x (by simp [hx]))
    refine ⟨w', arr', ?_, (But.setCell w ⟨B, o + i, none⟩ v).trans r2, r3, by simpa using r4, fun j => ?_⟩
    · simp only [storeCells, Sem.run_bind, add_none, hs, Result.andThen_ok]
      exact r1
    · rw [r5]
      by_cases hj : o + (i + 1) ≤ j ∧ j < o + (i + 1) + vs.length
      · rw [if_pos hj, if_pos (by simp; omega), show j - (o + i) = (j - (o + (i + 1))) + 1 by omega]
        simp
      · rw [if_neg hj]
        by_cases he : j = o + i
        · subst he
          rw [if_pos (by simp)]
          simp [show o + i < arr.size by omega]
        · rw [if_neg (by simp; omega), Array.getElem?_setIfInBounds_ne (Ne.symm he)]

theorem storeP_run {p x : V} {t : TypeId} {H' : Heap} (h : storeP P H t p x = some H') (hI : Inv g n0 H w) {v u : Value} (r : Rep g p v) (rx : Rep g x u) :
    ∃ w', (Instr.storeAt t v u).run P w = .ok () w' ∧ Good n0 g w g w' ∧ Inv g n0 H' w' := by
  unfold storeP at h
  cases p with
  | ptr a off =>
    simp only [Rep] at r
    obtain ⟨B, hmu, rfl⟩ := r
    cases hs : szO P t with
    | none => simp [hs] at h
    | some n =>
      cases hx : x.cellsO with
      | none => simp [hs, hx] at h
      | some vs =>
        simp only [hs, hx] at h
        split at h
        · rename_i hn
          split at h
          · rename_i cs hb
            split at h
            · rename_i hl
              simp only [Option.some.injEq] at h
              subst h
              obtain ⟨B', hmu', hn0, hbe, hG, arr, e, fz, hh, hsz, hc, hf, hcp⟩ := hI.blk a _ hb
              rw [hmu] at hmu'
              simp only [Option.some.injEq] at hmu'
              subst hmu'
              obtain ⟨hrl, hone⟩ := cellsO_rep hx rx
              have hlen : vs.length = u.cells.toList.length := hrl.length
              obtain ⟨w', arr', r1, r2, r3, r4, r5⟩ := storeCells_run (P := P) B off e fz u.cells.toList 0 arr w hh (by omega)
                (fun j hj => hf _ (by omega)) (fun c hc' => by
                  obtain ⟨i, hi⟩ := List.mem_iff_getElem?.1 hc'
                  have hlt : i < u.cells.toList.length := (List.getElem?_eq_some_iff.1 hi).1
                  obtain ⟨y, hy⟩ : ∃ y, vs[i]? = some y := ⟨vs[i]'(by omega), by simp [show i < vs.length by omega]⟩
                  obtain ⟨z, hz, hr⟩ := hrl.get hy
                  rw [hi] at hz
                  simp only [Option.some.injEq] at hz
                  subst hz
                  exact one_rep (hone y (List.mem_of_getElem? hy)) hr)
              have hlt : a < H.bs.length := (List.getElem?_eq_some_iff.1 hb).1
              have := hI.updBlk (.cells (writeL cs off vs)) hlt hmu hn0 hbe hG r2 ⟨hbe, hG, arr', e, fz, r3, by rw [writeL_length, r4]; exact hsz, fun i y hy => ?_, fun i hi => hf i (by rwa [writeL_length] at hi), by rw [writeL_length]; exact hcp.1, by rw [r4]; exact hcp.2.1, hcp.2.2⟩
              · refine ⟨w', ?_, this.2, this.1⟩
                have hcs : u.cells.size = n := by rw [← hn, hlen]; simp
                simp only [Instr.storeAt, Instr.sureAddr, storeVar, Sem.run_bind, Sem.run_pure, Result.andThen_ok, run_szO hs, hcs]
                simpa using r1
              · rw [writeL_get] at hy
                rw [r5]
                simp only [Nat.add_zero]
                split at hy
                · rename_i hi
                  rw [if_pos (by omega)]
                  obtain ⟨z, hz, hr⟩ := hrl.get hy
                  exact ⟨hone y (List.mem_of_getElem? hy), z, hz, hr⟩
                · rename_i hi
                  have hic : i < cs.length := (List.getElem?_eq_some_iff.1 hy).1
                  rw [if_neg (by omega)]
                  exact hc i y hy
            · cases h
          · cases h
        · cases h
  | _ => simp at h

/-! ### The zero value -/
theorem zeroCs_run {t : TypeId} {z : List V} (h : zeroCs P t = some z) (g : Gh) :
    ∃ i v, P.info? t = some i ∧ i.zero = some v ∧ RepL g z v.cells.toList ∧ (∀ c ∈ z, V.one c = true) ∧ z.length = i.size ∧ v.cells.size = i.size := by
  unfold zeroCs at h
  cases hi : P.info? t with
  | none => simp [hi] at h
  | some i =>
    simp only [hi] at h
    cases hz : i.zero with
    | none => simp [hz] at h
    | some v =>
      simp only [hz] at h
      split at h
      · rename_i hc
        simp only [Option.some.injEq] at h
        subst h
        simp only [Bool.and_eq_true, List.all_eq_true, beq_iff_eq] at hc
        have hr := ofZero_rep g v
        exact ⟨i, v, rfl, hz, hr, hc.1, hc.2, by have := hr.length; simp at this; omega⟩
      · cases h
theorem run_zeroValue {t : TypeId} {i : TypeInfo} {v : Value} (hi : P.info? t = some i) (hz : i.zero = some v) (w : World) : (zeroValue t).run P w = .ok v w := by
  simp [zeroValue, run_typeInfo hi, hz]

end Go.Ab
