/- Layer 10 (direction), plain: what is shown has the same code points; where nothing is turned, or all. -/
import Derived.Test.YtjhpmmomalaiiaaDoorB7
import Derived.Test.YtjhpmmomalaiiaaDoorP09
import Derived.Test.YtjhpmmomalaiiaaDoorPMap
set_option linter.unusedVariables false
set_option linter.unusedSimpArgs false
set_option linter.unusedSectionVars false
set_option linter.deprecated false
namespace Go.Ab
set_option maxRecDepth 100000
theorem ordF_perm (L : List Int) : ((List.range L.length).map (ordF L)).Perm (List.range L.length) := by
  refine (List.perm_ext_iff_of_nodup ?_ List.nodup_range).2 fun a => ?_
  · unfold List.Nodup
    rw [List.pairwise_map]
    refine List.Pairwise.imp_of_mem ?_ (List.nodup_range (n := L.length))
    intro i j hi hj hne h
    rw [List.mem_range] at hi hj
    exact hne (ordF_inj hi hj h)
  · simp only [List.mem_map, List.mem_range]
    constructor
    · rintro ⟨i, hi, rfl⟩; exact ordF_lt hi
    · intro ha; exact ⟨atF L a, atF_lt ha, ord_at ha⟩
theorem map_nth_range (l : List Int) : (List.range l.length).map (nth l) = l := by
  apply List.ext_getElem
  · simp
  · intro i h1 h2
    simp [nth_eq h2]
theorem shown_perm {l L : List Int} (h : L.length = l.length) : (shownL l L).Perm l := by
  have h1 : shownL l L = ((List.range L.length).map (ordF L)).map (nth l) := by
    unfold shownL rowF
    rw [List.map_map, h]; rfl
  rw [h1]
  have := (ordF_perm L).map (nth l)
  rw [h, map_nth_range] at this
  rw [h]; exact this
theorem shown_len (l L : List Int) : (shownL l L).length = l.length := by simp [shownL]
theorem shown_nth {l L : List Int} {i : Nat} (h : i < l.length) : nth (shownL l L) i = nth l (ordF L i) := nth_rowF (g := fun i => nth l (ordF L i)) h
theorem enc_perm {l m : List Int} (h : m.Perm l) : (encAll m).length = (encAll l).length := (List.Perm.flatMap_right encR h).length_eq
theorem all_perm {l m : List Int} (h : m.Perm l) (ha : l.all point = true) : m.all point = true := by
  rw [List.all_eq_true] at ha ⊢
  exact fun x hx => ha x (h.mem_iff.1 hx)
/-- what Show comes to, for a text that is right -/
theorem show_right {s : List UInt8} (right : Bool) (h : (runesG s).2 = 0) (m : List Int) (hm : m = shownL (runesG s).1 (levS (runesG s).1 right).1) :
    showS s right = (encAll m, 0) ∧ runesG (encAll m) = (m, 0) ∧ m.Perm (runesG s).1 ∧ (encAll m).length = s.length ∧ m.length = (runesG s).1.length := by
  obtain ⟨k1, k2, k3, k4, k5⟩ := lev_ok right h
  obtain ⟨h1, h2⟩ := runesG_all h
  obtain ⟨h3, h4⟩ := runes_enc' h2
  have hp := shown_perm (l := (runesG s).1) (L := (levS (runesG s).1 right).1) k2
  rw [← hm] at hp
  have hl : (encAll m).length = s.length := by rw [enc_perm hp, h3]
  have ha := all_perm hp h4
  refine ⟨?_, ?_, hp, hl, hp.length_eq⟩
  · unfold showS
    rw [if_pos h, ← hm]
    unfold joinG
    rw [if_pos ha, if_neg (by omega)]
  · exact runesG_some (by omega) (runes_encAll ha)
theorem lev_flat {L : List Int} {v : Int} (hv : 0 ≤ v) (h : ∀ i, i < L.length → nth L i = -1 ∨ nth L i = v) {i : Nat} (hi : i < L.length) : levAt v L i = v := by
  have own : ∀ j, j < L.length → gpL L j = false → nth L j = v := by
    intro j hj hg
    unfold gpL at hg
    simp only [decide_eq_false_iff_not] at hg
    rcases h j hj with e | e <;> omega
  cases hg : gpL L i with
  | false => rw [lev_own hi hg]; exact own i hi hg
  | true =>
    obtain ⟨r, h1, h2⟩ := run_at (p := gpL L) hi hg
    rw [lev_gap r h1 h2]
    split
    · rename_i c
      rcases r.hi with e | e
      · omega
      · exact own _ c.2.1 e
    · rfl
def leftK (k : Int) : Bool := k == 3 || k == 2
def rightK (k : Int) : Bool := k == 4
def anyL (l : List Int) : Bool := l.any fun r => leftK (kindG r).1
def anyR (l : List Int) : Bool := l.any fun r => rightK (kindG r).1
theorem levs_flat {s : List UInt8} (right : Bool) (h : (runesG s).2 = 0) (hn : (if right then anyL (runesG s).1 else anyR (runesG s).1) = false) :
    ∀ i, i < (runesG s).1.length → nth (levS (runesG s).1 right).1 i = baseF right := by
  obtain ⟨k1, k2, k3, k4, k5⟩ := lev_ok right h
  generalize (runesG s).1 = l at *
  have hL : (levS l right).1 = lvL (baseF right) (rawL right l) := by
    unfold levS at k1 ⊢
    rw [if_neg (by omega)] at k1 ⊢
    split
    · rfl
    · rename_i hb; rw [if_neg hb] at k1; cases k1
  intro i hi
  rw [hL, lvL_nth (by rw [rawL_len]; exact hi)]
  refine lev_flat (by unfold baseF; split <;> omega) (fun j hj => ?_) (by rw [rawL_len]; exact hi)
  rw [rawL_len] at hj
  rw [rawL_nth hj]
  have hm := nth_mem hj
  unfold strongF baseF
  cases right with
  | true =>
    simp only [if_true] at hn ⊢
    have := List.any_eq_false.1 hn _ hm
    unfold leftK at this
    simp only [Bool.or_eq_true, beq_iff_eq, not_or] at this
    by_cases h4 : (kindG (nth l j)).1 = 4
    · rw [if_pos h4]; omega
    · rw [if_neg h4, if_neg (by omega)]; omega
  | false =>
    simp only [Bool.false_eq_true, if_false] at hn ⊢
    have := List.any_eq_false.1 hn _ hm
    unfold rightK at this
    simp only [beq_iff_eq] at this
    rw [if_neg this]
    split <;> omega
theorem ord_none {L : List Int} (h : ∀ i, i < L.length → nth L i = 0) {i : Nat} (hi : i < L.length) : ordF L i = i := by
  have h1 : revF (geL L 1) L.length i = i := revF_no (decide_eq_false (by have := h i hi; omega))
  unfold ordF
  rw [h1, revF_no (decide_eq_false (by have := h i hi; omega))]
theorem ord_all {L : List Int} (h : ∀ i, i < L.length → nth L i = 1) {i : Nat} (hi : i < L.length) : ordF L i = L.length - 1 - i := by
  have hr : Run (geL L 1) L.length 0 L.length := ⟨by omega, Nat.le_refl _, fun j _ hj => decide_eq_true (by have := h j hj; omega), .inl rfl, .inl rfl⟩
  have h1 : revF (geL L 1) L.length i = L.length - 1 - i := by rw [revF_run hr (by omega) hi]; omega
  unfold ordF
  rw [h1, revF_no (decide_eq_false (by have := h (L.length - 1 - i) (by omega); omega))]
/-- nothing is turned -/
theorem shown_same {s : List UInt8} (h : (runesG s).2 = 0) (hn : anyR (runesG s).1 = false) {i : Nat} (hi : i < (runesG s).1.length) :
    nth (shownL (runesG s).1 (levS (runesG s).1 false).1) i = nth (runesG s).1 i := by
  have hf := levs_flat false h hn
  obtain ⟨k1, k2, k3, k4, k5⟩ := lev_ok false h
  rw [shown_nth hi, ord_none (fun j hj => hf j (by omega)) (by omega)]
/-- all is turned -/
theorem shown_turned {s : List UInt8} (h : (runesG s).2 = 0) (hn : anyL (runesG s).1 = false) {i : Nat} (hi : i < (runesG s).1.length) :
    nth (shownL (runesG s).1 (levS (runesG s).1 true).1) ((runesG s).1.length - 1 - i) = nth (runesG s).1 i := by
  have hf := levs_flat true h hn
  obtain ⟨k1, k2, k3, k4, k5⟩ := lev_ok true h
  rw [shown_nth (by omega), ord_all (fun j hj => hf j (by omega)) (by omega)]
  congr 1; omega
theorem kinds_ok {s : List UInt8} (h : (runesG s).2 = 0) {i : Nat} (hi : i < (runesG s).1.length) : (kindG (nth (runesG s).1 i)).2 = 0 := by
  obtain ⟨h1, h2⟩ := runesG_all h
  obtain ⟨h3, h4⟩ := runes_enc' h2
  have := List.all_eq_true.1 h4 _ (nth_mem hi)
  unfold kindG; rw [if_pos this]
theorem any_take {l : List Int} {p : Int → Bool} {i : Nat} (h : i < l.length) : (l.take (i + 1)).any p = ((l.take i).any p || p (nth l i)) := by
  rw [nth_take h, List.any_append]; simp
/-- how often, as numbers -/
def cntD (l m : List Int) (i : Nat) (r : Int) : Int := ((l.take i).count r : Int) - ((m.take i).count r : Int)
theorem cntD_zero (l m : List Int) (r : Int) : cntD l m 0 r = 0 := by simp [cntD]
theorem cntD_all {l m : List Int} (h : m.Perm l) (r : Int) : cntD l m l.length r = 0 := by
  unfold cntD
  have h1 := h.length_eq
  rw [List.take_length, List.take_of_length_le (by omega), h.count_eq]; omega
theorem cntD_bound (l m : List Int) (i : Nat) (r : Int) : -(i : Int) ≤ cntD l m i r ∧ cntD l m i r ≤ i := by
  unfold cntD
  have h1 := List.count_le_length (a := r) (l := l.take i)
  have h2 := List.count_le_length (a := r) (l := m.take i)
  simp only [List.length_take] at h1 h2
  omega
theorem cntD_step {l m : List Int} {i : Nat} (h : i < l.length) (h2 : i < m.length) (r : Int) : cntD l m (i + 1) r = cntD l m i r + (if r = nth l i then 1 else 0) - (if r = nth m i then 1 else 0) := by
  unfold cntD
  rw [nth_take h, nth_take h2, List.count_append, List.count_append]
  have key : ∀ x : Int, ([x].count r : Int) = if r = x then 1 else 0 := by
    intro x
    rw [List.count_singleton]
    by_cases e : r = x
    · rw [if_pos e, if_pos (by simp [e])]; rfl
    · rw [if_neg e, if_neg (by simpa using fun h => e h.symm)]; rfl
  have k1 := key (nth l i)
  have k2 := key (nth m i)
  omega
end Go.Ab
