/- Layer 20 (lattice), plain: more, cheaper and fewer edges. -/
import Derived.Test.YtgfomibaakpdnaaDoorP20c
set_option linter.unusedVariables false
set_option linter.unusedSimpArgs false
set_option linter.unusedSectionVars false
set_option linter.deprecated false
namespace Go.Ab
theorem ok_path {n : Int} {l : List Edge} (h : checkE n l = 0) : DE n l 0 ≤ sumE l ↔ ∃ p, pathP n.toNat l p 0 = true :=
  ⟨fun hd => ⟨_, (best_ok h hd).1⟩, fun ⟨_, hp⟩ => (best_path h hp).2.2.1⟩
theorem path_more {n : Nat} {l : List Edge} {x : Edge} : ∀ {p : List Int} {v : Int}, pathP n l p v = true → pathP n (l ++ [x]) p v = true ∧ wtP (l ++ [x]) p = wtP l p
  | [], v, hp => ⟨hp, rfl⟩
  | i :: r, v, hp => by
    simp only [pathP, Bool.and_eq_true, decide_eq_true_eq] at hp
    obtain ⟨⟨h0, h1, h2⟩, h3⟩ := hp
    have e : nth (l ++ [x]) i.toNat = nth l i.toNat := nth_append_left (by omega)
    obtain ⟨h4, h5⟩ := path_more (x := x) h3
    rw [wtP_cons, wtP_cons, h5, e]
    refine ⟨?_, rfl⟩
    simp only [pathP, e, Bool.and_eq_true, decide_eq_true_eq]
    exact ⟨⟨h0, by simp; omega, h2⟩, h4⟩
theorem more_cost {n : Int} {l : List Edge} {x : Edge} (h : checkE n l = 0) (h2 : checkE n (l ++ [x]) = 0) (hd : DE n l 0 ≤ sumE l) : DE n (l ++ [x]) 0 ≤ sumE (l ++ [x]) ∧ DE n (l ++ [x]) 0 ≤ DE n l 0 := by
  obtain ⟨h3, h4⟩ := best_ok h hd
  obtain ⟨h5, h6⟩ := path_more (x := x) h3
  obtain ⟨h7, _, h8, _⟩ := best_path h2 h5
  exact ⟨h8, by omega⟩
/-! An edge that costs less -/
def lowE (l : List Edge) (k : Nat) (c : Int) : List Edge := l.set k { nth l k with cost := c }
theorem lowE_nth {l : List Edge} {k : Nat} {c : Int} (hk : k < l.length) (i : Nat) : nth (lowE l k c) i = if k = i then { nth l k with cost := c } else nth l i := nth_set hk
theorem lowE_at {l : List Edge} {k : Nat} {c : Int} (hk : k < l.length) (hc : c ≤ (nth l k).cost) (i : Nat) : (nth (lowE l k c) i).src = (nth l i).src ∧ (nth (lowE l k c) i).dst = (nth l i).dst ∧ (nth (lowE l k c) i).text = (nth l i).text ∧ (nth (lowE l k c) i).cost ≤ (nth l i).cost := by
  rw [lowE_nth hk]
  by_cases e : k = i
  · subst e; rw [if_pos rfl]; exact ⟨rfl, rfl, rfl, hc⟩
  · rw [if_neg e]; exact ⟨rfl, rfl, rfl, Int.le_refl _⟩
theorem lowE_path {n : Nat} {l : List Edge} {k : Nat} {c : Int} (hk : k < l.length) (hc : c ≤ (nth l k).cost) : ∀ {p : List Int} {v : Int}, pathP n (lowE l k c) p v = pathP n l p v ∧ wtP (lowE l k c) p ≤ wtP l p
  | [], v => ⟨rfl, Int.le_refl _⟩
  | i :: r, v => by
    obtain ⟨h1, h2, _, h4⟩ := lowE_at hk hc i.toNat
    obtain ⟨i1, i2⟩ := lowE_path (n := n) hk hc (p := r) (v := (nth l i.toNat).dst)
    rw [wtP_cons, wtP_cons]
    refine ⟨?_, by omega⟩
    simp only [pathP, h1, h2, i1]
    rw [show (lowE l k c).length = l.length by simp [lowE]]
theorem lowE_check {n : Int} {l : List Edge} {k : Nat} {c : Int} (h : checkE n l = 0) (hk : k < l.length) (h0 : 0 ≤ c) (hc : c ≤ (nth l k).cost) : checkE n (lowE l k c) = 0 := by
  obtain ⟨h1, h2, h3⟩ := checkE_ok h
  unfold checkE
  rw [if_neg (by simp [lowE]; omega), if_pos]
  refine ⟨h1.1, ?_⟩
  rw [List.all_eq_true]
  intro x hx
  obtain ⟨i, hi, rfl⟩ := List.mem_iff_getElem.1 hx
  rw [← nth_eq hi]
  have hi2 : i < l.length := by simpa [lowE] using hi
  have h4 := h3 i hi2
  have h5 := edgeOk_at h4
  obtain ⟨e1, e2, e3, e4⟩ := lowE_at hk hc i
  have e5 : 0 ≤ (nth (lowE l k c) i).cost := by
    rw [lowE_nth hk]
    split
    · exact h0
    · exact h5.2.2.2.1
  unfold edgeOk at h4 ⊢
  rw [e1, e2, e3]
  simp only [Bool.and_eq_true, decide_eq_true_eq] at h4 ⊢
  exact ⟨by omega, h4.2⟩
theorem low_ok {n : Int} {l : List Edge} {k : Nat} {c : Int} (h : checkE n l = 0) (hk : k < l.length) (h0 : 0 ≤ c) (hc : c ≤ (nth l k).cost) :
    (DE n (lowE l k c) 0 ≤ sumE (lowE l k c) ↔ DE n l 0 ≤ sumE l) ∧ (DE n l 0 ≤ sumE l → DE n (lowE l k c) 0 ≤ DE n l 0) := by
  have h2 := lowE_check h hk h0 hc
  refine ⟨?_, fun hd => ?_⟩
  · rw [ok_path h, ok_path h2]
    constructor
    · rintro ⟨p, hp⟩; exact ⟨p, by rw [← (lowE_path hk hc).1]; exact hp⟩
    · rintro ⟨p, hp⟩; exact ⟨p, by rw [(lowE_path hk hc).1]; exact hp⟩
  · obtain ⟨h3, h4⟩ := best_ok h hd
    have h5 := lowE_path (n := n.toNat) (p := pathE l (FE n l) n.toNat n.toNat 0) (v := 0) hk hc
    have := best_path h2 (p := pathE l (FE n l) n.toNat n.toNat 0) (by rw [h5.1]; exact h3)
    omega
/-! Without an edge -/
def outE (l : List Edge) (k : Nat) : List Edge := l.take k ++ l.drop (k + 1)
def dnI (k : Nat) (y : Int) : Int := if (k : Int) < y then y - 1 else y
def upI (k : Nat) (y : Int) : Int := if (k : Int) ≤ y then y + 1 else y
theorem outE_len {l : List Edge} {k : Nat} (hk : k < l.length) : (outE l k).length = l.length - 1 := by unfold outE; simp; omega
theorem outE_nth {l : List Edge} {k i : Nat} (hk : k < l.length) : nth (outE l k) i = nth l (if i < k then i else i + 1) := by
  unfold outE
  by_cases h : i < k
  · rw [if_pos h, nth_append_left (by simp; omega), nth_take_lt h]
  · rw [if_neg h, nth_append_right (by simp; omega), nth_drop_add]; congr 1; simp; omega
theorem outE_up {l : List Edge} {k : Nat} {i : Int} (hk : k < l.length) (hi : 0 ≤ i) : nth (outE l k) i.toNat = nth l (upI k i).toNat := by
  rw [outE_nth hk]
  congr 1
  unfold upI
  split <;> split <;> omega
theorem outE_path {n : Nat} {l : List Edge} {k : Nat} (hk : k < l.length) : ∀ {p : List Int} {v : Int}, (∀ i ∈ p, 0 ≤ i) → pathP n (outE l k) p v = pathP n l (p.map (upI k)) v ∧ wtP (outE l k) p = wtP l (p.map (upI k))
  | [], v, _ => ⟨rfl, rfl⟩
  | i :: r, v, h0 => by
    have hi := h0 i (by simp)
    obtain ⟨i1, i2⟩ := outE_path (n := n) hk (p := r) (v := (nth l (upI k i).toNat).dst) (fun j hj => h0 j (List.mem_cons_of_mem _ hj))
    rw [List.map_cons, wtP_cons, wtP_cons, i2, outE_up hk hi]
    refine ⟨?_, rfl⟩
    simp only [pathP, outE_up hk hi, i1, outE_len hk]
    congr 1
    rw [decide_eq_decide]
    have e : (0 ≤ i ∧ i < ((l.length - 1 : Nat) : Int)) ↔ (0 ≤ upI k i ∧ upI k i < (l.length : Int)) := by
      unfold upI
      split <;> omega
    constructor
    · rintro ⟨a, b, c⟩; exact ⟨(e.1 ⟨a, b⟩).1, (e.1 ⟨a, b⟩).2, c⟩
    · rintro ⟨a, b, c⟩; exact ⟨(e.2 ⟨a, b⟩).1, (e.2 ⟨a, b⟩).2, c⟩
theorem up_dn {k : Nat} {y : Int} (h : ¬ y = k) : upI k (dnI k y) = y := by
  unfold upI dnI
  split <;> split <;> omega
theorem up_dns {k : Nat} : ∀ {p : List Int}, (∀ i ∈ p, ¬ i = (k : Int)) → (p.map (dnI k)).map (upI k) = p
  | [], _ => rfl
  | i :: r, h => by
    simp only [List.map_cons]
    rw [up_dn (h i (by simp)), up_dns (fun j hj => h j (List.mem_cons_of_mem _ hj))]
theorem before_up {k : Nat} : ∀ {p q : List Int}, beforeL (p.map (upI k)) (q.map (upI k)) = beforeL p q
  | [], [] => rfl
  | [], _ :: _ => rfl
  | _ :: _, [] => rfl
  | x :: p, y :: q => by
    simp only [List.map_cons, beforeL, before_up (p := p) (q := q)]
    have e1 : (upI k x = upI k y) ↔ x = y := by unfold upI; split <;> split <;> omega
    have e2 : (upI k x < upI k y) ↔ x < y := by unfold upI; split <;> split <;> omega
    by_cases h : x = y
    · rw [if_pos h, if_pos (e1.2 h)]
    · rw [if_neg h, if_neg (fun e => h (e1.1 e)), decide_eq_decide]; exact e2
theorem before_eq : ∀ {p q : List Int}, beforeL p q = false → beforeL q p = false → p = q
  | [], [], _, _ => rfl
  | [], _ :: _, h, _ => by simp [beforeL] at h
  | _ :: _, [], _, h => by simp [beforeL] at h
  | x :: p, y :: q, h1, h2 => by
    simp only [beforeL] at h1 h2
    by_cases e : x = y
    · subst e
      rw [if_pos rfl] at h1 h2
      rw [before_eq h1 h2]
    · rw [if_neg e] at h1
      rw [if_neg (fun x => e x.symm)] at h2
      simp at h1 h2
      omega
theorem outE_check {n : Int} {l : List Edge} {k : Nat} (h : checkE n l = 0) (hk : k < l.length) : checkE n (outE l k) = 0 := by
  obtain ⟨h1, h2, h3⟩ := checkE_ok h
  have hl := outE_len hk
  unfold checkE
  rw [if_neg (by omega), if_pos]
  refine ⟨h1.1, ?_⟩
  rw [List.all_eq_true]
  intro x hx
  obtain ⟨i, hi, rfl⟩ := List.mem_iff_getElem.1 hx
  rw [← nth_eq hi, outE_nth hk]
  exact h3 _ (by split <;> omega)
theorem out_ok {n : Int} {l : List Edge} {k : Nat} (h : checkE n l = 0) (hk : k < l.length) (hp : ∀ i ∈ (bestS n l).1, ¬ i = (k : Int)) :
    bestS n (outE l k) = ((bestS n l).1.map (dnI k), (bestS n l).2.1, (bestS n l).2.2.1, 0) := by
  have h2 := outE_check h hk
  unfold bestS at hp ⊢
  rw [if_pos h] at hp ⊢
  rw [if_pos h2]
  by_cases hd : DE n l 0 ≤ sumE l
  · rw [if_pos hd] at hp ⊢
    simp only at hp ⊢
    obtain ⟨b1, b2⟩ := best_ok h hd
    generalize hP : pathE l (FE n l) n.toNat n.toNat 0 = p at *
    have hu := up_dns hp
    have hge : ∀ i ∈ p.map (dnI k), 0 ≤ i := by
      intro i hi
      obtain ⟨j, hj, rfl⟩ := List.mem_map.1 hi
      have := path_all b1 j hj
      unfold dnI; split <;> omega
    obtain ⟨c1, c2⟩ := outE_path (n := n.toNat) (v := 0) hk hge
    rw [hu] at c1 c2
    obtain ⟨d1, _, d3, d4⟩ := best_path h2 (p := p.map (dnI k)) (by rw [c1]; exact b1)
    obtain ⟨e1, e2⟩ := best_ok h2 d3
    rw [if_pos d3]
    generalize hQ : pathE (outE l k) (FE n (outE l k)) n.toNat n.toNat 0 = q at *
    have hgq : ∀ i ∈ q, 0 ≤ i := fun i hi => (path_all e1 i hi).1
    obtain ⟨f1, f2⟩ := outE_path (n := n.toNat) (v := 0) hk hgq
    obtain ⟨g1, _, _, g4⟩ := best_path h (p := q.map (upI k)) (by rw [← f1]; exact e1)
    rw [hP] at g4
    have hD : DE n (outE l k) 0 = DE n l 0 := by omega
    have k1 := d4 (by omega)
    have k2 := g4 (by omega)
    rw [← hu, before_up] at k2
    rw [before_eq k1 k2, hD]
  · rw [if_neg hd, if_neg]
    · rfl
    · intro hd2
      obtain ⟨e1, _⟩ := best_ok h2 hd2
      have hgq := fun i hi => (path_all e1 i hi).1
      obtain ⟨f1, _⟩ := outE_path (n := n.toNat) (v := 0) hk hgq
      exact hd ((ok_path h).2 ⟨_, by rw [← f1]; exact e1⟩)
end Go.Ab
