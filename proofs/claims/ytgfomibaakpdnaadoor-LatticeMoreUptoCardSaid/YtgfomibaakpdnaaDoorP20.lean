/- Layer 20 (lattice), plain: edges, least costs, first edges. -/
import Derived.Test.YtgfomibaakpdnaaDoorU
import Derived.Test.YtgfomibaakpdnaaDoorAbsD
set_option linter.unusedVariables false
set_option linter.unusedSimpArgs false
set_option linter.unusedSectionVars false
set_option linter.deprecated false
namespace Go.Ab
structure Edge where
  src : Int
  dst : Int
  cost : Int
  text : List UInt8
  deriving Inhabited, DecidableEq
def eE (x : Edge) : List V := [.int .i64 x.src, .int .i64 x.dst, .int .i64 x.cost, .str x.text]
instance : EncC eE 4 := ⟨fun _ => rfl, by decide, fun _ => rfl, fun _ => rfl, fun _ => rfl⟩
instance : EncP eE := ⟨fun _ _ => rfl, fun _ _ _ => rfl⟩
def sumE (l : List Edge) : Int := (l.map (·.cost)).sum
theorem sumE_take {l : List Edge} {i : Nat} (h : i < l.length) : sumE (l.take (i + 1)) = sumE (l.take i) + (nth l i).cost := by
  unfold sumE; rw [nth_take h]; simp
theorem sumE_nonneg {l : List Edge} (h : ∀ x ∈ l, 0 ≤ x.cost) : 0 ≤ sumE l := by
  induction l with
  | nil => simp [sumE]
  | cons x l ih =>
    have h1 := h x (by simp)
    have h2 := ih (fun y hy => h y (List.mem_cons_of_mem _ hy))
    unfold sumE at h2 ⊢
    simp only [List.map_cons, List.sum_cons]
    omega
theorem sumE_le {l : List Edge} {m : Int} (h : ∀ x ∈ l, x.cost ≤ m) : sumE l ≤ m * l.length := by
  induction l with
  | nil => simp [sumE]
  | cons x l ih =>
    have h1 := h x (by simp)
    have h2 := ih (fun y hy => h y (List.mem_cons_of_mem _ hy))
    unfold sumE at h2 ⊢
    simp only [List.map_cons, List.sum_cons, List.length_cons]
    rw [Int.natCast_add, Int.mul_add]
    omega
/-! One node: its edges in order; the least cost, and the first edge with it -/
def stpE (l : List Edge) (far : Int) (h : Nat → Int) (v : Nat) (s : Int × Int) (i : Nat) : Int × Int :=
  if (nth l i).src = v ∧ h (nth l i).dst.toNat < far ∧ (nth l i).cost + h (nth l i).dst.toNat < s.1 then ((nth l i).cost + h (nth l i).dst.toNat, i) else s
def bestE (l : List Edge) (far : Int) (h : Nat → Int) (v : Nat) (k : Nat) : Int × Int := (List.range k).foldl (stpE l far h v) (far, 0)
theorem bestE_zero (l : List Edge) (far : Int) (h : Nat → Int) (v : Nat) : bestE l far h v 0 = (far, 0) := rfl
theorem bestE_succ (l : List Edge) (far : Int) (h : Nat → Int) (v k : Nat) : bestE l far h v (k + 1) = stpE l far h v (bestE l far h v k) k := by
  unfold bestE; rw [List.range_succ, List.foldl_append]; rfl
/-- what is known of a node behind its first k edges -/
theorem bestE_spec {l : List Edge} {far : Int} {h : Nat → Int} {v : Nat} : ∀ k, (bestE l far h v k).1 ≤ far ∧
    (∀ i, i < k → (nth l i).src = v → h (nth l i).dst.toNat < far → (bestE l far h v k).1 ≤ (nth l i).cost + h (nth l i).dst.toNat) ∧
    ((bestE l far h v k).1 = far ∧ (bestE l far h v k).2 = 0 ∨ (bestE l far h v k).1 < far ∧ ∃ i : Nat, i < k ∧ (bestE l far h v k).2 = i ∧ (nth l i).src = v ∧ h (nth l i).dst.toNat < far ∧ (bestE l far h v k).1 = (nth l i).cost + h (nth l i).dst.toNat ∧
      ∀ j, j < i → (nth l j).src = v → h (nth l j).dst.toNat < far → (bestE l far h v k).1 < (nth l j).cost + h (nth l j).dst.toNat)
  | 0 => ⟨by rw [bestE_zero]; exact Int.le_refl _, fun i hi => by omega, .inl ⟨rfl, rfl⟩⟩
  | k + 1 => by
    obtain ⟨h1, h2, h3⟩ := bestE_spec (l := l) (far := far) (h := h) (v := v) k
    rw [bestE_succ]
    unfold stpE
    by_cases c : (nth l k).src = v ∧ h (nth l k).dst.toNat < far ∧ (nth l k).cost + h (nth l k).dst.toNat < (bestE l far h v k).1
    · rw [if_pos c]
      refine ⟨by simp only; omega, fun i hi hs hd => ?_, .inr ⟨by simp only; omega, k, by omega, rfl, c.1, c.2.1, rfl, fun j hj hs hd => ?_⟩⟩
      · by_cases e : i = k
        · subst e; exact Int.le_refl _
        · have := h2 i (by omega) hs hd; simp only; omega
      · have := h2 j hj hs hd; simp only; omega
    · rw [if_neg c]
      refine ⟨h1, fun i hi hs hd => ?_, ?_⟩
      · by_cases e : i = k
        · subst e
          apply Decidable.byContradiction
          intro hn
          exact c ⟨hs, hd, by omega⟩
        · exact h2 i (by omega) hs hd
      · rcases h3 with h3 | ⟨h4, i, h5, h6⟩
        · exact .inl h3
        · exact .inr ⟨h4, i, by omega, h6⟩
/-! All nodes, from the last one -/
/-- the numbers and first edges behind k nodes -/
def tabE (n : Nat) (l : List Edge) (far : Int) : Nat → (Nat → Int) × (Nat → Int)
  | 0 => (fun _ => 0, fun _ => 0)
  | k + 1 => (updI (tabE n l far k).1 (n - 1 - k) (bestE l far (tabE n l far k).1 (n - 1 - k) l.length).1, updI (tabE n l far k).2 (n - 1 - k) (bestE l far (tabE n l far k).1 (n - 1 - k) l.length).2)
theorem tabE_1 (n : Nat) (l : List Edge) (far : Int) (k v : Nat) : (tabE n l far (k + 1)).1 v = if v = n - 1 - k then (bestE l far (tabE n l far k).1 (n - 1 - k) l.length).1 else (tabE n l far k).1 v := rfl
theorem tabE_2 (n : Nat) (l : List Edge) (far : Int) (k v : Nat) : (tabE n l far (k + 1)).2 v = if v = n - 1 - k then (bestE l far (tabE n l far k).1 (n - 1 - k) l.length).2 else (tabE n l far k).2 v := rfl
/-- a later step leaves what is done -/
theorem tabE_keep {n : Nat} {l : List Edge} {far : Int} {k j v : Nat} (hkj : k ≤ j) (hj : j ≤ n) (hv : n - k ≤ v) : (tabE n l far j).1 v = (tabE n l far k).1 v ∧ (tabE n l far j).2 v = (tabE n l far k).2 v := by
  induction j with
  | zero => obtain rfl : k = 0 := by omega
            exact ⟨rfl, rfl⟩
  | succ j ih =>
    by_cases e : k = j + 1
    · subst e; exact ⟨rfl, rfl⟩
    · have := ih (by omega) (by omega)
      rw [tabE_1, tabE_2, if_neg (by omega), if_neg (by omega)]
      exact this
def costE (n : Nat) (l : List Edge) (far : Int) : Nat → Int := (tabE n l far n).1
def firstE (n : Nat) (l : List Edge) (far : Int) : Nat → Int := (tabE n l far n).2
theorem bestE_congr {l : List Edge} {far : Int} {h h' : Nat → Int} {v : Nat} : ∀ {k : Nat}, (∀ i, i < k → (nth l i).src = v → h (nth l i).dst.toNat = h' (nth l i).dst.toNat) → bestE l far h v k = bestE l far h' v k
  | 0, _ => rfl
  | k + 1, hh => by
    rw [bestE_succ, bestE_succ, bestE_congr (fun i hi => hh i (by omega))]
    unfold stpE
    by_cases hs : (nth l k).src = v
    · rw [hh k (by omega) hs]
    · rw [if_neg (fun x => hs x.1), if_neg (fun x => hs x.1)]
/-- each node's numbers, by those of the later ones -/
theorem costE_node {n : Nat} {l : List Edge} {far : Int} (hl : ∀ i, i < l.length → 0 ≤ (nth l i).src ∧ (nth l i).src < (nth l i).dst ∧ (nth l i).dst ≤ n) {v : Nat} (hv : v < n) :
    costE n l far v = (bestE l far (costE n l far) v l.length).1 ∧ firstE n l far v = (bestE l far (costE n l far) v l.length).2 := by
  obtain ⟨k, hk⟩ : ∃ k, n - 1 - k = v ∧ k < n := ⟨n - 1 - v, by omega, by omega⟩
  have h1 := tabE_keep (n := n) (l := l) (far := far) (k := k + 1) (j := n) (v := v) (by omega) (Nat.le_refl _) (by omega)
  have hc : bestE l far (tabE n l far k).1 v l.length = bestE l far (costE n l far) v l.length := by
    refine bestE_congr fun i hi hs => ?_
    have := hl i hi
    exact ((tabE_keep (n := n) (l := l) (far := far) (k := k) (j := n) (v := (nth l i).dst.toNat) (by omega) (Nat.le_refl _) (by omega)).1).symm
  rw [← hc]
  unfold costE firstE
  rw [h1.1, h1.2, tabE_1, tabE_2, if_pos hk.1.symm, if_pos hk.1.symm, hk.1]
  exact ⟨rfl, rfl⟩
theorem costE_end {n : Nat} {l : List Edge} {far : Int} : costE n l far n = 0 := by
  unfold costE
  have := tabE_keep (n := n) (l := l) (far := far) (k := 0) (j := n) (v := n) (by omega) (Nat.le_refl _) (by omega)
  rw [this.1]; rfl
end Go.Ab
