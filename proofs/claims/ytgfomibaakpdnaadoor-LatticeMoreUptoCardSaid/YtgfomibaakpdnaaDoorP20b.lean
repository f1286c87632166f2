/- Layer 20 (lattice), plain: paths. -/
import Derived.Test.YtgfomibaakpdnaaDoorP20
import Derived.Test.YtgfomibaakpdnaaDoorP21
set_option linter.unusedVariables false
set_option linter.unusedSimpArgs false
set_option linter.unusedSectionVars false
set_option linter.deprecated false
namespace Go.Ab
/-- edges as they must be -/
def EdgesIn (n : Nat) (l : List Edge) : Prop := ∀ i, i < l.length → 0 ≤ (nth l i).src ∧ (nth l i).src < (nth l i).dst ∧ (nth l i).dst ≤ n ∧ 0 ≤ (nth l i).cost
/-- do some indices lead from a node to n? -/
def pathP (n : Nat) (l : List Edge) : List Int → Int → Bool
  | [], v => decide (v = n)
  | i :: r, v => decide (0 ≤ i ∧ i < l.length ∧ (nth l i.toNat).src = v) && pathP n l r (nth l i.toNat).dst
def wtP (l : List Edge) (p : List Int) : Int := (p.map fun i => (nth l i.toNat).cost).sum
theorem wtP_nil (l : List Edge) : wtP l [] = 0 := rfl
theorem wtP_cons (l : List Edge) (i : Int) (p : List Int) : wtP l (i :: p) = (nth l i.toNat).cost + wtP l p := by simp [wtP]
/-- the costs of all edges from a node on -/
def onE (v : Int) (l : List Edge) : Int := (l.map fun x => if v ≤ x.src then x.cost else 0).sum
theorem onE_cons (v : Int) (x : Edge) (l : List Edge) : onE v (x :: l) = (if v ≤ x.src then x.cost else 0) + onE v l := by simp [onE]
theorem onE_mono {v d : Int} (h : v ≤ d) : ∀ {l : List Edge}, (∀ x ∈ l, 0 ≤ x.cost) → onE d l ≤ onE v l
  | [], _ => Int.le_refl _
  | x :: l, hc => by
    have ih := onE_mono h (l := l) (fun y hy => hc y (List.mem_cons_of_mem _ hy))
    have h1 := hc x (by simp)
    rw [onE_cons, onE_cons]
    by_cases a : d ≤ x.src
    · rw [if_pos a, if_pos (by omega)]; omega
    · rw [if_neg a]
      split <;> omega
theorem onE_all {v : Int} : ∀ {l : List Edge}, (∀ x ∈ l, 0 ≤ x.cost) → onE v l ≤ sumE l
  | [], _ => Int.le_refl _
  | x :: l, hc => by
    have ih := onE_all (v := v) (l := l) (fun y hy => hc y (List.mem_cons_of_mem _ hy))
    have h1 := hc x (by simp)
    rw [onE_cons]
    unfold sumE at ih ⊢
    simp only [List.map_cons, List.sum_cons]
    split <;> omega
theorem onE_step {v d : Int} (hvd : v ≤ d) : ∀ {l : List Edge} {x : Edge}, x ∈ l → (∀ x ∈ l, 0 ≤ x.cost) → v ≤ x.src → x.src < d → x.cost + onE d l ≤ onE v l
  | [], x, hx, _, _, _ => by cases hx
  | y :: l, x, hx, hc, h1, h2 => by
    rw [onE_cons, onE_cons]
    have hy := hc y (by simp)
    rcases List.mem_cons.1 hx with rfl | hx
    · have := onE_mono hvd (l := l) (fun y hy => hc y (List.mem_cons_of_mem _ hy))
      rw [if_neg (by omega), if_pos h1]; omega
    · have ih := onE_step hvd hx (fun y hy => hc y (List.mem_cons_of_mem _ hy)) h1 h2
      by_cases a : d ≤ y.src
      · rw [if_pos a, if_pos (by omega)]; omega
      · rw [if_neg a]
        split <;> omega
theorem edges_cost {n : Nat} {l : List Edge} (h : EdgesIn n l) : ∀ x ∈ l, 0 ≤ x.cost := by
  intro x hx
  obtain ⟨i, hi, rfl⟩ := List.mem_iff_getElem.1 hx
  rw [← nth_eq hi]; exact (h i hi).2.2.2
theorem path_wt {n : Nat} {l : List Edge} (h : EdgesIn n l) : ∀ {p : List Int} {v : Int}, pathP n l p v = true → 0 ≤ wtP l p ∧ wtP l p ≤ onE v l
  | [], v, hp => by
    refine ⟨by simp [wtP], ?_⟩
    have : ∀ l : List Edge, (∀ x ∈ l, 0 ≤ x.cost) → 0 ≤ onE v l := by
      intro l
      induction l with
      | nil => intro _; simp [onE]
      | cons x l ih =>
        intro hc
        have h1 := hc x (by simp)
        have h2 := ih (fun y hy => hc y (List.mem_cons_of_mem _ hy))
        rw [onE_cons]; split <;> omega
    exact this l (edges_cost h)
  | i :: r, v, hp => by
    simp only [pathP, Bool.and_eq_true, decide_eq_true_eq] at hp
    obtain ⟨⟨h0, h1, h2⟩, h3⟩ := hp
    have hi : i.toNat < l.length := by omega
    have he := h i.toNat hi
    obtain ⟨w0, w1⟩ := path_wt h h3
    have := onE_step (v := v) (d := (nth l i.toNat).dst) (by omega) (nth_mem hi) (edges_cost h) (by omega) (by omega)
    rw [wtP_cons]
    omega
theorem path_sum {n : Nat} {l : List Edge} (h : EdgesIn n l) {p : List Int} {v : Int} (hp : pathP n l p v = true) : wtP l p ≤ sumE l := by
  have h1 := (path_wt h hp).2
  have h2 := onE_all (v := v) (edges_cost h)
  omega
/-- the numbers of right edges -/
structure Nums (n : Nat) (l : List Edge) (D F : Nat → Int) : Prop where
  fin : D n = 0
  node : ∀ v, v < n → D v = (bestE l (sumE l + 1) D v l.length).1 ∧ F v = (bestE l (sumE l + 1) D v l.length).2
theorem nums_of {n : Nat} {l : List Edge} (h : EdgesIn n l) : Nums n l (costE n l (sumE l + 1)) (firstE n l (sumE l + 1)) :=
  ⟨costE_end, fun _ hv => costE_node (fun i hi => ⟨(h i hi).1, (h i hi).2.1, (h i hi).2.2.1⟩) hv⟩
section
variable {n : Nat} {l : List Edge} {D F : Nat → Int}
/-- no path is cheaper -/
theorem path_least (h : EdgesIn n l) (N : Nums n l D F) : ∀ {p : List Int} {v : Nat}, v ≤ n → pathP n l p v = true → D v ≤ wtP l p
  | [], v, hv, hp => by
    simp only [pathP, decide_eq_true_eq] at hp
    obtain rfl : v = n := by omega
    rw [N.fin, wtP_nil]; exact Int.le_refl _
  | i :: r, v, hv, hp => by
    have hp2 := hp
    simp only [pathP, Bool.and_eq_true, decide_eq_true_eq] at hp
    obtain ⟨⟨h0, h1, h2⟩, h3⟩ := hp
    have hi : i.toNat < l.length := by omega
    have he := h i.toNat hi
    have e : ((nth l i.toNat).dst.toNat : Int) = (nth l i.toNat).dst := by omega
    rw [← e] at h3
    have ih := path_least h N (by omega) h3
    have hw := path_sum h h3
    have hvn : v < n := by omega
    have := (bestE_spec (l := l) (far := sumE l + 1) (h := D) (v := v) l.length).2.1 i.toNat hi h2 (by omega)
    rw [← (N.node v hvn).1] at this
    rw [wtP_cons]; omega
theorem D_nonneg (h : EdgesIn n l) (N : Nums n l D F) : ∀ (k v : Nat), n ≤ v + k → v ≤ n → 0 ≤ D v
  | 0, v, hk, hv => by obtain rfl : v = n := by omega
                       rw [N.fin]; exact Int.le_refl _
  | k + 1, v, hk, hv => by
    by_cases e : v = n
    · subst e; rw [N.fin]; exact Int.le_refl _
    · obtain ⟨_, _, h3⟩ := bestE_spec (l := l) (far := sumE l + 1) (h := D) (v := v) l.length
      rw [← (N.node v (by omega)).1] at h3
      have hs := sumE_nonneg (edges_cost h)
      rcases h3 with h3 | ⟨_, i, h5, _, h6, _, h7, _⟩
      · omega
      · have he := h i h5
        have := D_nonneg h N k (nth l i).dst.toNat (by omega) (by omega)
        omega
/-- the first of the cheapest paths -/
def pathE (l : List Edge) (F : Nat → Int) (n : Nat) : Nat → Nat → List Int
  | 0, _ => []
  | k + 1, v => if n ≤ v then [] else F v :: pathE l F n k (nth l (F v).toNat).dst.toNat
theorem pathE_ok (h : EdgesIn n l) (N : Nums n l D F) : ∀ {k v : Nat}, n ≤ v + k → v ≤ n → D v < sumE l + 1 → pathP n l (pathE l F n k v) v = true ∧ wtP l (pathE l F n k v) = D v
  | 0, v, hk, hv, hd => by
    obtain rfl : v = n := by omega
    simp [pathE, pathP, wtP_nil, N.fin]
  | k + 1, v, hk, hv, hd => by
    unfold pathE
    by_cases e : n ≤ v
    · obtain rfl : v = n := by omega
      simp [pathP, wtP_nil, N.fin]
    · rw [if_neg e]
      obtain ⟨_, _, h3⟩ := bestE_spec (l := l) (far := sumE l + 1) (h := D) (v := v) l.length
      rw [← (N.node v (by omega)).1, ← (N.node v (by omega)).2] at h3
      rcases h3 with h3 | ⟨_, i, h5, h5b, h6, h6b, h7, _⟩
      · omega
      · have he := h i h5
        rw [h5b]
        simp only [Int.toNat_natCast]
        obtain ⟨q1, q2⟩ := pathE_ok h N (k := k) (v := (nth l i).dst.toNat) (by omega) (by omega) (by omega)
        have ed : ((nth l i).dst.toNat : Int) = (nth l i).dst := by omega
        rw [ed] at q1
        refine ⟨?_, ?_⟩
        · simp [pathP, h5, h6, q1]
        · rw [wtP_cons, q2]; simp; omega
/-- no path as cheap comes before it -/
theorem pathE_first (h : EdgesIn n l) (N : Nums n l D F) : ∀ {p : List Int} {k v : Nat}, n ≤ v + k → v ≤ n → pathP n l p v = true → wtP l p = D v → beforeL p (pathE l F n k v) = false
  | [], k, v, hk, hv, hp, _ => by
    simp only [pathP, decide_eq_true_eq] at hp
    cases k with
    | zero => rfl
    | succ k => unfold pathE; rw [if_pos (by omega)]; rfl
  | i :: r, k, v, hk, hv, hp, hw => by
    have hall := path_sum h hp
    rw [wtP_cons] at hall
    simp only [pathP, Bool.and_eq_true, decide_eq_true_eq] at hp
    obtain ⟨⟨h0, h1, h2⟩, h3⟩ := hp
    have hi : i.toNat < l.length := by omega
    have he := h i.toNat hi
    have ed : ((nth l i.toNat).dst.toNat : Int) = (nth l i.toNat).dst := by omega
    rw [← ed] at h3
    have hl := path_least h N (by omega) h3
    have hsm := path_sum h h3
    cases k with
    | zero => omega
    | succ k =>
      unfold pathE
      rw [if_neg (by omega)]
      obtain ⟨b1, b2, b3⟩ := bestE_spec (l := l) (far := sumE l + 1) (h := D) (v := v) l.length
      rw [← (N.node v (by omega)).1] at b1 b2 b3
      rw [← (N.node v (by omega)).2] at b3
      have b4 := b2 i.toNat hi h2 (by omega)
      rw [wtP_cons] at hw
      rcases b3 with b3 | ⟨_, j, h5, h5b, h6, h6b, h7, h8⟩
      · omega
      · rw [h5b]
        by_cases e : i = j
        · have ej : i.toNat = j := by omega
          rw [e]
          simp only [beforeL, if_true, Int.toNat_natCast]
          rw [← ej]
          rw [← ej] at h7
          exact pathE_first h N (by omega) (by omega) h3 (by omega)
        · simp only [beforeL, if_neg e, decide_eq_false_iff_not]
          intro hlt
          have := h8 i.toNat (by omega) h2 (by omega)
          omega
end
end Go.Ab
