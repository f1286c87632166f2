/- Layer 20 (lattice), plain: what the functions answer; what is accepted; what is said. -/
import Derived.Test.YtgfomibaakpdnaaDoorP20b
import Derived.Test.YtgfomibaakpdnaaDoorT3
set_option linter.unusedVariables false
set_option linter.unusedSimpArgs false
set_option linter.unusedSectionVars false
set_option linter.deprecated false
namespace Go.Ab
def edgeOk (n : Int) (x : Edge) : Bool := decide (0 ≤ x.src ∧ x.src < x.dst ∧ x.dst ≤ n ∧ 0 ≤ x.cost ∧ x.cost ≤ 1048576) && wordS x.text
/-- the error of a lattice -/
def checkE (n : Int) (l : List Edge) : Int := if 64 < n ∨ 256 < l.length then 2 else if 1 ≤ n ∧ l.all (edgeOk n) = true then 0 else 200
theorem checkE_ok {n : Int} {l : List Edge} (h : checkE n l = 0) : (1 ≤ n ∧ n ≤ 64) ∧ l.length ≤ 256 ∧ ∀ i, i < l.length → edgeOk n (nth l i) = true := by
  unfold checkE at h
  split at h
  · cases h
  · split at h
    · rename_i h1 h2
      refine ⟨by omega, by omega, fun i hi => List.all_eq_true.1 h2.2 _ (nth_mem hi)⟩
    · cases h
theorem edgeOk_at {n : Int} {x : Edge} (h : edgeOk n x = true) : 0 ≤ x.src ∧ x.src < x.dst ∧ x.dst ≤ n ∧ 0 ≤ x.cost ∧ x.cost ≤ 1048576 := by
  unfold edgeOk at h
  simp only [Bool.and_eq_true, decide_eq_true_eq] at h
  exact h.1
theorem checkE_in {n : Int} {l : List Edge} (h : checkE n l = 0) : EdgesIn n.toNat l := by
  obtain ⟨h1, _, h2⟩ := checkE_ok h
  intro i hi
  have := edgeOk_at (h2 i hi)
  omega
theorem checkE_sum {n : Int} {l : List Edge} (h : checkE n l = 0) : 0 ≤ sumE l ∧ sumE l ≤ 268435456 := by
  obtain ⟨h1, h3, h2⟩ := checkE_ok h
  refine ⟨sumE_nonneg (edges_cost (checkE_in h)), ?_⟩
  have : sumE l ≤ 1048576 * l.length := sumE_le fun x hx => by
    obtain ⟨i, hi, rfl⟩ := List.mem_iff_getElem.1 hx
    rw [← nth_eq hi]; exact (edgeOk_at (h2 i hi)).2.2.2.2
  omega
theorem sumE_part {l : List Edge} {i : Nat} (h : ∀ x ∈ l, 0 ≤ x.cost) : 0 ≤ sumE (l.take i) ∧ sumE (l.take i) ≤ sumE l := by
  refine ⟨sumE_nonneg fun x hx => h x (List.mem_of_mem_take hx), ?_⟩
  have h1 := sumE_nonneg (l := l.drop i) (fun x hx => h x (List.mem_of_mem_drop hx))
  have h2 : sumE l = sumE (l.take i) + sumE (l.drop i) := by
    have h3 := congrArg sumE (List.take_append_drop i l)
    rw [← h3]; unfold sumE; rw [List.map_append, List.sum_append]
  omega
def DE (n : Int) (l : List Edge) : Nat → Int := costE n.toNat l (sumE l + 1)
def FE (n : Int) (l : List Edge) : Nat → Int := firstE n.toNat l (sumE l + 1)
def bestS (n : Int) (l : List Edge) : List Int × Int × Bool × Int :=
  if checkE n l = 0 then (if DE n l 0 ≤ sumE l then (pathE l (FE n l) n.toNat n.toNat 0, DE n l 0, true, 0) else ([], 0, false, 0)) else ([], 0, false, checkE n l)
def proveS (n : Int) (l : List Edge) : List Int × Bool × Int :=
  if checkE n l = 0 then (if DE n l 0 ≤ sumE l then (rowF (n.toNat + 1) (DE n l), true, 0) else ([], false, 0)) else ([], false, checkE n l)
theorem nums_DE {n : Int} {l : List Edge} (h : checkE n l = 0) : Nums n.toNat l (DE n l) (FE n l) := nums_of (checkE_in h)
theorem D_le {n : Nat} {l : List Edge} {D F : Nat → Int} (h : EdgesIn n l) (N : Nums n l D F) {v : Nat} (hv : v ≤ n) : D v ≤ sumE l + 1 := by
  have hs := sumE_nonneg (edges_cost h)
  by_cases e : v = n
  · subst e; rw [N.fin]; omega
  · rw [(N.node v (by omega)).1]; exact (bestE_spec l.length).1
theorem DE_bound {n : Int} {l : List Edge} (h : checkE n l = 0) {v : Nat} (hv : v ≤ n.toNat) : 0 ≤ DE n l v ∧ DE n l v ≤ sumE l + 1 :=
  ⟨D_nonneg (checkE_in h) (nums_DE h) n.toNat v (by omega) hv, D_le (checkE_in h) (nums_DE h) hv⟩
theorem DE_edge {n : Int} {l : List Edge} (h : checkE n l = 0) {i : Nat} (hi : i < l.length) : DE n l (nth l i).src.toNat ≤ (nth l i).cost + DE n l (nth l i).dst.toNat := by
  have he := checkE_in h i hi
  have N := nums_DE h
  have h1 := DE_bound h (v := (nth l i).src.toNat) (by omega)
  have h2 := DE_bound h (v := (nth l i).dst.toNat) (by omega)
  by_cases e : DE n l (nth l i).dst.toNat < sumE l + 1
  · rw [(N.node (nth l i).src.toNat (by omega)).1]
    exact (bestE_spec l.length).2.1 i hi (by omega) e
  · omega
/-! What is accepted -/
def accE (n : Int) (l : List Edge) (p h : List Int) : Bool :=
  pathP n.toNat l p 0 && decide ((h.length : Int) = n + 1) && h.all (fun x => decide (0 ≤ x ∧ x ≤ 1099511627776)) && l.all (fun x => decide (nth h x.src.toNat ≤ x.cost + nth h x.dst.toNat)) && decide (nth h 0 - nth h n.toNat = wtP l p)
def accS (n : Int) (l : List Edge) (p h : List Int) : Bool × Int := if checkE n l = 0 then (accE n l p h, 0) else (false, checkE n l)
/-- numbers bound all paths -/
theorem path_numbers {n : Nat} {l : List Edge} {h : Nat → Int} (he : EdgesIn n l) (hh : ∀ i, i < l.length → h (nth l i).src.toNat ≤ (nth l i).cost + h (nth l i).dst.toNat) : ∀ {p : List Int} {v : Nat}, pathP n l p v = true → h v - h n ≤ wtP l p
  | [], v, hp => by
    simp only [pathP, decide_eq_true_eq] at hp
    obtain rfl : v = n := by omega
    rw [wtP_nil]; omega
  | i :: r, v, hp => by
    simp only [pathP, Bool.and_eq_true, decide_eq_true_eq] at hp
    obtain ⟨⟨h0, h1, h2⟩, h3⟩ := hp
    have hi : i.toNat < l.length := by omega
    have hei := he i.toNat hi
    have e : ((nth l i.toNat).dst.toNat : Int) = (nth l i.toNat).dst := by omega
    rw [← e] at h3
    have ih := path_numbers he hh h3
    have h4 := hh i.toNat hi
    rw [wtP_cons]
    have e2 : (nth l i.toNat).src.toNat = v := by omega
    rw [e2] at h4
    omega
theorem path_all {n : Nat} {l : List Edge} : ∀ {p : List Int} {v : Int}, pathP n l p v = true → ∀ i ∈ p, 0 ≤ i ∧ i < l.length
  | [], _, _ => by simp
  | j :: r, v, hp => by
    simp only [pathP, Bool.and_eq_true, decide_eq_true_eq] at hp
    intro i hi
    rcases List.mem_cons.1 hi with rfl | hi
    · exact ⟨hp.1.1, hp.1.2.1⟩
    · exact path_all hp.2 i hi
theorem path_len {n : Nat} {l : List Edge} (he : EdgesIn n l) : ∀ {p : List Int} {v : Nat}, pathP n l p v = true → p.length + v ≤ n
  | [], v, hp => by
    simp only [pathP, decide_eq_true_eq] at hp
    simp; omega
  | i :: r, v, hp => by
    simp only [pathP, Bool.and_eq_true, decide_eq_true_eq] at hp
    have hi : i.toNat < l.length := by omega
    have hei := he i.toNat hi
    have e : ((nth l i.toNat).dst.toNat : Int) = (nth l i.toNat).dst := by omega
    have h3 := hp.2
    rw [← e] at h3
    have := path_len he h3
    simp only [List.length_cons]; omega
/-- a path: what Best then answers -/
theorem best_path {n : Int} {l : List Edge} (h : checkE n l = 0) {p : List Int} (hp : pathP n.toNat l p 0 = true) : DE n l 0 ≤ wtP l p ∧ wtP l p ≤ sumE l ∧ DE n l 0 ≤ sumE l ∧ (wtP l p = DE n l 0 → beforeL p (pathE l (FE n l) n.toNat n.toNat 0) = false) := by
  have he := checkE_in h
  have N := nums_DE h
  have h1 := path_least he N (p := p) (v := 0) (Nat.zero_le _) (by exact_mod_cast hp)
  have h2 := path_sum he hp
  exact ⟨h1, h2, by omega, fun e => pathE_first he N (by omega) (Nat.zero_le _) (by exact_mod_cast hp) e⟩
theorem best_ok {n : Int} {l : List Edge} (h : checkE n l = 0) (hd : DE n l 0 ≤ sumE l) : pathP n.toNat l (pathE l (FE n l) n.toNat n.toNat 0) 0 = true ∧ wtP l (pathE l (FE n l) n.toNat n.toNat 0) = DE n l 0 := by
  have := pathE_ok (checkE_in h) (nums_DE h) (k := n.toNat) (v := 0) (by omega) (Nat.zero_le _) (by omega)
  exact ⟨by exact_mod_cast this.1, this.2⟩
theorem acc_own {n : Int} {l : List Edge} (h : checkE n l = 0) (hd : DE n l 0 ≤ sumE l) : accE n l (pathE l (FE n l) n.toNat n.toNat 0) (rowF (n.toNat + 1) (DE n l)) = true := by
  obtain ⟨h1, h2⟩ := best_ok h hd
  obtain ⟨hn, _⟩ := checkE_ok h
  have hs := checkE_sum h
  have hin := checkE_in h
  unfold accE
  simp only [Bool.and_eq_true, decide_eq_true_eq, List.all_eq_true]
  refine ⟨⟨⟨⟨h1, by simp; omega⟩, fun x hx => ?_⟩, fun x hx => ?_⟩, ?_⟩
  · simp only [rowF, List.mem_map, List.mem_range] at hx
    obtain ⟨v, hv, rfl⟩ := hx
    have := DE_bound h (v := v) (by omega)
    omega
  · obtain ⟨i, hi, rfl⟩ := List.mem_iff_getElem.1 hx
    rw [← nth_eq hi]
    have := hin i hi
    rw [nth_rowF (by omega), nth_rowF (by omega)]
    exact DE_edge h hi
  · rw [nth_rowF (by omega), nth_rowF (by omega), h2, (nums_DE h).fin]; omega
theorem acc_sound {n : Int} {l : List Edge} (h : checkE n l = 0) {p k : List Int} (ha : accE n l p k = true) : (∀ i ∈ p, 0 ≤ i ∧ i < l.length) ∧ DE n l 0 ≤ sumE l ∧ wtP l p = DE n l 0 := by
  unfold accE at ha
  simp only [Bool.and_eq_true, decide_eq_true_eq, List.all_eq_true] at ha
  obtain ⟨⟨⟨⟨h1, h2⟩, h3⟩, h4⟩, h5⟩ := ha
  obtain ⟨b1, b2, b3, _⟩ := best_path h h1
  obtain ⟨c1, c2⟩ := best_ok h b3
  refine ⟨path_all h1, b3, ?_⟩
  have := path_numbers (h := nth k) (checkE_in h) (fun i hi => h4 _ (nth_mem hi)) (p := pathE l (FE n l) n.toNat n.toNat 0) (v := 0) (by exact_mod_cast c1)
  omega
/-! What is said -/
def nxE (l : List Edge) (at' : Nat → Bool) (w : List UInt8) (k v i u : Nat) : Bool :=
  anyTo k (fun j => decide ((nth l j).src < v ∨ (nth l j).src = v ∧ j < i) && (at' (nth l j).src.toNat && decide ((nth l j).dst = u) && decide ((nth l j).text = w)))
def stE (l : List Edge) (at' : Nat → Bool) (w : List UInt8) (u : Nat) : Bool := anyTo l.length (fun j => at' (nth l j).src.toNat && decide ((nth l j).dst = u) && decide ((nth l j).text = w))
def runE (l : List Edge) (ws : List (List UInt8)) (at' : Nat → Bool) : Nat → Bool := ws.foldl (stE l) at'
def at0 : Nat → Bool := fun v => decide (v = 0)
def saidE (n : Int) (l : List Edge) (ws : List (List UInt8)) : Bool := runE l ws at0 n.toNat
def saysS (n : Int) (l : List Edge) (ws : List (List UInt8)) : Bool × Int := if checkE n l = 0 then (saidE n l ws, 0) else (false, checkE n l)
theorem runE_snoc (l : List Edge) (ws : List (List UInt8)) (w : List UInt8) (a : Nat → Bool) : runE l (ws ++ [w]) a = stE l (runE l ws a) w := by unfold runE; rw [List.foldl_append]; rfl
theorem stE_iff {l : List Edge} {a : Nat → Bool} {w : List UInt8} {u : Nat} : stE l a w u = true ↔ ∃ i, i < l.length ∧ a (nth l i).src.toNat = true ∧ (nth l i).dst = u ∧ (nth l i).text = w := by
  unfold stE
  rw [anyTo_iff]
  constructor
  · rintro ⟨i, hi, h⟩
    simp only [Bool.and_eq_true, decide_eq_true_eq] at h
    exact ⟨i, hi, h.1.1, h.1.2, h.2⟩
  · rintro ⟨i, hi, h1, h2, h3⟩
    exact ⟨i, hi, by simp [h1, h2, h3]⟩
/-- each word goes on by a node at least -/
theorem runE_far {n : Nat} {l : List Edge} (he : EdgesIn n l) : ∀ (k : Nat) {ws : List (List UInt8)} {u : Nat}, ws.length = k → runE l ws at0 u = true → ws.length ≤ u
  | 0, ws, u, hk, _ => by omega
  | k + 1, ws, u, hk, h => by
    obtain ⟨r, w, rfl⟩ : ∃ r w, ws = r ++ [w] := ⟨ws.dropLast, ws.getLast (by intro e; rw [e] at hk; simp at hk), (List.dropLast_concat_getLast _).symm⟩
    rw [runE_snoc, stE_iff] at h
    obtain ⟨i, hi, h1, h2, _⟩ := h
    have hei := he i hi
    have := runE_far he k (ws := r) (by simpa using hk) h1
    simp only [List.length_append, List.length_singleton]; omega
theorem said_long {n : Int} {l : List Edge} (h : checkE n l = 0) {ws : List (List UInt8)} (hl : n < (ws.length : Int)) : saidE n l ws = false := by
  cases hb : saidE n l ws with
  | false => rfl
  | true =>
    have := runE_far (checkE_in h) _ rfl hb
    have := (checkE_ok h).1
    omega
theorem said_path {n : Nat} {l : List Edge} (he : EdgesIn n l) : ∀ {p : List Int} {v : Nat} {a : Nat → Bool}, a v = true → pathP n l p v = true → runE l (p.map fun i => (nth l i.toNat).text) a n = true
  | [], v, a, ha, hp => by
    simp only [pathP, decide_eq_true_eq] at hp
    obtain rfl : v = n := by omega
    exact ha
  | i :: r, v, a, ha, hp => by
    simp only [pathP, Bool.and_eq_true, decide_eq_true_eq] at hp
    obtain ⟨⟨h0, h1, h2⟩, h3⟩ := hp
    have hi : i.toNat < l.length := by omega
    have hei := he i.toNat hi
    have e : ((nth l i.toNat).dst.toNat : Int) = (nth l i.toNat).dst := by omega
    rw [← e] at h3
    show runE l (r.map _) (stE l a (nth l i.toNat).text) n = true
    refine said_path he ?_ h3
    rw [stE_iff]
    exact ⟨i.toNat, hi, by rw [show (nth l i.toNat).src.toNat = v by omega]; exact ha, by omega, rfl⟩
theorem path_said {n : Nat} {l : List Edge} (he : EdgesIn n l) : ∀ {ws : List (List UInt8)} {a : Nat → Bool}, runE l ws a n = true → ∃ (v : Nat) (p : List Int), a v = true ∧ pathP n l p v = true
  | [], a, h => ⟨n, [], h, by simp [pathP]⟩
  | w :: ws, a, h => by
    obtain ⟨v, p, h1, h2⟩ := path_said he (ws := ws) (a := stE l a w) h
    rw [stE_iff] at h1
    obtain ⟨i, hi, h3, h4, _⟩ := h1
    have hei := he i hi
    refine ⟨(nth l i).src.toNat, (i : Int) :: p, h3, ?_⟩
    simp only [pathP, Bool.and_eq_true, decide_eq_true_eq, Int.toNat_natCast]
    exact ⟨⟨by omega, by omega, by omega⟩, by rw [h4]; exact h2⟩
theorem said_some {n : Int} {l : List Edge} (h : checkE n l = 0) {ws : List (List UInt8)} (hs : saidE n l ws = true) : DE n l 0 ≤ sumE l := by
  obtain ⟨v, p, h1, h2⟩ := path_said (checkE_in h) hs
  simp only [at0, decide_eq_true_eq] at h1
  subst h1
  exact (best_path h (by exact_mod_cast h2)).2.2.1
theorem said_own {n : Int} {l : List Edge} (h : checkE n l = 0) {p : List Int} (hp : pathP n.toNat l p 0 = true) : saidE n l (p.map fun i => (nth l i.toNat).text) = true :=
  said_path (checkE_in h) (v := 0) (a := at0) rfl (by exact_mod_cast hp)
end Go.Ab
