/- A quick test for regions whose order is open: what stands ahead of an operation as the bits of a number. -/
import Derived.Test.YtdfpmhgfmmcopaaDoorAbsMore
set_option linter.unusedVariables false
set_option linter.unusedSimpArgs false
set_option linter.unusedSectionVars false
set_option linter.deprecated false
namespace Go.Ab
def bstep (acc : List (List Nat)) (o : Oper) : List Nat := o.after.toList.foldl (fun s e => if Region.binds .any e then e.on :: (acc.getD e.on [] ++ s) else s) []
theorem befores_eq (ops : Array Oper) : befores ops = ops.toList.foldl (fun acc o => acc ++ [bstep acc o]) [] := rfl
def mstep (acc : List Nat) (k : Nat) (o : Oper) : Nat := o.after.toList.foldl (fun s e => if Region.binds .any e then s ||| (2 ^ e.on ||| (if e.on < k then acc.getD (k - 1 - e.on) 0 else 0)) else s) 0
def pairsF (c : Cfg) (ops : Array Oper) (m : Nat) (y : Oper) : List Oper → Nat → Bool
  | [], _ => true
  | x :: r, k => (m.testBit (k - 1) || indep c ops x y) && pairsF c ops m y r (k - 1)
def chkF (c : Cfg) (ops : Array Oper) : List Oper → Nat → List Nat → List Oper → Bool
  | [], _, _, _ => true
  | o :: l, k, macc, prev => pairsF c ops (mstep macc k o) o prev k && chkF c ops l (k + 1) (mstep macc k o :: macc) (o :: prev)
def drawOkF (c : Cfg) (ops : Array Oper) : Bool := edgesBack ops && chkF c ops ops.toList 0 [] []

def RelF (acc : List (List Nat)) (macc : List Nat) (k : Nat) : Prop := acc.length = k ∧ ∀ j, j < k → ∀ a, (macc.getD (k - 1 - j) 0).testBit a = true → a ∈ acc.getD j []
theorem mstep_sound {acc : List (List Nat)} {macc : List Nat} {k : Nat} (h : RelF acc macc k) (o : Oper) : ∀ a, (mstep macc k o).testBit a = true → a ∈ bstep acc o := by
  unfold mstep bstep
  have key : ∀ (es : List Edge) (s : List Nat) (ms : Nat), (∀ a, ms.testBit a = true → a ∈ s) →
      ∀ a, (es.foldl (fun s e => if Region.binds .any e then s ||| (2 ^ e.on ||| (if e.on < k then macc.getD (k - 1 - e.on) 0 else 0)) else s) ms).testBit a = true →
        a ∈ es.foldl (fun s e => if Region.binds .any e then e.on :: (acc.getD e.on [] ++ s) else s) s := by
    intro es
    induction es with
    | nil => intro s ms hs a ha; exact hs a ha
    | cons e es ih =>
      intro s ms hs
      simp only [List.foldl_cons]
      apply ih
      by_cases hb : Region.binds .any e = true
      · rw [if_pos hb, if_pos hb]
        intro a ha
        rw [Nat.testBit_or, Nat.testBit_or, Nat.testBit_two_pow] at ha
        simp only [Bool.or_eq_true, decide_eq_true_eq] at ha
        rcases ha with ha | ha | ha
        · exact List.mem_cons_of_mem _ (List.mem_append_right _ (hs a ha))
        · rw [ha]; exact List.mem_cons_self
        · by_cases hk : e.on < k
          · rw [if_pos hk] at ha
            exact List.mem_cons_of_mem _ (List.mem_append_left _ (h.2 e.on hk a ha))
          · rw [if_neg hk] at ha; simp at ha
      · rw [if_neg hb, if_neg hb]; exact hs
  exact key _ [] 0 (by simp)
theorem pairsF_sound {c : Cfg} {ops : Array Oper} {m : Nat} {y : Oper} : ∀ (prev : List Oper) (k : Nat), prev.length = k → pairsF c ops m y prev k = true →
    ∀ a, a < k → m.testBit a = true ∨ ∃ x, prev.reverse[a]? = some x ∧ indep c ops x y = true
  | [], k, hk, _, a, ha => by simp at hk; omega
  | x :: r, k, hk, h, a, ha => by
    unfold pairsF at h
    simp only [Bool.and_eq_true, Bool.or_eq_true] at h
    simp only [List.length_cons] at hk
    by_cases hl : a = k - 1
    · rcases h.1 with h1 | h1
      · left; rw [hl]; exact h1
      · right
        refine ⟨x, ?_, h1⟩
        rw [List.reverse_cons, List.getElem?_append_right (by simp; omega)]
        simp [show a - r.length = 0 by omega]
    · rcases pairsF_sound r (k - 1) (by omega) h.2 a (by omega) with h1 | ⟨z, h1, h2⟩
      · exact .inl h1
      · right
        refine ⟨z, ?_, h2⟩
        rw [List.reverse_cons, List.getElem?_append_left (by simp; omega)]
        exact h1
theorem foldB_len (l : List Oper) : ∀ acc : List (List Nat), (l.foldl (fun acc o => acc ++ [bstep acc o]) acc).length = acc.length + l.length := by
  induction l with
  | nil => intro acc; rfl
  | cons o l ih => intro acc; rw [List.foldl_cons, ih]; simp; omega
theorem foldB_keep (l : List Oper) : ∀ (acc : List (List Nat)) (j : Nat), j < acc.length → (l.foldl (fun acc o => acc ++ [bstep acc o]) acc).getD j [] = acc.getD j [] := by
  induction l with
  | nil => intro acc j _; rfl
  | cons o l ih =>
    intro acc j hj
    rw [List.foldl_cons, ih _ _ (by simp; omega), List.getD_eq_getElem?_getD, List.getD_eq_getElem?_getD, List.getElem?_append_left hj]
theorem chkF_sound {c : Cfg} {ops : Array Oper} : ∀ (l p : List Oper) (macc : List Nat) (acc : List (List Nat)), RelF acc macc p.length → chkF c ops l p.length macc p.reverse = true →
    ∀ i, p.length ≤ i → i < p.length + l.length → ∀ a, a < i → a ∈ (l.foldl (fun acc o => acc ++ [bstep acc o]) acc).getD i [] ∨ ∃ x y, (p ++ l)[a]? = some x ∧ (p ++ l)[i]? = some y ∧ indep c ops x y = true
  | [], p, macc, acc, hR, h, i, h1, h2, a, ha => by simp at h2; omega
  | o :: l, p, macc, acc, hR, h, i, h1, h2, a, ha => by
    unfold chkF at h
    simp only [Bool.and_eq_true] at h
    have hR' : RelF (acc ++ [bstep acc o]) (mstep macc p.length o :: macc) (p ++ [o]).length := by
      refine ⟨by simp [hR.1], fun j hj b hb => ?_⟩
      simp only [List.length_append, List.length_cons, List.length_nil] at hj hb
      by_cases hjl : j = p.length
      · subst hjl
        have : p.length + (0 + 1) - 1 - p.length = 0 := by omega
        rw [this] at hb
        have := mstep_sound hR o b (by simpa using hb)
        rw [List.getD_eq_getElem?_getD, List.getElem?_append_right (by rw [hR.1]; exact Nat.le_refl _), hR.1]
        simpa using this
      · have e : p.length + (0 + 1) - 1 - j = (p.length - 1 - j) + 1 := by omega
        rw [e] at hb
        have := hR.2 j (by omega) b (by simpa using hb)
        rw [List.getD_eq_getElem?_getD, List.getElem?_append_left (by rw [hR.1]; omega), ← List.getD_eq_getElem?_getD]
        exact this
    by_cases hi : i = p.length
    · subst hi
      rcases pairsF_sound p.reverse p.length (by simp) h.1 a ha with hm | ⟨x, hx, hxy⟩
      · left
        rw [List.foldl_cons, foldB_keep _ _ _ (by simp [hR.1]), List.getD_eq_getElem?_getD, List.getElem?_append_right (by rw [hR.1]; exact Nat.le_refl _), hR.1]
        simpa using mstep_sound hR o a hm
      · right
        rw [List.reverse_reverse] at hx
        refine ⟨x, o, ?_, ?_, hxy⟩
        · rw [List.getElem?_append_left ha]; exact hx
        · rw [List.getElem?_append_right (Nat.le_refl _)]; simp
    · have ih := chkF_sound l (p ++ [o]) (mstep macc p.length o :: macc) (acc ++ [bstep acc o]) hR' (by simpa using h.2) i (by simp; omega) (by simp at h2 ⊢; omega) a ha
      rw [List.foldl_cons]
      simpa using ih
theorem drawOkF_ok {c : Cfg} {ops : Array Oper} (h : drawOkF c ops = true) : drawOk c ops = true := by
  unfold drawOkF at h
  simp only [Bool.and_eq_true] at h
  unfold drawOk
  simp only [Bool.and_eq_true]
  refine ⟨h.1, ?_⟩
  rw [List.all_eq_true]
  intro i hi
  rw [List.all_eq_true]
  intro a ha
  simp only [List.mem_range] at hi ha
  have := chkF_sound (c := c) (ops := ops) ops.toList [] [] [] ⟨rfl, fun j hj => by simp at hj⟩ h.2 i (by simp) (by simpa using hi) a ha
  simp only [List.nil_append] at this
  rw [← befores_eq] at this
  simp only [Bool.or_eq_true]
  rcases this with h1 | ⟨x, y, h1, h2, h3⟩
  · left; simpa using h1
  · right
    have e1 : ops[a]? = some x := by simpa using h1
    have e2 : ops[i]? = some y := by simpa using h2
    rw [e1, e2]; exact h3
theorem wp_drawF {c : Cfg} {K : List Fr} {Q : Ax → St → Prop} {s : St} {id : Nat} {ops : Array Oper} (h : drawOkF c ops = true) (k : wo c true ops 0 ops.toList s K Q) : wp c (.region id ops true) s K Q := wp_draw c (drawOkF_ok h) k
end Go.Ab
