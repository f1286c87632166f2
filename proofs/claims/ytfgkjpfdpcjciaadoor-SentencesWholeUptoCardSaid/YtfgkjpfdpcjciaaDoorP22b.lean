/- Layer 22 (fuse), plain: what a step of an alignment does to slots; what is chosen. -/
import Derived.Test.YtfgkjpfdpcjciaaDoorP22
set_option linter.unusedVariables false
set_option linter.unusedSimpArgs false
set_option linter.unusedSectionVars false
set_option linter.deprecated false
namespace Go.Ab
/-! ### Fusing -/
/-- slots x and a source r come to slots o, n of them odd -/
inductive Put (many : Nat) : List (List Cell) → List Cell → Int → List (List Cell) → Prop
  | nil : Put many [] [] 0 []
  | less {x : List (List Cell)} {r : List Cell} {n : Int} {o : List (List Cell)} (y : List Cell) : Put many x r n o → Put many (y :: x) r (1 + n) ((y ++ [c0]) :: o)
  | more {x : List (List Cell)} {r : List Cell} {n : Int} {o : List (List Cell)} (c : Cell) : Put many x r n o → Put many x (c :: r) (1 + n) ((List.replicate many c0 ++ [c]) :: o)
  | both {x : List (List Cell)} {r : List Cell} {n : Int} {o : List (List Cell)} (y : List Cell) (c : Cell) : Put many x r n o → Put many (y :: x) (c :: r) (cst (textS y) c.text + n) ((y ++ [c]) :: o)
theorem put_step {s : Int} {st : List Int} {x : List (List Cell)} {r : List Cell} {n : Int} (h : pathC (s :: st) (textsL x) (saidL r) = some n) :
    (s = 3 ∧ ∃ y x', x = y :: x' ∧ ∃ m, n = 1 + m ∧ pathC st (textsL x') (saidL r) = some m) ∨
    (s = 4 ∧ ∃ c r', r = c :: r' ∧ ∃ m, n = 1 + m ∧ pathC st (textsL x) (saidL r') = some m) ∨
    ((s = 1 ∨ s = 2) ∧ ∃ y x' c r', x = y :: x' ∧ r = c :: r' ∧ ∃ m, n = cst (textS y) c.text + m ∧ pathC st (textsL x') (saidL r') = some m) := by
  rw [pathC] at h
  cases x with
  | nil =>
    cases r with
    | nil => simp [textsL, saidL, stepL] at h
    | cons c r =>
      by_cases h4 : s = 4
      · subst h4
        simp [textsL, saidL, stepL] at h
        obtain ⟨m, hm, he⟩ := h
        exact .inr (.inl ⟨rfl, c, r, rfl, m, he.symm, by simpa [textsL, saidL] using hm⟩)
      · simp [textsL, saidL, stepL, h4] at h
  | cons y x =>
    cases r with
    | nil =>
      by_cases h3 : s = 3
      · subst h3
        simp [textsL, saidL, stepL] at h
        obtain ⟨m, hm, he⟩ := h
        exact .inl ⟨rfl, y, x, rfl, m, he.symm, by simpa [textsL, saidL] using hm⟩
      · simp [textsL, saidL, stepL, h3] at h
    | cons c r =>
      by_cases h1 : s = 1
      · subst h1
        by_cases he : textS y = c.text
        · simp [textsL, saidL, stepL, he] at h
          refine .inr (.inr ⟨.inl rfl, y, x, c, r, rfl, rfl, n, ?_, by simpa [textsL, saidL] using h⟩)
          unfold cst; rw [if_pos he]; omega
        · simp [textsL, saidL, stepL, he] at h
      · by_cases h2 : s = 2
        · subst h2
          by_cases he : textS y = c.text
          · simp [textsL, saidL, stepL, he] at h
          · simp [textsL, saidL, stepL, he] at h
            obtain ⟨m, hm, hn⟩ := h
            refine .inr (.inr ⟨.inr rfl, y, x, c, r, rfl, rfl, m, ?_, by simpa [textsL, saidL] using hm⟩)
            unfold cst; rw [if_neg he]; omega
        · by_cases h3 : s = 3
          · subst h3
            simp [textsL, saidL, stepL] at h
            obtain ⟨m, hm, he⟩ := h
            exact .inl ⟨rfl, y, x, rfl, m, he.symm, by simpa [textsL, saidL] using hm⟩
          · by_cases h4 : s = 4
            · subst h4
              simp [textsL, saidL, stepL] at h
              obtain ⟨m, hm, he⟩ := h
              exact .inr (.inl ⟨rfl, c, r, rfl, m, he.symm, by simpa [textsL, saidL] using hm⟩)
            · simp [textsL, saidL, stepL, h1, h2, h3, h4] at h
theorem put_of {many : Nat} : ∀ {st : List Int} {x : List (List Cell)} {r : List Cell} {n : Int}, pathC st (textsL x) (saidL r) = some n → Put many x r n (putL many st x r)
  | [], x, r, n, h => by
    rw [pathC] at h
    split at h
    · rename_i he
      have h1 : x = [] := by simpa [textsL] using he.1
      have h2 : r = [] := by simpa [saidL] using he.2
      subst h1; subst h2
      cases h
      exact .nil
    · cases h
  | s :: st, x, r, n, h => by
    rcases put_step h with ⟨hs, y, x', rfl, m, hn, hp⟩ | ⟨hs, c, r', rfl, m, hn, hp⟩ | ⟨hs, y, x', c, r', rfl, rfl, m, hn, hp⟩
    · subst hs; subst hn
      have := Put.less (many := many) y (put_of hp)
      simpa [putL, nth] using this
    · subst hs; subst hn
      have := Put.more (many := many) c (put_of hp)
      simpa [putL, nth] using this
    · subst hn
      have h3 : s ≠ 3 := by omega
      have h4 : s ≠ 4 := by omega
      have := Put.both (many := many) y c (put_of hp)
      simpa [putL, nth, h3, h4] using this
theorem drop_cons {α : Type} [Inhabited α] {l : List α} {i : Nat} {y : α} {r : List α} (h : l.drop i = y :: r) : i < l.length ∧ nth l i = y ∧ l.drop (i + 1) = r := by
  have hi : i < l.length := by
    refine Decidable.byContradiction fun hn => ?_
    rw [List.drop_eq_nil_of_le (by omega)] at h; cases h
  rw [nth_drop hi] at h
  simp only [List.cons.injEq] at h
  exact ⟨hi, h.1, h.2⟩
theorem put_at {many : Nat} {st : List Int} {x : List (List Cell)} {r : List Cell} {n : Int} {i s k : Nat} (hi : i < st.length) (hp : pathC (st.drop i) (textsL (x.drop s)) (saidL (r.drop k)) = some n) :
    (nth st i = 3 ∧ s < x.length ∧ ∃ m, pathC (st.drop (i + 1)) (textsL (x.drop (s + 1))) (saidL (r.drop k)) = some m ∧ putL many (st.drop i) (x.drop s) (r.drop k) = (nth x s ++ [c0]) :: putL many (st.drop (i + 1)) (x.drop (s + 1)) (r.drop k)) ∨
    (nth st i = 4 ∧ k < r.length ∧ ∃ m, pathC (st.drop (i + 1)) (textsL (x.drop s)) (saidL (r.drop (k + 1))) = some m ∧ putL many (st.drop i) (x.drop s) (r.drop k) = (List.replicate many c0 ++ [nth r k]) :: putL many (st.drop (i + 1)) (x.drop s) (r.drop (k + 1))) ∨
    ((nth st i = 1 ∨ nth st i = 2) ∧ s < x.length ∧ k < r.length ∧ ∃ m, pathC (st.drop (i + 1)) (textsL (x.drop (s + 1))) (saidL (r.drop (k + 1))) = some m ∧ putL many (st.drop i) (x.drop s) (r.drop k) = (nth x s ++ [nth r k]) :: putL many (st.drop (i + 1)) (x.drop (s + 1)) (r.drop (k + 1))) := by
  rw [nth_drop hi] at hp ⊢
  rcases put_step hp with ⟨hs, y, x', hx, m, hn, hq⟩ | ⟨hs, c, r', hr, m, hn, hq⟩ | ⟨hs, y, x', c, r', hx, hr, m, hn, hq⟩
  · obtain ⟨a1, a2, a3⟩ := drop_cons hx
    refine .inl ⟨hs, a1, m, by rw [a3]; exact hq, ?_⟩
    rw [putL, if_pos hs, hx, a2, a3]; simp [nth]
  · obtain ⟨a1, a2, a3⟩ := drop_cons hr
    refine .inr (.inl ⟨hs, a1, m, by rw [a3]; exact hq, ?_⟩)
    rw [putL, if_neg (by omega), if_pos hs, hr, a2, a3]; simp [nth]
  · obtain ⟨a1, a2, a3⟩ := drop_cons hx
    obtain ⟨b1, b2, b3⟩ := drop_cons hr
    refine .inr (.inr ⟨hs, a1, b1, m, by rw [a3, b3]; exact hq, ?_⟩)
    rw [putL, if_neg (by omega), if_neg (by omega), hx, hr, a2, a3, b2, b3]; simp [nth]
theorem put_end {many : Nat} {x : List (List Cell)} {r : List Cell} : putL many [] x r = [] := rfl
/-- what holds of all cells -/
theorem Put.cells {many : Nat} {x : List (List Cell)} {r : List Cell} {n : Int} {o : List (List Cell)} (h : Put many x r n o) {Q : Cell → Prop} (h0 : Q c0) (hx : ∀ y ∈ x, ∀ c ∈ y, Q c) (hr : ∀ c ∈ r, Q c) : ∀ y ∈ o, ∀ c ∈ y, Q c := by
  induction h with
  | nil => intro y hy; cases hy
  | less y _ ih =>
    intro z hz c hc
    rcases List.mem_cons.1 hz with rfl | hz
    · rcases List.mem_append.1 hc with hc | hc
      · exact hx y List.mem_cons_self c hc
      · rw [List.mem_singleton.1 hc]; exact h0
    · exact ih (fun y hy => hx y (List.mem_cons_of_mem _ hy)) hr z hz c hc
  | more d _ ih =>
    intro z hz c hc
    rcases List.mem_cons.1 hz with rfl | hz
    · rcases List.mem_append.1 hc with hc | hc
      · rw [(List.mem_replicate.1 hc).2]; exact h0
      · rw [List.mem_singleton.1 hc]; exact hr d List.mem_cons_self
    · exact ih hx (fun c hc => hr c (List.mem_cons_of_mem _ hc)) z hz c hc
  | both y d _ ih =>
    intro z hz c hc
    rcases List.mem_cons.1 hz with rfl | hz
    · rcases List.mem_append.1 hc with hc | hc
      · exact hx y List.mem_cons_self c hc
      · rw [List.mem_singleton.1 hc]; exact hr d List.mem_cons_self
    · exact ih (fun y hy => hx y (List.mem_cons_of_mem _ hy)) (fun c hc => hr c (List.mem_cons_of_mem _ hc)) z hz c hc
theorem Put.len {many : Nat} {x : List (List Cell)} {r : List Cell} {n : Int} {o : List (List Cell)} (h : Put many x r n o) (hx : ∀ y ∈ x, y.length = many) : ∀ y ∈ o, y.length = many + 1 := by
  induction h with
  | nil => intro y hy; cases hy
  | less y _ ih =>
    intro z hz
    rcases List.mem_cons.1 hz with rfl | hz
    · simp [hx y List.mem_cons_self]
    · exact ih (fun y hy => hx y (List.mem_cons_of_mem _ hy)) z hz
  | more d _ ih =>
    intro z hz
    rcases List.mem_cons.1 hz with rfl | hz
    · simp
    · exact ih hx z hz
  | both y d _ ih =>
    intro z hz
    rcases List.mem_cons.1 hz with rfl | hz
    · simp [hx y List.mem_cons_self]
    · exact ih (fun y hy => hx y (List.mem_cons_of_mem _ hy)) z hz
theorem Put.many_le {many : Nat} {x : List (List Cell)} {r : List Cell} {n : Int} {o : List (List Cell)} (h : Put many x r n o) : o.length ≤ x.length + r.length := by
  induction h <;> simp_all <;> omega
theorem Put.words {many : Nat} {x : List (List Cell)} {r : List Cell} {n : Int} {o : List (List Cell)} (h : Put many x r n o) (hx : ∀ y ∈ x, textS y ≠ []) (hr : ∀ c ∈ r, c.text ≠ []) : ∀ y ∈ o, textS y ≠ [] := by
  induction h with
  | nil => intro y hy; cases hy
  | less y _ ih =>
    intro z hz
    rcases List.mem_cons.1 hz with rfl | hz
    · rw [textS_app, if_neg (hx y List.mem_cons_self)]; exact hx y List.mem_cons_self
    · exact ih (fun y hy => hx y (List.mem_cons_of_mem _ hy)) hr z hz
  | more d _ ih =>
    intro z hz
    rcases List.mem_cons.1 hz with rfl | hz
    · rw [textS_app, if_pos (textS_rep _), textS, if_neg (hr d List.mem_cons_self)]; exact hr d List.mem_cons_self
    · exact ih hx (fun c hc => hr c (List.mem_cons_of_mem _ hc)) z hz
  | both y d _ ih =>
    intro z hz
    rcases List.mem_cons.1 hz with rfl | hz
    · rw [textS_app, if_neg (hx y List.mem_cons_self)]; exact hx y List.mem_cons_self
    · exact ih (fun y hy => hx y (List.mem_cons_of_mem _ hy)) (fun c hc => hr c (List.mem_cons_of_mem _ hc)) z hz
/-- the cells of a source that are not empty -/
def colL (o : List (List Cell)) (j : Nat) : List Cell := (o.map fun y => nth y j).filter fun c => decide (c ≠ c0)
theorem colL_cons (y : List Cell) (o : List (List Cell)) (j : Nat) : colL (y :: o) j = if nth y j = c0 then colL o j else nth y j :: colL o j := by
  unfold colL; rw [List.map_cons, List.filter_cons]
  by_cases h : nth y j = c0 <;> simp [h]
theorem nth_snoc_lt {α : Type} [Inhabited α] {l : List α} {x : α} {j : Nat} (h : j < l.length) : nth (l ++ [x]) j = nth l j := by
  simp [nth, List.getD_eq_getElem?_getD, List.getElem?_append_left h]
theorem nth_snoc_eq {α : Type} [Inhabited α] {l : List α} {x : α} {j : Nat} (h : j = l.length) : nth (l ++ [x]) j = x := by
  subst h; unfold nth; simp
theorem Put.col {many : Nat} {x : List (List Cell)} {r : List Cell} {n : Int} {o : List (List Cell)} (h : Put many x r n o) {j : Nat} (hj : j < many) (hx : ∀ y ∈ x, y.length = many) : colL o j = colL x j := by
  induction h with
  | nil => rfl
  | less y _ ih =>
    rw [colL_cons, colL_cons, nth_snoc_lt (by rw [hx y List.mem_cons_self]; exact hj), ih (fun y hy => hx y (List.mem_cons_of_mem _ hy))]
  | more d _ ih =>
    rw [colL_cons, nth_snoc_lt (by simpa using hj), ih hx, if_pos (by unfold nth; simp [hj])]
  | both y d _ ih =>
    rw [colL_cons, colL_cons, nth_snoc_lt (by rw [hx y List.mem_cons_self]; exact hj), ih (fun y hy => hx y (List.mem_cons_of_mem _ hy))]
theorem Put.last {many : Nat} {x : List (List Cell)} {r : List Cell} {n : Int} {o : List (List Cell)} (h : Put many x r n o) (hx : ∀ y ∈ x, y.length = many) (hr : ∀ c ∈ r, c.text ≠ []) : colL o many = r := by
  induction h with
  | nil => rfl
  | less y _ ih =>
    rw [colL_cons, nth_snoc_eq (hx y List.mem_cons_self).symm, if_pos rfl, ih (fun y hy => hx y (List.mem_cons_of_mem _ hy)) hr]
  | more d _ ih =>
    have hd : d ≠ c0 := fun e => hr d List.mem_cons_self (by rw [e])
    rw [colL_cons, nth_snoc_eq (by simp), if_neg hd, ih hx (fun c hc => hr c (List.mem_cons_of_mem _ hc))]
  | both y d _ ih =>
    have hd : d ≠ c0 := fun e => hr d List.mem_cons_self (by rw [e])
    rw [colL_cons, nth_snoc_eq (hx y List.mem_cons_self).symm, if_neg hd, ih (fun y hy => hx y (List.mem_cons_of_mem _ hy)) (fun c hc => hr c (List.mem_cons_of_mem _ hc))]
/-- slots in which the last source does not fit -/
def oddN (many : Nat) : List (List Cell) → Nat
  | [] => 0
  | y :: o => (if textS (y.take many) = (nth y many).text then 0 else 1) + oddN many o
/-- slots that there were before -/
def oldL (many : Nat) (o : List (List Cell)) : List (List Cell) := (o.map fun y => y.take many).filter fun y => decide (textS y ≠ [])
theorem oldL_cons (many : Nat) (y : List Cell) (o : List (List Cell)) : oldL many (y :: o) = if textS (y.take many) = [] then oldL many o else y.take many :: oldL many o := by
  unfold oldL; rw [List.map_cons, List.filter_cons]
  by_cases h : textS (y.take many) = [] <;> simp [h]
theorem take_snoc {α : Type} {l : List α} {x : α} {n : Nat} (h : n = l.length) : (l ++ [x]).take n = l := by subst h; simp
theorem Put.odd {many : Nat} {x : List (List Cell)} {r : List Cell} {n : Int} {o : List (List Cell)} (h : Put many x r n o) (hx : ∀ y ∈ x, y.length = many) (hw : ∀ y ∈ x, textS y ≠ []) (hr : ∀ c ∈ r, c.text ≠ []) : (oddN many o : Int) = n := by
  induction h with
  | nil => rfl
  | less y _ ih =>
    have := ih (fun y hy => hx y (List.mem_cons_of_mem _ hy)) (fun y hy => hw y (List.mem_cons_of_mem _ hy)) hr
    rw [oddN, take_snoc (hx y List.mem_cons_self).symm, nth_snoc_eq (hx y List.mem_cons_self).symm, if_neg (hw y List.mem_cons_self)]
    omega
  | more d _ ih =>
    have := ih hx hw (fun c hc => hr c (List.mem_cons_of_mem _ hc))
    rw [oddN, take_snoc (by simp), nth_snoc_eq (by simp), textS_rep, if_neg (fun e => hr d List.mem_cons_self e.symm)]
    omega
  | both y d _ ih =>
    have := ih (fun y hy => hx y (List.mem_cons_of_mem _ hy)) (fun y hy => hw y (List.mem_cons_of_mem _ hy)) (fun c hc => hr c (List.mem_cons_of_mem _ hc))
    rw [oddN, take_snoc (hx y List.mem_cons_self).symm, nth_snoc_eq (hx y List.mem_cons_self).symm]
    unfold cst
    split <;> omega
theorem Put.old {many : Nat} {x : List (List Cell)} {r : List Cell} {n : Int} {o : List (List Cell)} (h : Put many x r n o) (hx : ∀ y ∈ x, y.length = many) (hw : ∀ y ∈ x, textS y ≠ []) : oldL many o = x := by
  induction h with
  | nil => rfl
  | less y _ ih =>
    rw [oldL_cons, take_snoc (hx y List.mem_cons_self).symm, if_neg (hw y List.mem_cons_self), ih (fun y hy => hx y (List.mem_cons_of_mem _ hy)) (fun y hy => hw y (List.mem_cons_of_mem _ hy))]
  | more d _ ih =>
    rw [oldL_cons, take_snoc (by simp), if_pos (textS_rep _), ih hx hw]
  | both y d _ ih =>
    rw [oldL_cons, take_snoc (hx y List.mem_cons_self).symm, if_neg (hw y List.mem_cons_self), ih (fun y hy => hx y (List.mem_cons_of_mem _ hy)) (fun y hy => hw y (List.mem_cons_of_mem _ hy))]
/-- what Fuse does to sources that are right -/
def goL : Nat → List (List Cell) → List (List Cell) → List (List Cell) × Int
  | _, x, [] => (x, 0)
  | i, x, r :: l => if 64 < x.length then ([], 2) else goL (i + 1) (putL i (alignF (textsL x) (saidL r)) x r) l
theorem goL_step {i : Nat} {x : List (List Cell)} {r : List Cell} {l : List (List Cell)} (h : ¬ 64 < x.length) : goL i x (r :: l) = goL (i + 1) (putL i (alignF (textsL x) (saidL r)) x r) l := by rw [goL, if_neg h]
theorem goL_long {i : Nat} {x : List (List Cell)} {r : List Cell} {l : List (List Cell)} (h : 64 < x.length) : goL i x (r :: l) = ([], 2) := by rw [goL, if_pos h]
theorem put_al (many : Nat) (x : List (List Cell)) (r : List Cell) : Put many x r (lev (textsL x) (saidL r)) (putL many (alignF (textsL x) (saidL r)) x r) := put_of (alF_path _ _)
theorem goL_app : ∀ (l : List (List Cell)) (i : Nat) (x : List (List Cell)) (r : List Cell) (s : List (List Cell)), goL i x l = (s, 0) → goL i x (l ++ [r]) = if 64 < s.length then ([], 2) else (putL (i + l.length) (alignF (textsL s) (saidL r)) s r, 0)
  | [], i, x, r, s, h => by
    simp only [goL, Prod.mk.injEq, and_true] at h
    subst h
    simp [goL]
  | q :: l, i, x, r, s, h => by
    rw [List.cons_append]
    by_cases hl : 64 < x.length
    · rw [goL_long hl] at h; simp at h
    · rw [goL_step hl] at h ⊢
      rw [goL_app l _ _ r s h, List.length_cons]
      have : i + 1 + l.length = i + (l.length + 1) := by omega
      rw [this]
/-- what fused slots are -/
structure Slots (l s : List (List Cell)) : Prop where
  len : ∀ y ∈ s, y.length = l.length
  word : ∀ y ∈ s, textS y ≠ []
  few : s.length ≤ 12 * l.length
  col : ∀ j, j < l.length → colL s j = nth l j
theorem Slots.nil : Slots [] [] := ⟨fun _ h => (by cases h), fun _ h => (by cases h), by simp, fun j h => (by simp at h)⟩
theorem Slots.step {l s : List (List Cell)} (h : Slots l s) {r : List Cell} (hr : ∀ c ∈ r, c.text ≠ []) (hl : r.length ≤ 12) : Slots (l ++ [r]) (putL l.length (alignF (textsL s) (saidL r)) s r) := by
  have hp := put_al l.length s r
  refine ⟨?_, hp.words h.word hr, ?_, ?_⟩
  · rw [List.length_append]; exact hp.len h.len
  · have := hp.many_le; have := h.few; rw [List.length_append]; simp; omega
  · intro j hj
    rw [List.length_append] at hj; simp at hj
    by_cases e : j = l.length
    · rw [nth_snoc_eq e, e]; exact hp.last h.len hr
    · rw [nth_snoc_lt (by omega), hp.col (by omega) h.len]; exact h.col j (by omega)
theorem snoc_ind {α : Type} {P : List α → Prop} (h0 : P []) (h1 : ∀ l x, P l → P (l ++ [x])) (l : List α) : P l := by
  rw [← List.reverse_reverse l]
  generalize l.reverse = m
  induction m with
  | nil => exact h0
  | cons x m ih => rw [List.reverse_cons]; exact h1 _ _ ih
theorem goL_right (l : List (List Cell)) : l.length ≤ 5 → (∀ r ∈ l, r.length ≤ 12) → (∀ r ∈ l, ∀ c ∈ r, c.text ≠ []) → ∃ s, goL 0 [] l = (s, 0) ∧ Slots l s := by
  induction l using snoc_ind with
  | h0 => intro _ _ _; exact ⟨[], rfl, .nil⟩
  | h1 l r ih =>
    intro h5 h12 hw
    rw [List.length_append] at h5; simp at h5
    obtain ⟨s, hs, hS⟩ := ih (by omega) (fun q hq => h12 q (List.mem_append_left _ hq)) (fun q hq => hw q (List.mem_append_left _ hq))
    have hf := hS.few
    refine ⟨_, ?_, hS.step (hw r (by simp)) (h12 r (by simp))⟩
    rw [goL_app l 0 [] r s hs, if_neg (by omega)]
    simp
theorem goL_last {l : List (List Cell)} {r : List Cell} (h5 : l.length ≤ 4) (h12 : ∀ q ∈ l, q.length ≤ 12) (hw : ∀ q ∈ l, ∀ c ∈ q, c.text ≠ []) (h12r : r.length ≤ 12) (hr : ∀ c ∈ r, c.text ≠ []) :
    ∃ s o, goL 0 [] l = (s, 0) ∧ Slots l s ∧ goL 0 [] (l ++ [r]) = (o, 0) ∧ Slots (l ++ [r]) o ∧ (oddN l.length o : Int) = lev (textsL s) (saidL r) ∧ oldL l.length o = s := by
  obtain ⟨s, hs, hS⟩ := goL_right l (by omega) h12 hw
  have hf := hS.few
  have hp := put_al l.length s r
  refine ⟨s, _, hs, hS, ?_, hS.step hr h12r, hp.odd hS.len hS.word hr, hp.old hS.len hS.word⟩
  rw [goL_app l 0 [] r s hs, if_neg (by omega)]
  simp
/-! all say the same -/
theorem alF_self : ∀ a : List Wd, alignF a a = List.replicate a.length 1
  | [] => alF_nn
  | x :: a => by rw [alF_cc, if_pos ⟨rfl, by rw [lev_self, lev_self]⟩, alF_self a]; rfl
theorem alF_nil : ∀ a : List Wd, alignF a [] = List.replicate a.length 3
  | [] => alF_nn
  | x :: a => by rw [alF_cn, alF_nil a]; rfl
theorem alF_new : ∀ a : List Wd, alignF [] a = List.replicate a.length 4
  | [] => alF_nn
  | x :: a => by rw [alF_nc, alF_new a]; rfl
def agreeL (row : List Cell) (k : Nat) : List (List Cell) := row.map fun c => List.replicate k c
theorem textsL_agree {row : List Cell} {k : Nat} (hk : 0 < k) (hw : ∀ c ∈ row, c.text ≠ []) : textsL (agreeL row k) = saidL row := by
  unfold textsL agreeL saidL
  rw [List.map_map]
  refine List.map_congr_left (fun c hc => ?_)
  cases k with
  | zero => omega
  | succ k => simp [List.replicate_succ, textS, hw c hc]
theorem replicate_snoc {α : Type} (k : Nat) (x : α) : List.replicate k x ++ [x] = List.replicate (k + 1) x := by rw [List.replicate_succ']
theorem putL_ones (k : Nat) : ∀ row : List Cell, putL k (List.replicate row.length 1) (agreeL row k) row = agreeL row (k + 1)
  | [] => rfl
  | c :: row => by
    have := putL_ones k row
    simp only [List.length_cons, List.replicate_succ, putL, agreeL, List.map_cons] at this ⊢
    simp only [show ((1 : Int) = 3) = False by simp, show ((1 : Int) = 4) = False by simp, if_false]
    simp [nth, agreeL] at this ⊢
    refine ⟨?_, this⟩
    rw [← List.replicate_succ, replicate_snoc]
theorem putL_fours : ∀ row : List Cell, putL 0 (List.replicate row.length 4) [] row = agreeL row 1
  | [] => rfl
  | c :: row => by
    have := putL_fours row
    simp only [List.length_cons, List.replicate_succ, putL, agreeL, List.map_cons] at this ⊢
    simp [nth] at this ⊢
    exact this
theorem putL_threes (k : Nat) : ∀ x : List (List Cell), putL k (List.replicate x.length 3) x [] = x.map (· ++ [c0])
  | [] => rfl
  | c :: x => by
    have := putL_threes k x
    simp only [List.length_cons, List.replicate_succ, putL, List.map_cons] at this ⊢
    simp [nth] at this ⊢
    exact this
theorem goL_agree {row : List Cell} (hl : row.length ≤ 12) (hw : ∀ c ∈ row, c.text ≠ []) : ∀ k, goL 0 [] (List.replicate (k + 1) row) = (agreeL row (k + 1), 0)
  | 0 => by
    rw [List.replicate_succ, List.replicate_zero, goL_step (by simp), goL]
    have h0 : textsL [] = [] := rfl
    rw [h0, alF_new]
    have : (saidL row).length = row.length := by simp [saidL]
    rw [this, putL_fours]
  | k + 1 => by
    have ih := goL_agree hl hw k
    have hlen : (agreeL row (k + 1)).length = row.length := by simp [agreeL]
    rw [← replicate_snoc, goL_app _ _ _ _ _ ih, if_neg (by omega), textsL_agree (by omega) hw, alF_self]
    have : (saidL row).length = row.length := by simp [saidL]
    rw [this]
    simp only [List.length_replicate, Nat.zero_add]
    rw [putL_ones]
theorem goL_quiet {row : List Cell} (hl : row.length ≤ 12) (hw : ∀ c ∈ row, c.text ≠ []) (k : Nat) : goL 0 [] (List.replicate (k + 1) row ++ [[]]) = ((agreeL row (k + 1)).map (· ++ [c0]), 0) := by
  have hlen : (agreeL row (k + 1)).length = row.length := by simp [agreeL]
  rw [goL_app _ _ _ _ _ (goL_agree hl hw k), if_neg (by omega)]
  have h0 : saidL [] = [] := rfl
  rw [h0, alF_nil]
  have : (textsL (agreeL row (k + 1))).length = (agreeL row (k + 1)).length := by simp [textsL]
  rw [this, putL_threes]
/-! ### Choosing -/
/-- points of a text in a slot -/
def ptC (c : Cell) (t : Wd) : Nat := if c.text = t then 2 else if t ∈ c.alts then 1 else 0
def ptS : List Cell → Wd → Nat
  | [], _ => 0
  | c :: x, t => ptC c t + ptS x t
theorem ptC_le (c : Cell) (t : Wd) : ptC c t ≤ 2 := by
  unfold ptC
  split
  · omega
  · split <;> omega
theorem ptS_le (x : List Cell) (t : Wd) : ptS x t ≤ 2 * x.length := by
  induction x with
  | nil => simp [ptS]
  | cons c x ih => have := ptC_le c t; simp [ptS]; omega
theorem ptS_app (x y : List Cell) (t : Wd) : ptS (x ++ y) t = ptS x t + ptS y t := by
  induction x with
  | nil => simp [ptS]
  | cons c x ih => rw [List.cons_append, ptS, ptS, ih]; omega
theorem ptS_take {x : List Cell} {i : Nat} (h : i < x.length) (t : Wd) : ptS (x.take (i + 1)) t = ptS (x.take i) t + ptC (nth x i) t := by
  rw [nth_take h, ptS_app]; simp [ptS]
/-- the best one of a list of texts, from what there was -/
def bestF (x : List Cell) : List Wd → Wd × Nat → Wd × Nat
  | [], b => b
  | t :: l, b => bestF x l (if t ≠ [] ∧ b.2 < ptS x t then (t, ptS x t) else b)
def textsC (c : Cell) : List Wd := c.text :: c.alts
def textsS (x : List Cell) : List Wd := x.flatMap textsC
def chooseS (x : List Cell) : Wd := if (bestF x (textsS x) ([], 0)).2 < ptS x [] then [] else (bestF x (textsS x) ([], 0)).1
theorem bestF_app (x : List Cell) (a b : List Wd) (z : Wd × Nat) : bestF x (a ++ b) z = bestF x b (bestF x a z) := by
  induction a generalizing z with
  | nil => rfl
  | cons t a ih => rw [List.cons_append, bestF, bestF, ih]
theorem bestF_mono (x : List Cell) (a : List Wd) (z : Wd × Nat) : z.2 ≤ (bestF x a z).2 := by
  induction a generalizing z with
  | nil => exact Nat.le_refl _
  | cons t a ih =>
    rw [bestF]
    refine Nat.le_trans ?_ (ih _)
    split
    · rename_i h; exact Nat.le_of_lt h.2
    · exact Nat.le_refl _
theorem bestF_ge (x : List Cell) (a : List Wd) (z : Wd × Nat) : ∀ t ∈ a, t ≠ [] → ptS x t ≤ (bestF x a z).2 := by
  induction a generalizing z with
  | nil => intro t h; cases h
  | cons u a ih =>
    intro t ht hn
    rw [bestF]
    rcases List.mem_cons.1 ht with rfl | ht
    · refine Nat.le_trans ?_ (bestF_mono x a _)
      split
      · exact Nat.le_refl _
      · rename_i h
        have : ¬ z.2 < ptS x t := fun e => h ⟨hn, e⟩
        omega
    · exact ih _ t ht hn
/-- texts that are no better change nothing -/
theorem bestF_skip (x : List Cell) (a : List Wd) (z : Wd × Nat) (h : ∀ t ∈ a, t ≠ [] → ptS x t ≤ z.2) : bestF x a z = z := by
  induction a with
  | nil => rfl
  | cons u a ih =>
    rw [bestF, if_neg (fun e => by have := h u List.mem_cons_self e.1; omega)]
    exact ih (fun t ht => h t (List.mem_cons_of_mem _ ht))
/-- what the best one is -/
theorem bestF_is (x : List Cell) (a : List Wd) (z : Wd × Nat) (hz : (z.1 = [] ∧ z.2 = 0) ∨ (z.1 ≠ [] ∧ z.2 = ptS x z.1 ∧ 0 < z.2)) :
    ((bestF x a z).1 = [] ∧ (bestF x a z).2 = 0) ∨ ((bestF x a z).1 ≠ [] ∧ (bestF x a z).2 = ptS x (bestF x a z).1 ∧ 0 < (bestF x a z).2) := by
  induction a generalizing z with
  | nil => exact hz
  | cons u a ih =>
    rw [bestF]
    refine ih _ ?_
    split
    · rename_i h; exact .inr ⟨h.1, rfl, Nat.lt_of_le_of_lt (Nat.zero_le _) h.2⟩
    · exact hz
theorem bestF_mem (x : List Cell) (a : List Wd) (z : Wd × Nat) : (bestF x a z) = z ∨ (bestF x a z).1 ∈ a := by
  induction a generalizing z with
  | nil => exact .inl rfl
  | cons u a ih =>
    rw [bestF]
    rcases ih (if u ≠ [] ∧ z.2 < ptS x u then (u, ptS x u) else z) with h | h
    · split at h
      · rename_i hc
        rw [if_pos hc, h]
        exact .inr List.mem_cons_self
      · rename_i hc
        rw [if_neg hc, h]
        exact .inl rfl
    · exact .inr (List.mem_cons_of_mem _ h)
/-- what a slot's choice is -/
theorem chooseS_is (x : List Cell) : (chooseS x = [] ∨ (chooseS x ≠ [] ∧ chooseS x ∈ textsS x)) ∧ (∀ t ∈ textsS x, t ≠ [] → textS x ≠ [] → ptS x t ≤ ptS x (chooseS x)) ∧ (textS x ≠ [] → ptS x [] ≤ ptS x (chooseS x)) := by
  have hb := bestF_is x (textsS x) ([], 0) (.inl ⟨rfl, rfl⟩)
  have hm := bestF_mem x (textsS x) ([], 0)
  have hg := bestF_ge x (textsS x) ([], 0)
  unfold chooseS
  generalize bestF x (textsS x) ([], 0) = z at *
  have hpos : textS x ≠ [] → 0 < z.2 := by
    intro ht
    rcases textS_mem (x := x) with h | ⟨c, hc, h⟩
    · exact absurd h ht
    · have h1 : textS x ∈ textsS x := by
        unfold textsS; rw [List.mem_flatMap]; exact ⟨c, hc, by rw [textsC, h]; exact List.mem_cons_self⟩
      have h2 := hg _ h1 ht
      have h3 : 0 < ptS x (textS x) := by
        rw [← h]
        clear h h1 h2 hm hg hb ht
        induction x with
        | nil => cases hc
        | cons d x ih =>
          rw [ptS]
          rcases List.mem_cons.1 hc with rfl | hc
          · unfold ptC; rw [if_pos rfl]; omega
          · have := ih hc; omega
      omega
  by_cases hl : z.2 < ptS x []
  · rw [if_pos hl]
    refine ⟨.inl rfl, fun t ht hn _ => ?_, fun _ => Nat.le_refl _⟩
    have := hg t ht hn; omega
  · rw [if_neg hl]
    rcases hb with ⟨h1, h2⟩ | ⟨h1, h2, h3⟩
    · refine ⟨.inl h1, fun t ht hn hw => ?_, fun hw => ?_⟩
      · have := hpos hw; omega
      · have := hpos hw; omega
    · refine ⟨.inr ⟨h1, ?_⟩, fun t ht hn _ => ?_, fun _ => ?_⟩
      · rcases hm with e | e
        · rw [e] at h1; exact absurd rfl h1
        · exact e
      · rw [← h2]; exact hg t ht hn
      · rw [← h2]; omega
/-- how many cells say a text -/
def sameN (x : List Cell) (t : Wd) : Nat := (x.filter fun c => decide (c.text = t)).length
theorem sameN_cons (c : Cell) (x : List Cell) (t : Wd) : sameN (c :: x) t = (if c.text = t then 1 else 0) + sameN x t := by
  unfold sameN; rw [List.filter_cons]
  by_cases h : c.text = t
  · simp [h]; omega
  · simp [h]
theorem sameN_le (x : List Cell) (t : Wd) : sameN x t ≤ x.length := by unfold sameN; exact List.length_filter_le _ _
theorem ptS_same (x : List Cell) (t : Wd) : 2 * sameN x t ≤ ptS x t := by
  induction x with
  | nil => simp [sameN, ptS]
  | cons c x ih =>
    rw [sameN_cons, ptS]; unfold ptC
    split <;> omega
theorem ptS_other (x : List Cell) {t u : Wd} (h : t ≠ u) : ptS x u + sameN x t ≤ 2 * x.length := by
  induction x with
  | nil => simp [sameN, ptS]
  | cons c x ih =>
    rw [sameN_cons, ptS, List.length_cons]; unfold ptC
    by_cases h1 : c.text = t
    · rw [if_pos h1, if_neg (fun e => h (h1.symm.trans e))]
      split <;> omega
    · rw [if_neg h1]
      split
      · omega
      · split <;> omega
/-- cells without a text have nothing else -/
theorem ptS_quiet (x : List Cell) (hq : ∀ c ∈ x, c.text = [] → c.alts = []) {u : Wd} (h : u ≠ []) : ptS x u + 2 * sameN x [] ≤ 2 * x.length := by
  induction x with
  | nil => simp [sameN, ptS]
  | cons c x ih =>
    have := ih (fun d hd => hq d (List.mem_cons_of_mem _ hd))
    rw [sameN_cons, ptS, List.length_cons]; unfold ptC
    by_cases h1 : c.text = []
    · have h2 := hq c List.mem_cons_self h1
      rw [if_pos h1, h1, h2, if_neg (fun e => h e.symm)]
      simp; omega
    · rw [if_neg h1]
      split
      · omega
      · split <;> omega
theorem major (x : List Cell) (hw : textS x ≠ []) (hq : ∀ c ∈ x, c.text = [] → c.alts = []) {c : Cell} (hc : c ∈ x) :
    (c.text ≠ [] → 2 * x.length < 3 * sameN x c.text → chooseS x = c.text) ∧ (c.text = [] → x.length < 2 * sameN x c.text → chooseS x = []) := by
  obtain ⟨h1, h2, h3⟩ := chooseS_is x
  constructor
  · intro hn hm
    refine Decidable.byContradiction fun he => ?_
    have hmem : c.text ∈ textsS x := by unfold textsS; rw [List.mem_flatMap]; exact ⟨c, hc, List.mem_cons_self⟩
    have a := h2 _ hmem hn hw
    have b := ptS_same x c.text
    have d := ptS_other x (t := c.text) (u := chooseS x) (fun e => he e.symm)
    omega
  · intro hn hm
    refine Decidable.byContradiction fun he => ?_
    have a := h3 hw
    have b := ptS_same x []
    have d := ptS_quiet x hq he
    rw [hn] at hm
    omega
/-- all say the same -/
theorem ptS_rep (c : Cell) (k : Nat) (t : Wd) : ptS (List.replicate k c) t = k * ptC c t := by
  induction k with
  | zero => simp [ptS]
  | succ k ih => rw [List.replicate_succ, ptS, ih, Nat.succ_mul]; omega
theorem choose_agree {c : Cell} (hw : c.text ≠ []) (hq : [] ∉ c.alts) {k : Nat} (hk : 0 < k) : chooseS (List.replicate k c) = c.text := by
  have hm : c ∈ List.replicate k c := List.mem_replicate.2 ⟨by omega, rfl⟩
  have hs : sameN (List.replicate k c) c.text = k := by unfold sameN; rw [List.filter_eq_self.2 (fun d hd => by rw [(List.mem_replicate.1 hd).2]; simp)]; simp
  have ht : textS (List.replicate k c) ≠ [] := by
    cases k with
    | zero => omega
    | succ k => rw [List.replicate_succ, textS, if_neg hw]; exact hw
  refine (major _ ht ?_ hm).1 hw ?_
  · intro d hd e
    rw [(List.mem_replicate.1 hd).2] at e
    exact absurd e hw
  · rw [hs]; simp; omega
/-- what Choose does to slots that are right -/
def chL : Nat → List (List Cell) → List Wd × List Int
  | _, [] => ([], [])
  | i, x :: l => if chooseS x = [] then chL (i + 1) l else (chooseS x :: (chL (i + 1) l).1, (i : Int) :: (chL (i + 1) l).2)
theorem chL_app : ∀ (a b : List (List Cell)) (i : Nat), chL i (a ++ b) = ((chL i a).1 ++ (chL (i + a.length) b).1, (chL i a).2 ++ (chL (i + a.length) b).2)
  | [], b, i => by simp [chL]
  | x :: a, b, i => by
    have e : i + (a.length + 1) = i + 1 + a.length := by omega
    rw [List.cons_append, chL, chL, chL_app a b (i + 1), List.length_cons, e]
    by_cases h : chooseS x = []
    · rw [if_pos h, if_pos h]
    · rw [if_neg h, if_neg h]; rfl
theorem chL_take {l : List (List Cell)} {i : Nat} (h : i < l.length) : chL 0 (l.take (i + 1)) = if chooseS (nth l i) = [] then chL 0 (l.take i) else ((chL 0 (l.take i)).1 ++ [chooseS (nth l i)], (chL 0 (l.take i)).2 ++ [(i : Int)]) := by
  have hl : (l.take i).length = i := by simp; omega
  rw [nth_take h, chL_app, hl, Nat.zero_add]
  by_cases hc : chooseS (nth l i) = [] <;> simp [chL, hc]
theorem chL_len (l : List (List Cell)) (i : Nat) : (chL i l).1.length = (chL i l).2.length ∧ (chL i l).1.length ≤ l.length := by
  induction l generalizing i with
  | nil => simp [chL]
  | cons x l ih =>
    have := ih (i + 1)
    rw [chL]; split <;> simp_all <;> omega
theorem chL_agree {row : List Cell} (hw : ∀ c ∈ row, c.text ≠ [] ∧ [] ∉ c.alts) {k : Nat} (hk : 0 < k) (i : Nat) : chL i (agreeL row k) = (saidL row, (List.range' i row.length).map (fun n : Nat => (n : Int))) := by
  induction row generalizing i with
  | nil => rfl
  | cons c row ih =>
    have hc := hw c List.mem_cons_self
    have := ih (fun d hd => hw d (List.mem_cons_of_mem _ hd)) (i + 1)
    unfold agreeL at this ⊢
    rw [List.map_cons, chL, choose_agree hc.1 hc.2 hk, if_neg hc.1, this]
    simp [saidL, List.range'_succ]
end Go.Ab
