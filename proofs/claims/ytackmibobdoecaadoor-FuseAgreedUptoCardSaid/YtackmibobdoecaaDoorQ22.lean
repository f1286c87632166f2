/- Regions of open order, operation by operation: a list form of semOk_of. -/
import Derived.Test.YtackmibobdoecaaDoorAbsD
set_option linter.unusedVariables false
set_option linter.unusedSimpArgs false
set_option linter.unusedSectionVars false
set_option linter.deprecated false
namespace Go.Ab
set_option maxRecDepth 100000
def AllSt (P : Nat → Oper → Prop) : Nat → List Oper → Prop
  | _, [] => True
  | i, o :: l => P i o ∧ AllSt P (i + 1) l
theorem allSt_get {P : Nat → Oper → Prop} : ∀ {l : List Oper} {i j : Nat} {o : Oper}, AllSt P i l → l[j]? = some o → P (i + j) o
  | [], i, j, o, _, h => by simp at h
  | x :: l, i, 0, o, h, e => by simp at e; subst e; exact h.1
  | x :: l, i, j + 1, o, h, e => by
    have := allSt_get h.2 (j := j) (by simpa using e)
    rwa [Nat.add_assoc, Nat.add_comm 1 j] at this
/-- closed under what stands ahead -/
def Clo (ops : Array Oper) (S : Nat → Bool) : Prop := ∀ (k : Nat) (ok : Oper), ops[k]? = some ok → S k = true → ∀ e ∈ ok.after, Region.binds .any e = true → S e.on = true
def Haf (o : Oper) (S : Nat → Bool) : Prop := ∀ e ∈ o.after, Region.binds .any e = true → S e.on = true
/-- ahead, step by step -/
def chainB (ops : Array Oper) : Nat → List Nat → Bool
  | _, [] => true
  | k, a :: l => (match ops[k]? with
    | some o => o.after.toList.any fun e => e.on == a && Region.binds .any e
    | none => false) && chainB ops a l
theorem clo_chain {ops : Array Oper} {S : Nat → Bool} (hc : Clo ops S) : ∀ (l : List Nat) (k : Nat), chainB ops k l = true → S k = true → S (l.getLastD k) = true
  | [], k, _, h => by simpa using h
  | a :: l, k, h, hk => by
    simp only [chainB, Bool.and_eq_true] at h
    obtain ⟨h1, h2⟩ := h
    cases ho : ops[k]? with
    | none => rw [ho] at h1; cases h1
    | some o =>
      rw [ho] at h1
      simp only [List.any_eq_true, Bool.and_eq_true, beq_iff_eq] at h1
      obtain ⟨e, he, e1, e2⟩ := h1
      have ha : S a = true := e1 ▸ hc k o ho hk e (by simpa using he) e2
      have := clo_chain hc l a h2 ha
      rw [List.getLastD_cons]; exact this
/-- what is not done keeps what stands behind it from being done -/
theorem clo_false {ops : Array Oper} {S : Nat → Bool} (hc : Clo ops S) (l : List Nat) (k : Nat) (h : chainB ops k l = true) (hs : S (l.getLastD k) = false) : S k = false := by
  cases hk : S k with
  | false => rfl
  | true => rw [clo_chain hc l k h hk] at hs; cases hs
def dstOkB (ops : Array Oper) : Bool := (List.range ops.size).all fun i => (List.range ops.size).all fun j => i == j || (dstI ops i).isNone || dstI ops i != dstI ops j
theorem dstOk_of {ops : Array Oper} (h : dstOkB ops = true) : DstOk ops := by
  intro i j x hi hj
  have hlt : ∀ k, dstI ops k = some x → k < ops.size := by
    intro k hk
    unfold dstI at hk
    cases ho : ops[k]? with
    | none => rw [ho] at hk; cases hk
    | some o => exact (Array.getElem?_eq_some_iff.1 ho).1
  unfold dstOkB at h
  rw [List.all_eq_true] at h
  have h1 := h i (List.mem_range.2 (hlt i hi))
  rw [List.all_eq_true] at h1
  have h2 := h1 j (List.mem_range.2 (hlt j hj))
  simp only [Bool.or_eq_true, beq_iff_eq, hi, hj, Option.isNone_some, Bool.false_eq_true, or_false, bne_self_eq_false] at h2
  exact h2
def noGuard (ops : Array Oper) : Bool := ops.toList.all fun o => o.guard.isNone
/-- the operation that writes a temporary is done -/
def byB (ops : Array Oper) (o : Oper) (j k : Nat) : Bool := (dstI ops j == some k) && o.after.toList.any fun e => e.on == j && Region.binds .any e
theorem ev_by {ops : Array Oper} {vals : Nat → V} {t : List V} {S : Nat → Bool} {ev : Operand → V} {o : Oper} (he : SemEv ops vals t S ev) (ha : Haf o S) (j k : Nat) (h : byB ops o j k = true) (hk : k < t.length) : ev (.tmp k) = vals j := by
  unfold byB at h
  simp only [Bool.and_eq_true, beq_iff_eq, List.any_eq_true] at h
  obtain ⟨h1, e, he2, h2, h3⟩ := h
  exact he.new j k h1 (h2 ▸ ha e (by simpa using he2) h3) hk
theorem af_done {o : Oper} {S : Nat → Bool} (haf : Haf o S) (j : Nat) (h : (o.after.toList.any fun e => e.on == j && Region.binds .any e) = true) : S j = true := by
  rw [List.any_eq_true] at h
  obtain ⟨e, h1, h2⟩ := h
  simp only [Bool.and_eq_true, beq_iff_eq] at h2
  rw [← h2.1]; exact haf e (by simpa using h1) h2.2
def oldB (ops : Array Oper) (k : Nat) : Bool := (List.range ops.size).all fun j => dstI ops j != some k
theorem ev_old {ops : Array Oper} {vals : Nat → V} {t : List V} {S : Nat → Bool} {ev : Operand → V} (he : SemEv ops vals t S ev) (k : Nat) (h : oldB ops k = true) : ev (.tmp k) = t.getD k .undef := by
  refine he.old k (fun j hj e => ?_)
  unfold oldB at h
  rw [List.all_eq_true] at h
  have := h j (List.mem_range.2 hj)
  rw [e] at this
  simp at this
theorem semOk_list {c : Cfg} {C : CallF} {ops : Array Oper} {s : St} (vals : Nat → V) (H : (Nat → Bool) → Heap) (hd : dstOkB ops = true) (hg : noGuard ops = true) (heb : edgesBack ops = true) (hH : H (fun _ => false) = s.h)
    (step : AllSt (fun i o => ∀ (S : Nat → Bool) (ev : Operand → V), Clo ops S → Haf o S → S i = false → SemEv ops vals s.t S ev →
      eff c C false (pivot ops i) (layPair c ops) (qPair c ops) o (some true) ev (H S) s.d s.p s.ro = some (.inl (vals i, H (fun j => j == i || S j), s.d, s.p))) 0 ops.toList)
    (hHc : ∀ S S' : Nat → Bool, (∀ j, j < ops.size → S j = S' j) → H S = H S') : SemOk c C ops s := by
  refine semOk_of c C ops vals H (dstOk_of hd) ?_ hH ?_ hHc heb
  · intro i o ho
    unfold noGuard at hg
    rw [List.all_eq_true] at hg
    have := hg o (by rw [Array.mem_toList_iff]; exact Array.mem_of_getElem? ho)
    simpa using this
  · intro i o ho S ev hcl haft hS hev
    have := allSt_get step (j := i) (o := o) (by simpa using ho)
    rw [Nat.zero_add] at this
    exact this S ev hcl haft hS hev
/-- regions of open order: some pairs by what is known of the places -/
theorem drawOkT_ex {c : Cfg} {ops : Array Oper} {t : List V} {h : Heap} (L : List (Nat × Nat)) (h1 : (edgesBack ops && !lcBad c ops) = true)
    (h2 : ((List.range ops.size).all fun i => (List.range i).all fun a => L.contains (a, i) || (((befores ops).getD i []).contains a ||
      (match ops[a]?, ops[i]? with
        | some x, some y => indep c ops x y
        | _, _ => false))) = true)
    (h3 : ∀ p ∈ L, ∃ x y, ops[p.1]? = some x ∧ ops[p.2]? = some y ∧ apartO c ops t h x y = true) : drawOkT c ops t h = true := by
  unfold drawOkT
  rw [h1, Bool.true_and, List.all_eq_true]
  intro i hi
  rw [List.all_eq_true] at h2
  have h4 := h2 i hi
  rw [List.all_eq_true] at h4 ⊢
  intro a ha
  have h5 := h4 a ha
  simp only [Bool.or_eq_true] at h5 ⊢
  rcases h5 with h5 | h5 | h5
  · obtain ⟨x, y, e1, e2, e3⟩ := h3 _ (by simpa using h5)
    right
    have e1' : ops[a]? = some x := e1
    have e2' : ops[i]? = some y := e2
    rw [e1', e2']
    show (indep c ops x y || apartO c ops t h x y) = true
    rw [e3, Bool.or_true]
  · exact .inl h5
  · right
    cases e1 : ops[a]? with
    | none => rw [e1] at h5; cases h5
    | some x => cases e2 : ops[i]? with
      | none => rw [e1, e2] at h5; cases h5
      | some y =>
        rw [e1, e2] at h5
        show (indep c ops x y || apartO c ops t h x y) = true
        have h6 : indep c ops x y = true := h5
        rw [h6]; rfl
theorem apart_ls {c : Cfg} {ops : Array Oper} {t : List V} {h : Heap} {a b : Oper} {ty ty' : TypeId} {p q v : Operand} {bk : Nat} (ha : a.op = .load ty p) (hb : b.op = .store ty' q v)
    (hd : ((match a.dst with
    | some d => b.dst != some d && !(readsOf ops b).contains d
    | none => true) &&
  (match b.dst with
    | some d => !(readsOf ops a).contains d
    | none => true)) = true) (hr : rootB c ops t 3 q = some bk) (hat : atFrom c ops t bk 3 q = true) (hf : farFrom c ops t h bk 3 p = true) : apartO c ops t h a b = true := by
  unfold apartO
  rw [Bool.and_eq_true]
  refine ⟨hd, ?_⟩
  rw [ha, hb]
  simp only [hr, hat, hf]
  rfl
theorem at_stay {c : Cfg} {ops : Array Oper} {t : List V} {bk n d : Nat} (hs : (ops.toList.all fun o => o.dst != some d) = true) (hv : atB bk (t.getD d .undef) = true) : atFrom c ops t bk (n + 1) (.tmp d) = true := by
  unfold atFrom
  rw [hv, Bool.true_and, List.all_eq_true]
  rw [List.all_eq_true] at hs
  intro o ho
  rw [hs o ho]; rfl
theorem far_stay {c : Cfg} {ops : Array Oper} {t : List V} {h : Heap} {bk n d : Nat} (hs : (ops.toList.all fun o => o.dst != some d) = true) (hv : noB bk (t.getD d .undef) = true) : farFrom c ops t h bk n (.tmp d) = true := by
  cases n with
  | zero => unfold farFrom; rw [hv, hs]; rfl
  | succ n =>
    unfold farFrom
    rw [hv, Bool.true_and, List.all_eq_true]
    rw [List.all_eq_true] at hs
    intro o ho
    rw [hs o ho]; rfl
theorem far_step {c : Cfg} {ops : Array Oper} {t : List V} {h : Heap} {bk n d e : Nat} (hs : (ops.toList.all fun o => o.dst != some d || (match o.op with
      | .fieldAddr _ (.tmp x) _ => x == e
      | .indexAddr _ (.tmp x) _ => x == e
      | .nilCheck (.tmp x) => x == e
      | .move (.tmp x) => x == e
      | _ => false)) = true) (hv : noB bk (t.getD d .undef) = true) (hn : farFrom c ops t h bk n (.tmp e) = true) : farFrom c ops t h bk (n + 1) (.tmp d) = true := by
  unfold farFrom
  rw [hv, Bool.true_and, List.all_eq_true]
  rw [List.all_eq_true] at hs
  intro o ho
  have h1 := hs o ho
  rw [Bool.or_eq_true] at h1 ⊢
  rcases h1 with h1 | h1
  · exact .inl h1
  · right
    split at h1
    all_goals first
      | (cases h1; done)
      | (rename_i hop; rw [hop]; rw [beq_iff_eq] at h1; subst h1; exact hn)
end Go.Ab
