/- A part of the proof. -/
import Derived.Test.YtlmhbemgaikmaaaGreatDoorAbsD
import Derived.Test.YtlmhbemgaikmaaaGreatDoorJ2
import Derived.Test.YtlmhbemgaikmaaaGreatDoorGr11
set_option linter.unusedVariables false
set_option linter.unusedSimpArgs false
set_option linter.unusedSectionVars false
set_option linter.deprecated false
namespace Go.Ab
set_option maxRecDepth 100000
def AllSt (P : Nat → Oper → Prop) : Nat → List Oper → Prop
 | _, [] => True
 | i, o :: l => P i o ∧ AllSt P (i + 1) l
theorem allSt_get {P : Nat → Oper → Prop} : ∀ {l : List Oper} {i j : Nat} {o : Oper}, AllSt P i l → l[j]? = some o → P (i + j) o
 | [], i, j, o, _, h => by simp at h
 | x :: l, i, 0, o, h, e => by simp at e; subst e; exact h.1
 | x :: l, i, j + 1, o, h, e => by
  have := allSt_get h.2 (j := j) (by simpa using e)
  rwa [Nat.add_assoc, Nat.add_comm 1 j] at this
def Clo (ops : Array Oper) (S : Nat → Bool) : Prop := ∀ (k : Nat) (ok : Oper), ops[k]? = some ok → S k = true → ∀ e ∈ ok.after, Region.binds .any e = true → S e.on = true
def Haf (o : Oper) (S : Nat → Bool) : Prop := ∀ e ∈ o.after, Region.binds .any e = true → S e.on = true
def chainB (ops : Array Oper) : Nat → List Nat → Bool
 | _, [] => true
 | k, a :: l => (match ops[k]? with
  | some o => o.after.toList.any fun e => e.on == a && Region.binds .any e
  | none => false) && chainB ops a l
theorem clo_chain {ops : Array Oper} {S : Nat → Bool} (hc : Clo ops S) : ∀ (l : List Nat) (k : Nat), chainB ops k l = true → S k = true → S (l.getLastD k) = true
 | [], k, _, h => by simpa using h
 | a :: l, k, h, hk => by
  simp only [chainB, Bool.and_eq_true] at h
  obtain ⟨h1, h2⟩ := h
  cases ho : ops[k]? with
  | none => rw [ho] at h1; cases h1
  | some o =>
   rw [ho] at h1
   simp only [List.any_eq_true, Bool.and_eq_true, beq_iff_eq] at h1
   obtain ⟨e, he, e1, e2⟩ := h1
   have ha : S a = true := e1 ▸ hc k o ho hk e (by simpa using he) e2
   have := clo_chain hc l a h2 ha
   rw [List.getLastD_cons]; exact this
theorem clo_false {ops : Array Oper} {S : Nat → Bool} (hc : Clo ops S) (l : List Nat) (k : Nat) (h : chainB ops k l = true) (hs : S (l.getLastD k) = false) : S k = false := by
 cases hk : S k with
 | false => rfl
 | true => rw [clo_chain hc l k h hk] at hs; cases hs
def dstOkB (ops : Array Oper) : Bool := (List.range ops.size).all fun i => (List.range ops.size).all fun j => i == j || (dstI ops i).isNone || dstI ops i != dstI ops j
theorem dstOk_of {ops : Array Oper} (h : dstOkB ops = true) : DstOk ops := by
 intro i j x hi hj
 have hlt : ∀ k, dstI ops k = some x → k < ops.size := by
  intro k hk
  unfold dstI at hk
  cases ho : ops[k]? with
  | none => rw [ho] at hk; cases hk
  | some o => exact (Array.getElem?_eq_some_iff.1 ho).1
 unfold dstOkB at h
 rw [List.all_eq_true] at h
 have h1 := h i (List.mem_range.2 (hlt i hi))
 rw [List.all_eq_true] at h1
 have h2 := h1 j (List.mem_range.2 (hlt j hj))
 simp only [Bool.or_eq_true, beq_iff_eq, hi, hj, Option.isNone_some, Bool.false_eq_true, or_false, bne_self_eq_false] at h2
 exact h2
def noGuard (ops : Array Oper) : Bool := ops.toList.all fun o => o.guard.isNone
def byB (ops : Array Oper) (o : Oper) (j k : Nat) : Bool := (dstI ops j == some k) && o.after.toList.any fun e => e.on == j && Region.binds .any e
theorem ev_by {ops : Array Oper} {vals : Nat → V} {t : List V} {S : Nat → Bool} {ev : Operand → V} {o : Oper} (he : SemEv ops vals t S ev) (ha : Haf o S) (j k : Nat) (h : byB ops o j k = true) (hk : k < t.length) : ev (.tmp k) = vals j := by
 unfold byB at h
 simp only [Bool.and_eq_true, beq_iff_eq, List.any_eq_true] at h
 obtain ⟨h1, e, he2, h2, h3⟩ := h
 exact he.new j k h1 (h2 ▸ ha e (by simpa using he2) h3) hk
theorem af_done {o : Oper} {S : Nat → Bool} (haf : Haf o S) (j : Nat) (h : (o.after.toList.any fun e => e.on == j && Region.binds .any e) = true) : S j = true := by
 rw [List.any_eq_true] at h
 obtain ⟨e, h1, h2⟩ := h
 simp only [Bool.and_eq_true, beq_iff_eq] at h2
 rw [← h2.1]; exact haf e (by simpa using h1) h2.2
def oldB (ops : Array Oper) (k : Nat) : Bool := (List.range ops.size).all fun j => dstI ops j != some k
theorem ev_old {ops : Array Oper} {vals : Nat → V} {t : List V} {S : Nat → Bool} {ev : Operand → V} (he : SemEv ops vals t S ev) (k : Nat) (h : oldB ops k = true) : ev (.tmp k) = t.getD k .undef := by
 refine he.old k (fun j hj e => ?_)
 unfold oldB at h
 rw [List.all_eq_true] at h
 have := h j (List.mem_range.2 hj)
 rw [e] at this
 simp at this
theorem semOk_list {c : Cfg} {C : CallF} {ops : Array Oper} {s : St} (vals : Nat → V) (H : (Nat → Bool) → Heap) (hd : dstOkB ops = true) (hg : noGuard ops = true) (heb : edgesBack ops = true) (hH : H (fun _ => false) = s.h)
  (step : AllSt (fun i o => ∀ (S : Nat → Bool) (ev : Operand → V), Clo ops S → Haf o S → S i = false → SemEv ops vals s.t S ev →
   eff c C false (pivot ops i) (layPair c ops) (qPair c ops) o (some true) ev (H S) s.d s.p s.ro = some (.inl (vals i, H (fun j => j == i || S j), s.d, s.p))) 0 ops.toList)
  (hHc : ∀ S S' : Nat → Bool, (∀ j, j < ops.size → S j = S' j) → H S = H S') : SemOk c C ops s := by
 refine semOk_of c C ops vals H (dstOk_of hd) ?_ hH ?_ hHc heb
 ·intro i o ho
  unfold noGuard at hg
  rw [List.all_eq_true] at hg
  have := hg o (by rw [Array.mem_toList_iff]; exact Array.mem_of_getElem? ho)
  simpa using this
 ·intro i o ho S ev hcl haft hS hev
  have := allSt_get step (j := i) (o := o) (by simpa using ho)
  rw [Nat.zero_add] at this
  exact this S ev hcl haft hS hev
theorem drawOkT_ex {c : Cfg} {ops : Array Oper} {t : List V} {h : Heap} (L : List (Nat × Nat)) (h1 : (edgesBack ops && !lcBad c ops) = true)
  (h2 : ((List.range ops.size).all fun i => (List.range i).all fun a => L.contains (a, i) || (((befores ops).getD i []).contains a ||
   (match ops[a]?, ops[i]? with
    | some x, some y => indep c ops x y
    | _, _ => false))) = true)
  (h3 : ∀ p ∈ L, ∃ x y, ops[p.1]? = some x ∧ ops[p.2]? = some y ∧ apartO c ops t h x y = true) : drawOkT c ops t h = true := by
 unfold drawOkT
 rw [h1, Bool.true_and, List.all_eq_true]
 intro i hi
 rw [List.all_eq_true] at h2
 have h4 := h2 i hi
 rw [List.all_eq_true] at h4 ⊢
 intro a ha
 have h5 := h4 a ha
 simp only [Bool.or_eq_true] at h5 ⊢
 rcases h5 with h5 | h5 | h5
 ·obtain ⟨x, y, e1, e2, e3⟩ := h3 _ (by simpa using h5)
  right
  have e1' : ops[a]? = some x := e1
  have e2' : ops[i]? = some y := e2
  rw [e1', e2']
  show (indep c ops x y || apartO c ops t h x y) = true
  rw [e3, Bool.or_true]
 ·exact .inl h5
 ·right
  cases e1 : ops[a]? with
  | none => rw [e1] at h5; cases h5
  | some x => cases e2 : ops[i]? with
   | none => rw [e1, e2] at h5; cases h5
   | some y =>
    rw [e1, e2] at h5
    show (indep c ops x y || apartO c ops t h x y) = true
    have h6 : indep c ops x y = true := h5
    rw [h6]; rfl
theorem apart_ls {c : Cfg} {ops : Array Oper} {t : List V} {h : Heap} {a b : Oper} {ty ty' : TypeId} {p q v : Operand} {bk : Nat} (ha : a.op = .load ty p) (hb : b.op = .store ty' q v)
  (hd : ((match a.dst with
  | some d => b.dst != some d && !(readsOf ops b).contains d
  | none => true) &&
 (match b.dst with
  | some d => !(readsOf ops a).contains d
  | none => true)) = true) (hr : rootB c ops t 3 q = some bk) (hat : atFrom c ops t bk 3 q = true) (hf : farFrom c ops t h bk 3 p = true) : apartO c ops t h a b = true := by
 unfold apartO
 rw [Bool.and_eq_true]
 refine ⟨hd, ?_⟩
 rw [ha, hb]
 simp only [hr, hat, hf]
 rfl
theorem at_stay {c : Cfg} {ops : Array Oper} {t : List V} {bk n d : Nat} (hs : (ops.toList.all fun o => o.dst != some d) = true) (hv : atB bk (t.getD d .undef) = true) : atFrom c ops t bk (n + 1) (.tmp d) = true := by
 unfold atFrom
 rw [hv, Bool.true_and, List.all_eq_true]
 rw [List.all_eq_true] at hs
 intro o ho
 rw [hs o ho]; rfl
theorem far_stay {c : Cfg} {ops : Array Oper} {t : List V} {h : Heap} {bk n d : Nat} (hs : (ops.toList.all fun o => o.dst != some d) = true) (hv : noB bk (t.getD d .undef) = true) : farFrom c ops t h bk n (.tmp d) = true := by
 cases n with
 | zero => unfold farFrom; rw [hv, hs]; rfl
 | succ n =>
  unfold farFrom
  rw [hv, Bool.true_and, List.all_eq_true]
  rw [List.all_eq_true] at hs
  intro o ho
  rw [hs o ho]; rfl
end Go.Ab
namespace Go.Ab
set_option maxRecDepth 100000
theorem semOkR_list {c : Cfg} {ops : Array Oper} {s : St} (base : Nat) (hbase : base = s.h.bs.length) (vals : Nat → V) (H : (Nat → Bool) → Heap) (hd : dstOkB ops = true) (hg : noGuard ops = true) (heb : edgesBack ops = true) (hH : H (fun _ => false) = (reserveR c ops s).h)
  (step : AllSt (fun i o => ∀ (S : Nat → Bool) (ev : Operand → V), Clo ops S → Haf o S → S i = false → SemEv ops vals s.t S ev → StepE c ops base vals H i o ev S) 0 ops.toList)
  (hHc : ∀ S S' : Nat → Bool, (∀ j, j < ops.size → S j = S' j) → H S = H S') : SemOkR c ops s { s with t := semT ops vals s.t (fun _ => true) (List.range ops.size), h := H (fun _ => true) } := by
 refine semOkR_of c ops base hbase vals H (dstOk_of hd) ?_ hH ?_ hHc heb
 ·intro i o ho
  unfold noGuard at hg
  rw [List.all_eq_true] at hg
  have := hg o (by rw [Array.mem_toList_iff]; exact Array.mem_of_getElem? ho)
  simpa using this
 ·intro i o ho S ev hcl haft hS hev
  have := allSt_get step (j := i) (o := o) (by simpa using ho)
  rw [Nat.zero_add] at this
  exact this S ev hcl haft hS hev
theorem stepE_val {c : Cfg} {ops : Array Oper} {base : Nat} {vals : Nat → V} {H : (Nat → Bool) → Heap} {i : Nat} {o : Oper} {ev : Operand → V} {S : Nat → Bool} (h0 : isLayR c o = false) (h : opR c (H S) ev o = some (.val (vals i) (H (fun j => j == i || S j)))) : StepE c ops base vals H i o ev S := by
 unfold StepE; rw [if_neg (by rw [h0]; simp)]; exact .inl h
theorem stepE_skip {c : Cfg} {ops : Array Oper} {base : Nat} {vals : Nat → V} {H : (Nat → Bool) → Heap} {i : Nat} {o : Oper} {ev : Operand → V} {S : Nat → Bool} (h0 : isLayR c o = false) (h : opR c (H S) ev o = some (.skip (H (fun j => j == i || S j)))) (hv : vals i = .tuple []) : StepE c ops base vals H i o ev S := by
 unfold StepE; rw [if_neg (by rw [h0]; simp)]; exact .inr ⟨h, hv⟩
theorem stepE_lay {c : Cfg} {ops : Array Oper} {base n : Nat} {vals : Nat → V} {H : (Nat → Bool) → Heap} {i : Nat} {o : Oper} {ev : Operand → V} {S : Nat → Bool} (cs : List V) (h0 : isLayR c o = true) (hn : base + rankR c ops i = n) (h1 : layR c ev o n = some (vals i, cs)) (h2 : (H S).bs[n]? = some .res) (h3 : H (fun j => j == i || S j) = { H S with bs := (H S).bs.set n (.cells cs) }) : StepE c ops base vals H i o ev S := by
 unfold StepE; rw [if_pos h0]; subst hn; exact ⟨cs, h1, h2, h3⟩
end Go.Ab
namespace Go.Ab
open Go.Proofs
set_option maxRecDepth 100000
set_option maxHeartbeats 4000000
def valE (s : Wd) (i : Nat) : V := match i with
 | 0 => .str s | 1 => .int .i64 s.length | 2 => .int .i64 (s.length + 1) | 3 => .slice 1 0 (s.length + 1) 1 | 4 => .str s | 5 => .int .i64 s.length | 6 => .slice 2 0 s.length 1
 | 7 => .ptr 3 0 | 8 => .ptr 4 0 | _ => .tuple []
def hpE (s : Wd) (ts : List (Option Nat)) (S : Nat → Bool) : Heap := ⟨[.cells [.str s], if S 3 = true then .cells (tab (s.length + 1) (cI fun _ => 0)) else .res, if S 6 = true then .cells (tab s.length (cI fun _ => 0)) else .res,
 if S 7 = true then (if S 9 = true then .cells [.slice 1 0 (s.length + 1) 1] else .cells [.row true true [] 0 none]) else .res, if S 8 = true then (if S 10 = true then .cells [.slice 2 0 s.length 1] else .cells [.row true true [] 0 none]) else .res], ts⟩
theorem regE {s : Wd} {f : Nat → V} {ts : List (Option Nat)} {d : List Def} {p : Pan} {ro : Option Nat} (hs : s.length ≤ 4096) (h3 : f 3 = .ptr 0 0) :
  SemOkR cfg (drawAt Tryz.f126 0) ⟨tab 124 f, ⟨[.cells [.str s]], ts⟩, d, p, ro⟩
   { (⟨tab 124 f, ⟨[.cells [.str s]], ts⟩, d, p, ro⟩ : St) with t := semT (drawAt Tryz.f126 0) (valE s) (tab 124 f) (fun _ => true) (List.range (drawAt Tryz.f126 0).size), h := hpE s ts (fun _ => true) } := by
 refine semOkR_list (s := ⟨tab 124 f, ⟨[.cells [.str s]], ts⟩, d, p, ro⟩) 1 rfl (valE s) (hpE s ts) (by kernel_rfl) (by kernel_rfl) (by kernel_rfl) rfl ?_ ?_
 ·refine ⟨?_, ?_, ?_, ?_, ?_, ?_, ?_, ?_, ?_, ?_, ?_, trivial⟩
  all_goals intro S ev hcl haf hS he
  ·have x0 : ev (.tmp 3) = .ptr 0 0 := by rw [ev_old he 3 (by kernel_rfl), ← h3]; rfl
   refine stepE_val (by rfl) ?_
   simp [opR, x0, hpE, valE]
  ·have x0 : ev (.tmp 31) = .str s := ev_by he haf 0 31 (by kernel_rfl) (by simp)
   refine stepE_val (by rfl) ?_
   simp [opR, x0, hpE, valE]
  ·have x0 : ev (.tmp 32) = .int .i64 s.length := ev_by he haf 1 32 (by kernel_rfl) (by simp)
   have x1 := he.const (.int .i64 1)
   refine stepE_val (by rfl) ?_
   simp (disch := omega) [opR, x0, x1, hpE, valE]
  ·have x0 : ev (.tmp 33) = .int .i64 (s.length + 1) := ev_by he haf 2 33 (by kernel_rfl) (by simp)
   refine stepE_lay (n := 1) (tab (s.length + 1) (cI fun _ => 0)) (by rfl) (by kernel_rfl) ?_ ?_ ?_
   ·simp (disch := omega) [layR, x0, valE, cI_rep, cI_repf]
   ·simp [hpE, hS]
   ·simp [hpE, hS]
  ·have x0 : ev (.tmp 3) = .ptr 0 0 := by rw [ev_old he 3 (by kernel_rfl), ← h3]; rfl
   refine stepE_val (by rfl) ?_
   simp [opR, x0, hpE, valE]
  ·have x0 : ev (.tmp 35) = .str s := ev_by he haf 4 35 (by kernel_rfl) (by simp)
   refine stepE_val (by rfl) ?_
   simp [opR, x0, hpE, valE]
  ·have x0 : ev (.tmp 36) = .int .i64 s.length := ev_by he haf 5 36 (by kernel_rfl) (by simp)
   refine stepE_lay (n := 2) (tab s.length (cI fun _ => 0)) (by rfl) (by kernel_rfl) ?_ ?_ ?_
   ·simp (disch := omega) [layR, x0, valE, cI_rep, cI_repf]
   ·simp [hpE, hS]
   ·simp [hpE, hS]
  ·have h9 : S 9 = false := clo_false hcl [7] 9 (by kernel_rfl) hS
   refine stepE_lay (n := 3) [.row true true [] 0 none] (by rfl) (by kernel_rfl) ?_ ?_ ?_
   ·simp [layR, valE]
   ·simp [hpE, hS]
   ·simp [hpE, hS, h9]
  ·have h10 : S 10 = false := clo_false hcl [8] 10 (by kernel_rfl) hS
   refine stepE_lay (n := 4) [.row true true [] 0 none] (by rfl) (by kernel_rfl) ?_ ?_ ?_
   ·simp [layR, valE]
   ·simp [hpE, hS]
   ·simp [hpE, hS, h10]
  ·have x0 : ev (.tmp 11) = .ptr 3 0 := ev_by he haf 7 11 (by kernel_rfl) (by simp)
   have x1 : ev (.tmp 34) = .slice 1 0 (s.length + 1) 1 := ev_by he haf 3 34 (by kernel_rfl) (by simp)
   have h7 : S 7 = true := af_done haf 7 (by kernel_rfl)
   refine stepE_skip (by rfl) ?_ rfl
   simp [opR, x0, x1, hpE, hS, h7]
  ·have x0 : ev (.tmp 12) = .ptr 4 0 := ev_by he haf 8 12 (by kernel_rfl) (by simp)
   have x1 : ev (.tmp 37) = .slice 2 0 s.length 1 := ev_by he haf 6 37 (by kernel_rfl) (by simp)
   have h8 : S 8 = true := af_done haf 8 (by kernel_rfl)
   refine stepE_skip (by rfl) ?_ rfl
   simp [opR, x0, x1, hpE, hS, h8]
 ·intro S S' h
  have hsz : (drawAt Tryz.f126 0).size = 11 := by kernel_rfl
  rw [hsz] at h
  unfold hpE
  rw [h 3 (by omega), h 6 (by omega), h 7 (by omega), h 8 (by omega), h 9 (by omega), h 10 (by omega)]
theorem regE_wp {s : Wd} {f : Nat → V} {ts : List (Option Nat)} {d : List Def} {p : Pan} {ro : Option Nat} {K : List Fr} {Q : Ax → St → Prop} {id : Nat} (hs : s.length ≤ 4096) (h3 : f 3 = .ptr 0 0)
  (k : ∀ f', (f' 11 = .ptr 3 0 ∧ f' 12 = .ptr 4 0 ∧ ∀ i, i < 11 ∨ 37 < i → f' i = f i) → dn cfg .normal ⟨tab 124 f', ⟨[.cells [.str s], .cells (tab (s.length + 1) (cI fun _ => 0)), .cells (tab s.length (cI fun _ => 0)), .cells [.slice 1 0 (s.length + 1) 1], .cells [.slice 2 0 s.length 1]], ts⟩, d, p, ro⟩ K Q) :
  wp cfg (.region id (drawAt Tryz.f126 0) true) ⟨tab 124 f, ⟨[.cells [.str s]], ts⟩, d, p, ro⟩ K Q := by
 refine wp_semR (c := cfg) hP (by rw [Bool.or_eq_false_iff]; exact ⟨by kernel_rfl, by kernel_rfl⟩) (by kernel_rfl) (regE hs h3) ?_
 have hsz : (drawAt Tryz.f126 0).size = 11 := by kernel_rfl
 rw [hsz]
 have d0 : dstI (drawAt Tryz.f126 0) 0 = some 31 := by kernel_rfl
 have d1 : dstI (drawAt Tryz.f126 0) 1 = some 32 := by kernel_rfl
 have d2 : dstI (drawAt Tryz.f126 0) 2 = some 33 := by kernel_rfl
 have d3 : dstI (drawAt Tryz.f126 0) 3 = some 34 := by kernel_rfl
 have d4 : dstI (drawAt Tryz.f126 0) 4 = some 35 := by kernel_rfl
 have d5 : dstI (drawAt Tryz.f126 0) 5 = some 36 := by kernel_rfl
 have d6 : dstI (drawAt Tryz.f126 0) 6 = some 37 := by kernel_rfl
 have d7 : dstI (drawAt Tryz.f126 0) 7 = some 11 := by kernel_rfl
 have d8 : dstI (drawAt Tryz.f126 0) 8 = some 12 := by kernel_rfl
 have d9 : dstI (drawAt Tryz.f126 0) 9 = none := by kernel_rfl
 have d10 : dstI (drawAt Tryz.f126 0) 10 = none := by kernel_rfl
 have e : semT (drawAt Tryz.f126 0) (valE s) (tab 124 f) (fun _ => true) (List.range 11) =
   tab 124 (upd (upd (upd (upd (upd (upd (upd (upd (upd f 31 (.str s)) 32 (.int .i64 s.length)) 33 (.int .i64 (s.length + 1))) 34 (.slice 1 0 (s.length + 1) 1)) 35 (.str s)) 36 (.int .i64 s.length)) 37 (.slice 2 0 s.length 1)) 11 (.ptr 3 0)) 12 (.ptr 4 0)) := by
  rw [show List.range 11 = [0, 1, 2, 3, 4, 5, 6, 7, 8, 9, 10] from rfl]
  simp only [semT, if_true, d0, d1, d2, d3, d4, d5, d6, d7, d8, d9, d10, putT, tab_set, valE]
 rw [e]
 exact k (upd (upd (upd (upd (upd (upd (upd (upd (upd f 31 (.str s)) 32 (.int .i64 s.length)) 33 (.int .i64 (s.length + 1))) 34 (.slice 1 0 (s.length + 1) 1)) 35 (.str s)) 36 (.int .i64 s.length)) 37 (.slice 2 0 s.length 1)) 11 (.ptr 3 0)) 12 (.ptr 4 0)) ⟨by simp, by simp, fun i hi => by simp only [upd]; repeat rw [if_neg (by omega)]⟩
end Go.Ab
namespace Go.Ab
open Go.Proofs
set_option maxRecDepth 100000
set_option maxHeartbeats 4000000
def valF (N i : Nat) (v k : Int) (m : Nat) : V := match m with
 | 0 => .slice 1 0 (N + 1) 1 | 1 => .int .i64 i | 2 => .slice 2 0 N 1 | 3 => .int .i64 i | 4 => .int .i64 v | 5 => .int .i64 k | 6 => .ptr 1 i | 8 => .ptr 2 i | _ => .tuple []
def hpF (b0 : Blk) (N i : Nat) (v k : Int) (g u : Nat → Int) (R0 : List Blk) (ts : List (Option Nat)) (S : Nat → Bool) : Heap :=
 ⟨b0 :: (if S 7 = true then .cells (tab (N + 1) (cI (updI g i v))) else .cells (tab (N + 1) (cI g))) :: (if S 9 = true then .cells (tab N (cI (updI u i k))) else .cells (tab N (cI u))) :: .cells [.slice 1 0 (N + 1) 1] :: .cells [.slice 2 0 N 1] :: R0, ts⟩
theorem regF_wp {b0 : Blk} {N i n : Nat} {v k : Int} {g u : Nat → Int} {R0 : List Blk} {f : Nat → V} {ts : List (Option Nat)} {d : List Def} {p : Pan} {ro : Option Nat} {K : List Fr} {Q : Ax → St → Prop} {id : Nat} (hN : N ≤ 4096) (hi : i < N) (hR : R0[n]? = some (.cells [.int .i64 i]))
  (h11 : f 11 = .ptr 3 0) (h12 : f 12 = .ptr 4 0) (h13 : f 13 = .ptr (n + 5) 0) (h14 : f 14 = .int .i64 k) (h16 : f 16 = .int .i64 v)
  (kk : ∀ f', (∀ j, j < 71 ∨ 78 < j → f' j = f j) → dn cfg .normal ⟨tab 124 f', ⟨b0 :: .cells (tab (N + 1) (cI (updI g i v))) :: .cells (tab N (cI (updI u i k))) :: .cells [.slice 1 0 (N + 1) 1] :: .cells [.slice 2 0 N 1] :: R0, ts⟩, d, p, ro⟩ K Q) :
  wp cfg (.region id (drawAt Tryz.f126 2) true) ⟨tab 124 f, ⟨b0 :: .cells (tab (N + 1) (cI g)) :: .cells (tab N (cI u)) :: .cells [.slice 1 0 (N + 1) 1] :: .cells [.slice 2 0 N 1] :: R0, ts⟩, d, p, ro⟩ K Q := by
 refine wp_sem2 (semOk_list (valF N i v k) (hpF b0 N i v k g u R0 ts) (by kernel_rfl) (by kernel_rfl) (by kernel_rfl) rfl ?_ ?_) ?_ ?_
 ·refine ⟨?_, ?_, ?_, ?_, ?_, ?_, ?_, ?_, ?_, ?_, trivial⟩
  all_goals intro S ev hcl haf hS he
  ·have x0 : ev (.tmp 11) = .ptr 3 0 := by rw [ev_old he 11 (by kernel_rfl), ← h11]; rfl
   simp [eff, opR, x0, hpF, valF]
  ·have x0 : ev (.tmp 13) = .ptr (n + 5) 0 := by rw [ev_old he 13 (by kernel_rfl), ← h13]; rfl
   simp [eff, opR, x0, hpF, valF, hR]
  ·have x0 : ev (.tmp 12) = .ptr 4 0 := by rw [ev_old he 12 (by kernel_rfl), ← h12]; rfl
   simp [eff, opR, x0, hpF, valF]
  ·have x0 : ev (.tmp 13) = .ptr (n + 5) 0 := by rw [ev_old he 13 (by kernel_rfl), ← h13]; rfl
   simp [eff, opR, x0, hpF, valF, hR]
  ·have x0 : ev (.tmp 16) = .int .i64 v := by rw [ev_old he 16 (by kernel_rfl), ← h16]; rfl
   simp [eff, opR, x0, hpF, valF]
  ·have x0 : ev (.tmp 14) = .int .i64 k := by rw [ev_old he 14 (by kernel_rfl), ← h14]; rfl
   simp [eff, opR, x0, hpF, valF]
  ·have x0 : ev (.tmp 71) = .slice 1 0 (N + 1) 1 := ev_by he haf 0 71 (by kernel_rfl) (by simp)
   have x1 : ev (.tmp 72) = .int .i64 i := ev_by he haf 1 72 (by kernel_rfl) (by simp)
   have hi1 : i < N + 1 := by omega
   simp (disch := first|exact DD|fail) [-getElem?_pos, gZ, gS, eff, opR, x0, x1, hpF, valF, hi1]
  ·have x0 : ev (.tmp 77) = .ptr 1 i := ev_by he haf 6 77 (by kernel_rfl) (by simp)
   have x1 : ev (.tmp 75) = .int .i64 v := ev_by he haf 4 75 (by kernel_rfl) (by simp)
   have hi1 : i < N + 1 := by omega
   simp (disch := first|exact DD|fail) [-getElem?_pos, gZ, gS, eff, opR, x0, x1, hpF, valF, hS, tab_set, hi1]
  ·have x0 : ev (.tmp 73) = .slice 2 0 N 1 := ev_by he haf 2 73 (by kernel_rfl) (by simp)
   have x1 : ev (.tmp 74) = .int .i64 i := ev_by he haf 3 74 (by kernel_rfl) (by simp)
   simp (disch := first|exact DD|fail) [-getElem?_pos, gZ, gS, eff, opR, x0, x1, hpF, valF, hi]
  ·have x0 : ev (.tmp 78) = .ptr 2 i := ev_by he haf 8 78 (by kernel_rfl) (by simp)
   have x1 : ev (.tmp 76) = .int .i64 k := ev_by he haf 5 76 (by kernel_rfl) (by simp)
   simp (disch := first|exact DD|fail) [-getElem?_pos, gZ, gS, eff, opR, x0, x1, hpF, valF, hS, tab_set, hi]
 ·intro S S' h
  have hsz : (drawAt Tryz.f126 2).size = 10 := by kernel_rfl
  rw [hsz] at h
  unfold hpF
  rw [h 7 (by omega), h 9 (by omega)]
 all_goals
  simp only [Tryz.f126, drawAt, drawsOf, codeOf, Option.getD, List.append, List.nil_append, List.cons_append, List.append_nil, List.getD, gZ, gS]
  repeat' (first|((first|refine wA ?_ ?_|refine wB ?_ ?_)<;>intro hc<;>try simp at hc)|refine wF ?_|refine wY ?_|refine wL ?_|refine owe ?_ fun ho=>?_|(simp (disch := first|exact DD|fail) [h11, h12, h13, h14, h16, hR, hi, tab_set, show i < N + 1 by omega, -getElem?_pos, gZ, gS]))
  exact kk _ (fun j hj => by simp only [upd]; repeat rw [if_neg (by omega)])
end Go.Ab
namespace Go.Ab
open Go.Proofs
set_option maxRecDepth 100000
set_option maxHeartbeats 4000000
def gA (t : List Sgn) (s : Wd) (j : Nat) : Nat → Int := fun v => if s.length ≤ v + j then nth (leastL t s) v else 0
def uA (t : List Sgn) (s : Wd) (j : Nat) : Nat → Int := fun v => if s.length ≤ v + j then (firstZ t s v : Int) else 0
theorem gA_zero (t : List Sgn) (s : Wd) : tab (s.length + 1) (cI (gA t s 0)) = tab (s.length + 1) (cI fun _ => 0) := tab_ext fun v hv => by
 unfold cI gA
 congr 1
 by_cases e : s.length ≤ v + 0
 ·rw [if_pos e, show v = s.length by omega]; exact least_end t s
 ·rw [if_neg e]
theorem uA_zero (t : List Sgn) (s : Wd) : tab s.length (cI (uA t s 0)) = tab s.length (cI fun _ => 0) := tab_ext fun v hv => by
 unfold cI uA
 congr 1
 rw [if_neg (by omega)]
section
variable {b0 b1 b2 b3 b4 x0 x1 x2 x3 x4 z : Blk} {X Y M : List Blk} {j : Nat}
theorem gz : (b0 :: b1 :: b2 :: b3 :: b4 :: (X ++ x0 :: x1 :: x2 :: x3 :: x4 :: (Y ++ M)))[X.length + (Y.length + (j + 10))]? = M[j]? := by
 rw [show X.length + (Y.length + (j + 10)) = X.length + (Y.length + j + 1 + 1 + 1 + 1 + 1) + 1 + 1 + 1 + 1 + 1 by omega]
 simp only [List.getElem?_cons_succ, app_at]
theorem gzs : (b0 :: b1 :: b2 :: b3 :: b4 :: (X ++ x0 :: x1 :: x2 :: x3 :: x4 :: (Y ++ M))).set (X.length + (Y.length + (j + 10))) z = b0 :: b1 :: b2 :: b3 :: b4 :: (X ++ x0 :: x1 :: x2 :: x3 :: x4 :: (Y ++ M.set j z)) := by
 rw [show X.length + (Y.length + (j + 10)) = X.length + (Y.length + j + 1 + 1 + 1 + 1 + 1) + 1 + 1 + 1 + 1 + 1 by omega]
 simp only [List.set_cons_succ, app_set]
theorem gzb : b0 :: b1 :: b2 :: b3 :: b4 :: (X ++ x0 :: x1 :: x2 :: x3 :: x4 :: (Y ++ [z])) = b0 :: b1 :: b2 :: b3 :: b4 :: (X ++ (x0 :: x1 :: x2 :: x3 :: x4 :: Y) ++ [z]) := by simp
end
theorem tab_take1 (n : Nat) (f : Nat → V) : (tab (n + 1) f).take 1 = [f 0] := by
 unfold tab
 rw [List.range_succ_eq_map]; rfl
theorem C126 (t : List Sgn) (s : List UInt8) (hs : smZs t) (hs2 : s.length < 1099511627776) : Kc cfg 126 [R fl0 eZ t, .str s] (.ret (.tuple [R fl0 eI (encodeZ t s).1, R fl0 eI (encodeZ t s).2.1, .bool (encodeZ t s).2.2.1, .int .i64 (encodeZ t s).2.2.2])) := by
 have hs1 := hs.1
 by_cases hc : checkZ t = 0
 ·by_cases he : (runesG s).2 = 0
  ·obtain ⟨c1, c2, c3⟩ := checkZ_zero hc
   have h0 : ∀ j, j < t.length → 0 < lenZ t j := fun j hj => by
    obtain ⟨⟨e1, e2, _⟩, _⟩ := sgnAt_of (c3 j hj)
    obtain ⟨_, e4⟩ := runesG_all e1
    have := runes_len _ _ _ (Nat.le_refl _) e4
    show 0 < (nth t j).text.length
    omega
   obtain ⟨d1, d2⟩ := runesG_all he
   refine outS_of_wp cfg (fn := Tryz.f126) Tryz.func126 rfl (by simp [Tryz.f126]) ?_
   simp (disch := first|exact DD|fail) [-getElem?_pos, gZ, gS, Tryz.f126, emptyH, hc, he]
   repeat' (first | ((first | refine wA ?_ ?_ | refine wB ?_ ?_) <;> intro hc <;> try simp at hc) | refine wY ?_ | refine wL ?_ | refine owe ?_ fun ho => ?_ | (simp (disch := first|exact DD|fail) [emptyH, hc, he, -getElem?_pos, gZ, gS]))
   refine regE_wp d1 (by simp) (fun f1 hf1 => ?_)
   obtain ⟨f11, f12, hf⟩ := hf1
   have f0 : f1 0 = R fl0 eZ t := by rw [hf 0 (by omega)]; simp
   have f3 : f1 3 = .ptr 0 0 := by rw [hf 3 (by omega)]; simp
   have f4 : f1 4 = .row true true [] 0 none := by rw [hf 4 (by omega)]; simp
   have f5 : f1 5 = .row true true [] 0 none := by rw [hf 5 (by omega)]; simp
   clear hf
   repeat' (first|((first|refine wA ?_ ?_|refine wB ?_ ?_)<;>intro hc<;>try simp at hc)|refine wF ?_|refine wY ?_|refine wL ?_|refine owe ?_ fun ho=>?_|(simp (disch := first|exact DD|fail) [f0, f3, f11, f12, -getElem?_pos, gZ, gS]))
   refine wp_loopD (c := cfg) rfl (fun f0 h0 d0 m fr h dd => ∃ j : Nat, ∃ X : List Blk, ∃ ms : List Nat, fr 0 = f0 0 ∧ fr 3 = f0 3 ∧ fr 4 = f0 4 ∧ fr 5 = f0 5 ∧ fr 11 = f0 11 ∧ fr 12 = f0 12 ∧ fr 13 = .ptr (X.length + 5) 0 ∧ (h.bs = .cells [.str s] :: .cells (tab (s.length + 1) (cI (gA t s j))) :: .cells (tab s.length (cI (uA t s j))) :: .cells [.slice 1 0 (s.length + 1) 1] :: .cells [.slice 2 0 s.length 1] :: (X ++ [.cells [.int .i64 ((s.length : Int) - 1 - j)]])) ∧ (j + m = s.length) ∧ (Mk ms X) ∧ dd = mkD 5 ms) (s.length) _ _ _ ⟨0, [], [], rfl, rfl, rfl, rfl, rfl, rfl, by first | rfl | (simp; done) | (simp [R]; done) | simp [R], by rw [← gA_zero t s, ← uA_zero t s]; simp, by first | rfl | (simp; done) | omega, Mk.nil _, by first | rfl | simp⟩ ?_
   rintro Am Af Ah _ ⟨j, X, ms, A0, A3, A4, A5, A11, A12, A13, hb, hm, hmk, rfl⟩ Aih
   try simp at A0 A3 A4 A5 A11 A12
   rw [f0] at A0
   rw [f3] at A3
   rw [f4] at A4
   rw [f5] at A5
   rw [f11] at A11
   rw [f12] at A12
   by_cases hj : j < s.length
   ·obtain ⟨i, hi⟩ : ∃ i, i + j + 1 = s.length := ⟨s.length - 1 - j, by omega⟩
    have hi2 : (s.length : Int) - 1 - j = i := by omega
    rw [hi2] at hb
    have hu0 : updI (uA t s j) i 0 = uA t s j := by
     funext v
     unfold updI uA
     by_cases e : v = i
     ·rw [if_pos e, if_neg (by omega)]
     ·rw [if_neg e]
    rw [← hu0] at hb
    have hla := least_all t s
    repeat' (first|((first|refine wA ?_ ?_|refine wB ?_ ?_)<;>intro hc<;>try simp at hc)|refine wF ?_|refine wY ?_|refine wL ?_|refine owe ?_ fun ho=>?_|(simp (disch := first|exact DD|fail) [A0, A3, A4, A5, A11, A12, A13, hb, tab_set, tab_get1, app_at, app_at0, app_set, app_set0, Tryz.f129, Tryz.f133, -getElem?_pos, gZ, gS]))
    refine wp_loopE cfg rfl (fun f0 h0 m fr h => ∃ k : Nat, ∃ Y : List Blk, fr 0 = f0 0 ∧ fr 1 = f0 1 ∧ fr 2 = f0 2 ∧ fr 6 = f0 6 ∧ fr 7 = f0 7 ∧ fr 8 = .int .i64 k ∧ (h.bs = (h0.bs.set 1 (.cells (tab (s.length + 1) (cI (updI (gA t s j) i (bestZ t s (leastL t s) i k).1))))).set 2 (.cells (tab s.length (cI (updI (uA t s j) i (bestZ t s (leastL t s) i k).2)))) ++ Y) ∧ (k + m = t.length)) (t.length) _ _ ⟨0, [], rfl, rfl, rfl, rfl, rfl, by first | rfl | (simp; done) | (simp [R]; done) | simp [R], by simp [bestZ, neverZ], by first | rfl | (simp; done) | omega⟩ ?_
    rintro Bm Bf Bh ⟨k, Y, B0, B1, B2, B6, B7, B8, hb2, hm2⟩ Bih
    try simp [A0, A3, A4, A5, A11, A12, A13] at B0 B1 B2 B6 B7
    simp at hb2
    by_cases hk : k < t.length
    ·obtain ⟨k1, k2⟩ := smZs_nth hs hk
     have hlen0 := h0 k hk
     obtain ⟨⟨e1, e2, e3, e4, e5⟩, _, _⟩ := sgnAt_of (c3 k hk)
     have hst : bestZ t s (leastL t s) i (k + 1) = if preZ (nth t k).text (s.drop i) = true ∧ ((nth t k).cells.length : Int) + nth (leastL t s) (i + (nth t k).text.length) < (bestZ t s (leastL t s) i k).1 then (((nth t k).cells.length : Int) + nth (leastL t s) (i + (nth t k).text.length), k) else bestZ t s (leastL t s) i k := rfl
     obtain ⟨b, hbk⟩ : ∃ b, bestZ t s (leastL t s) i k = b := ⟨_, rfl⟩
     rw [hbk] at hst hb2
     cases hp : preZ (nth t k).text (s.drop i) with
     | false =>
      rw [hp, if_neg (fun e => by cases e.1)] at hst
      repeat' (first|((first|refine wA ?_ ?_|refine wB ?_ ?_)<;>intro hc<;>try simp at hc)|refine wF ?_|refine wY ?_|refine wL ?_|refine owe ?_ fun ho=>?_|(simp (disch := first|exact DD|fail) [B0, B1, B2, B6, B7, B8, A0, A3, A4, A5, A11, A12, A13, hb2, hp, hk, tab_set, tab_get1, app_at, app_at0, app_set, app_set0, gz, gzs, Nat.add_assoc, Tryz.f130, -getElem?_pos, gZ, gS]))
      exact Bih (Bm - 1) _ _ (by omega) ⟨k + 1, Y ++ [.cells [.str (nth t k).text, R fl0 eI (nth t k).cells], .cells [.str (nth t k).text, R fl0 eI (nth t k).cells]], by simp [B0, B1, B2, B6, B7, B8, A0, A3, A4, A5, A11, A12, A13, hst], by simp [B0, B1, B2, B6, B7, B8, A0, A3, A4, A5, A11, A12, A13, hst], by simp [B0, B1, B2, B6, B7, B8, A0, A3, A4, A5, A11, A12, A13, hst], by simp [B0, B1, B2, B6, B7, B8, A0, A3, A4, A5, A11, A12, A13, hst], by simp [B0, B1, B2, B6, B7, B8, A0, A3, A4, A5, A11, A12, A13, hst], by simp [B0, B1, B2, B6, B7, B8, A0, A3, A4, A5, A11, A12, A13, hst], (by simp [hst]), by omega⟩
     | true =>
      have hpl := preZ_len hp
      have hlen1 : 0 < (nth t k).text.length := hlen0
      have hle : i + (nth t k).text.length ≤ s.length := by omega
      have hgi : updI (gA t s j) i b.1 (i + (nth t k).text.length) = nth (leastL t s) (i + (nth t k).text.length) := by
       unfold updI gA
       rw [if_neg (by omega), if_pos (by omega)]
      have hti : ((i : Int) + ((nth t k).text.length : Int)).toNat = i + (nth t k).text.length := by omega
      have hl1 := hla (i + (nth t k).text.length)
      unfold neverZ at hl1
      rw [hp] at hst
      by_cases hlt : ((nth t k).cells.length : Int) + nth (leastL t s) (i + (nth t k).text.length) < b.1
      ·rw [if_pos ⟨rfl, hlt⟩] at hst
       repeat' (first | ((first | refine wA ?_ ?_ | refine wB ?_ ?_) <;> intro hc <;> try simp at hc) | (refine wp_drawF (by decide +kernel) ?_) | refine wY ?_ | refine wL ?_ | refine owe ?_ fun ho => ?_ | (simp (disch := first|exact DD|fail) [B0, B1, B2, B6, B7, B8, A0, A3, A4, A5, A11, A12, A13, hb2, hp, hk, hle, hti, hgi, hlt, tab_set, tab_get1, app_at, app_at0, app_set, app_set0, gz, gzs, Nat.add_assoc, Tryz.f130, -getElem?_pos, gZ, gS]))
       refine regF_wp (n := X.length) (i := i) (k := (k : Int)) (v := ((nth t k).cells.length : Int) + nth (leastL t s) (i + (nth t k).text.length)) d1 (by omega) (by simp [app_at0]) (by simp [A11]) (by simp [A12]) (by simp [A13]) (by simp) (by simp) (fun f' hf' => ?_)
       repeat' (first|((first|refine wA ?_ ?_|refine wB ?_ ?_)<;>intro hc<;>try simp at hc)|refine wF ?_|refine wY ?_|refine wL ?_|refine owe ?_ fun ho=>?_|(simp (disch := first|exact DD|fail) [B0, B1, B2, B6, B7, B8, A0, A3, A4, A5, A11, A12, A13, hb2, hp, hk, hle, hti, hgi, hlt, tab_set, tab_get1, app_at, app_at0, app_set, app_set0, gz, gzs, Nat.add_assoc, Tryz.f130, -getElem?_pos, gZ, gS]))
       all_goals try (exfalso; omega)
       exact Bih (Bm - 1) _ _ (by omega) ⟨k + 1, Y ++ [.cells [.str (nth t k).text, R fl0 eI (nth t k).cells], .cells [.str (nth t k).text, R fl0 eI (nth t k).cells], .cells [.str (nth t k).text, R fl0 eI (nth t k).cells]], by simp [B0, B1, B2, B6, B7, B8, A0, A3, A4, A5, A11, A12, A13, hst], by simp [B0, B1, B2, B6, B7, B8, A0, A3, A4, A5, A11, A12, A13, hst], by simp [B0, B1, B2, B6, B7, B8, A0, A3, A4, A5, A11, A12, A13, hst], by simp [B0, B1, B2, B6, B7, B8, A0, A3, A4, A5, A11, A12, A13, hst], by simp [B0, B1, B2, B6, B7, B8, A0, A3, A4, A5, A11, A12, A13, hst], by simp [B0, B1, B2, B6, B7, B8, A0, A3, A4, A5, A11, A12, A13, hst], (by simp [hst]), by omega⟩
      ·rw [if_neg (fun e => hlt e.2)] at hst
       repeat' (first|((first|refine wA ?_ ?_|refine wB ?_ ?_)<;>intro hc<;>try simp at hc)|refine wF ?_|refine wY ?_|refine wL ?_|refine owe ?_ fun ho=>?_|(simp (disch := first|exact DD|fail) [B0, B1, B2, B6, B7, B8, A0, A3, A4, A5, A11, A12, A13, hb2, hp, hk, hle, hti, hgi, hlt, tab_set, tab_get1, app_at, app_at0, app_set, app_set0, gz, gzs, Nat.add_assoc, Tryz.f130, -getElem?_pos, gZ, gS]))
       all_goals try (exfalso; omega)
       exact Bih (Bm - 1) _ _ (by omega) ⟨k + 1, Y ++ [.cells [.str (nth t k).text, R fl0 eI (nth t k).cells], .cells [.str (nth t k).text, R fl0 eI (nth t k).cells], .cells [.str (nth t k).text, R fl0 eI (nth t k).cells]], by simp [B0, B1, B2, B6, B7, B8, A0, A3, A4, A5, A11, A12, A13, hst], by simp [B0, B1, B2, B6, B7, B8, A0, A3, A4, A5, A11, A12, A13, hst], by simp [B0, B1, B2, B6, B7, B8, A0, A3, A4, A5, A11, A12, A13, hst], by simp [B0, B1, B2, B6, B7, B8, A0, A3, A4, A5, A11, A12, A13, hst], by simp [B0, B1, B2, B6, B7, B8, A0, A3, A4, A5, A11, A12, A13, hst], by simp [B0, B1, B2, B6, B7, B8, A0, A3, A4, A5, A11, A12, A13, hst], (by simp [hst]), by omega⟩
    ·obtain rfl : k = t.length := by omega
     have hla2 := least_at (t := t) (s := s) h0 (i := i) (by omega)
     have hg2 : tab (s.length + 1) (cI (updI (gA t s j) i (bestZ t s (leastL t s) i t.length).1)) = tab (s.length + 1) (cI (gA t s (j + 1))) := tab_ext fun v hv => by
      unfold cI updI gA
      congr 1
      by_cases e : v = i
      ·subst e; rw [if_pos rfl, if_pos (by omega), hla2]
      ·rw [if_neg e]
       by_cases e2 : s.length ≤ v + j
       ·rw [if_pos e2, if_pos (by omega)]
       ·rw [if_neg e2, if_neg (by omega)]
     have hu2 : tab s.length (cI (updI (uA t s j) i (bestZ t s (leastL t s) i t.length).2)) = tab s.length (cI (uA t s (j + 1))) := tab_ext fun v hv => by
      unfold cI updI uA firstZ
      congr 1
      by_cases e : v = i
      ·subst e; rw [if_pos rfl, if_pos (by omega)]
      ·rw [if_neg e]
       by_cases e2 : s.length ≤ v + j
       ·rw [if_pos e2, if_pos (by omega)]
       ·rw [if_neg e2, if_neg (by omega)]
     rw [hg2, hu2] at hb2
     repeat' (first|((first|refine wA ?_ ?_|refine wB ?_ ?_)<;>intro hc<;>try simp at hc)|refine wF ?_|refine wY ?_|refine wL ?_|refine owe ?_ fun ho=>?_|(simp (disch := first|exact DD|fail) [B0, B1, B2, B6, B7, B8, A0, A3, A4, A5, A11, A12, A13, hb2, tab_set, tab_get1, app_at, app_at0, app_set, app_set0, gz, gzs, Nat.add_assoc, -getElem?_pos, gZ, gS]))
     all_goals try (exfalso; omega)
     refine Aih (Am - 1) _ _ _ (by omega) ⟨j + 1, X ++ (?b1 :: ?b2 :: ?b3 :: .dfr true :: ?b4 :: Y), (X.length + 3) :: ms, by simp [A0, f0], by simp [A3, f3], by simp [A4, f4], by simp [A5, f5], by simp [A11, f11], by simp [A12, f12], ?hs, ?hb, by omega, hmk.new (k := 3) rfl, by simp [mkD_cons]⟩
     case hs => simp; omega
     case hb =>
      have e : (s.length : Int) - 1 - ((j + 1 : Nat) : Int) = (i : Int) - 1 := by omega
      rw [e]
      exact gzb
   ·obtain rfl : j = s.length := by omega
    have hgn : gA t s s.length = nth (leastL t s) := by funext v; exact if_pos (by omega)
    have hun : uA t s s.length = fun v => (firstZ t s v : Int) := by funext v; exact if_pos (by omega)
    rw [hgn, hun, show (s.length : Int) - 1 - s.length = -1 by omega] at hb
    have hla := least_all t s
    have hp0 : 0 < s.length + 1 := by omega
    clear Aih
    by_cases hnv : neverZ ≤ nth (leastL t s) 0
    ·have hE : encodeZ t s = ([], [], false, 0) := by unfold encodeZ; rw [if_neg (by simp [hc]), if_neg (by simp [he]), if_pos hnv]
     rw [hE]
     unfold neverZ at hnv
     repeat' (first|((first|refine wA ?_ ?_|refine wB ?_ ?_)<;>intro hc<;>try simp at hc)|refine wF ?_|refine wY ?_|refine wL ?_|refine owe ?_ fun ho=>?_|(simp (disch := first|exact DD|fail) [A0, A3, A4, A5, A11, A12, A13, hb, hnv, hp0, tab_get1, tab_take1, app_at, app_at0, -getElem?_pos, gZ, gS]))
     all_goals try (exfalso; omega)
     have hlv := hmk.leave (D := Di cfg) (m := .ret) (ts := Ah.ts) (L := [.cells [.str s], .cells (tab (s.length + 1) (cI (nth (leastL t s)))), .cells (tab s.length (cI fun v => (firstZ t s v : Int))), .cells [.slice 1 0 (s.length + 1) 1], .cells [.slice 2 0 s.length 1]]) (R := [.cells [.int .i64 (-1)]]) (k := 5) rfl
     obtain ⟨bs', l1, l2⟩ := hlv
     simp only [List.cons_append, List.nil_append] at l1
     rw [← hb] at l1
     have l3 : leaveS (Di cfg) (mkD 5 ms) Ah .ret = some (⟨bs', Ah.ts⟩, .ret) := l1
     simp (disch := first|exact DD|fail) [-getElem?_pos, gZ, gS, l3]
     all_goals rfl
    ·by_cases hbig : 4096 < nth (leastL t s) 0
     ·have hE : encodeZ t s = ([], [], false, 2) := by unfold encodeZ; rw [if_neg (by simp [hc]), if_neg (by simp [he]), if_neg hnv, if_pos hbig]
      rw [hE]
      unfold neverZ at hnv
      repeat' (first|((first|refine wA ?_ ?_|refine wB ?_ ?_)<;>intro hc<;>try simp at hc)|refine wF ?_|refine wY ?_|refine wL ?_|refine owe ?_ fun ho=>?_|(simp (disch := first|exact DD|fail) [A0, A3, A4, A5, A11, A12, A13, hb, hnv, hbig, hp0, tab_get1, tab_take1, app_at, app_at0, -getElem?_pos, gZ, gS]))
      all_goals try (exfalso; omega)
      have hlv := hmk.leave (D := Di cfg) (m := .ret) (ts := Ah.ts) (L := [.cells [.str s], .cells (tab (s.length + 1) (cI (nth (leastL t s)))), .cells (tab s.length (cI fun v => (firstZ t s v : Int))), .cells [.slice 1 0 (s.length + 1) 1], .cells [.slice 2 0 s.length 1]]) (R := [.cells [.int .i64 (-1)]]) (k := 5) rfl
      obtain ⟨bs', l1, l2⟩ := hlv
      simp only [List.cons_append, List.nil_append] at l1
      rw [← hb] at l1
      have l3 : leaveS (Di cfg) (mkD 5 ms) Ah .ret = some (⟨bs', Ah.ts⟩, .ret) := l1
      simp (disch := first|exact DD|fail) [-getElem?_pos, gZ, gS, l3]
      all_goals rfl
     ·have hE : encodeZ t s = (signsZ t s, cellsZ t (pathZ t s s.length 0), true, 0) := by unfold encodeZ; rw [if_neg (by simp [hc]), if_neg (by simp [he]), if_neg hnv, if_neg hbig]
      rw [hE]
      unfold neverZ at hnv
      repeat' (first|((first|refine wA ?_ ?_|refine wB ?_ ?_)<;>intro hc<;>try simp at hc)|refine wF ?_|refine wY ?_|refine wL ?_|refine owe ?_ fun ho=>?_|(simp (disch := first|exact DD|fail) [A0, A3, A4, A5, A11, A12, A13, hb, hnv, hbig, hp0, tab_get1, tab_take1, app_at, app_at0, -getElem?_pos, gZ, gS]))
      all_goals try (exfalso; omega)
      refine wp_loopE cfg rfl (fun f0 h0 m fr h => ∃ i : Nat, ∃ l : List Nat, ∃ q1 : Fl, ∃ q2 : Fl, fr 0 = f0 0 ∧ fr 3 = f0 3 ∧ fr 12 = f0 12 ∧ fr 17 = .int .i64 i ∧ fr 4 = R q1 eI (l.map fun (k : Nat) => (k : Int)) ∧ fr 5 = R q2 eI (cellsZ t l) ∧ (h.bs = h0.bs) ∧ (App h.ts 1 q1) ∧ (App h.ts 1 q2) ∧ (q1.2.2 = none ∨ q2.2.2 = none ∨ q1.2.2 ≠ q2.2.2) ∧ (pathZ t s s.length 0 = l ++ pathZ t s m i) ∧ (s.length ≤ i + m) ∧ (i ≤ s.length) ∧ (l.length ≤ i) ∧ ((cellsZ t l).length ≤ 4 * l.length) ∧ (nth (leastL t s) i < neverZ)) (s.length) _ _ ⟨0, [], (true, true, none), (true, true, none), rfl, rfl, rfl, by first | rfl | (simp; done) | (simp [R]; done) | simp [R], by simp [A4, R], by simp [A5, R, cellsZ], by first | rfl | (simp; done) | omega, App.nil _ _ _, App.nil _ _ _, .inl rfl, rfl, by first | rfl | (simp; done) | omega, by first | rfl | (simp; done) | omega, by first | rfl | (simp; done) | omega, Nat.zero_le _, by unfold neverZ; omega⟩ ?_
      rintro Cm Cf Ch ⟨i, l, q1, q2, C0, C3, C12, C17, C4, C5, hbs, ha1, ha2, hd, hpt, him, hil, hll, hcl, hni⟩ Cih
      try simp [A0, A3, A4, A5, A11, A12, A13] at C0 C3 C12
      simp only [hb] at hbs
      by_cases hi : i < s.length
      ·obtain ⟨p1, p2, p3, p4, p5, p6⟩ := path_step h0 hi hni
       obtain ⟨m, rfl⟩ : ∃ m, Cm = m + 1 := ⟨Cm - 1, by omega⟩
       have hpt2 : pathZ t s (m + 1) i = firstZ t s i :: pathZ t s m (i + lenZ t (firstZ t s i)) := by rw [pathZ, if_pos hi]
       obtain ⟨⟨e1, e2, e3, e4, e5⟩, _, _⟩ := sgnAt_of (c3 _ p1)
       obtain ⟨w1, w2⟩ := smZs_nth hs p1
       generalize hk : firstZ t s i = k at *
       have ha2' : App (bumpT Ch.ts q1.2.2 1) 1 q2 := ha2.keep (by
        rcases hd with h | h | h
        ·by_cases e : q2.2.2 = none
         ·exact .inl e
         ·exact .inr (by rw [h]; exact e)
        ·exact .inl h
        ·exact .inr (fun e => h e.symm))
       have hne : ¬ (nth t k).cells = [] := fun e => by rw [e] at e4; simp at e4
       have hc4 : cellZ t k = (nth t k).cells.length := rfl
       have hlz : lenZ t k = (nth t k).text.length := rfl
       have hcs : cellsZ t (l ++ [k]) = cellsZ t l ++ (nth t k).cells := by simp [cellsZ]
       have hll2 : (cellsZ t l).length + (nth t k).cells.length ≤ 4294967296 := by omega
       repeat' (first|((first|refine wA ?_ ?_|refine wB ?_ ?_)<;>intro hc<;>try simp at hc)|refine wF ?_|refine wY ?_|refine wL ?_|refine owe ?_ fun ho=>?_|(simp (disch := first|exact DD|fail) [C0, C3, C12, C17, C4, C5, hbs, hi, p1, hk, hne, append_Rn, tab_get1, fold_I1, -getElem?_pos, gZ, gS]))
       all_goals try (exfalso; omega)
       have hb1 : App (bumpT (bumpT Ch.ts q1.2.2 1) q2.2.2 1) 1 (false, false, some Ch.ts.length) := (App.new _ _ _).keep (by
        rcases ha2.lt with h | h
        ·right; rw [h]; simp
        ·exact .inr (fun e => h e.symm))
       have hb2' : App (bumpT (bumpT Ch.ts q1.2.2 1) q2.2.2 1) 1 (false, false, some (bumpT Ch.ts q1.2.2 1).length) := App.new _ _ _
       have hpt3 : pathZ t s s.length 0 = (l ++ [k]) ++ pathZ t s m (i + lenZ t k) := by rw [hpt, hpt2, List.append_assoc]; rfl
       have hll3 : (l ++ [k]).length ≤ i + lenZ t k := by rw [List.length_append]; simp; omega
       have hcl3 : (cellsZ t (l ++ [k])).length ≤ 4 * (l ++ [k]).length := by rw [hcs, List.length_append, List.length_append]; simp; omega
       exact Cih (m) _ _ (by omega) ⟨i + lenZ t k, l ++ [k], (false, false, some Ch.ts.length), (false, false, some (bumpT Ch.ts q1.2.2 1).length), by simp [C0, C3, C12, C17, C4, C5, A0, A3, A4, A5, A11, A12, A13, hcs, hlz, bump_len], by simp [C0, C3, C12, C17, C4, C5, A0, A3, A4, A5, A11, A12, A13, hcs, hlz, bump_len], by simp [C0, C3, C12, C17, C4, C5, A0, A3, A4, A5, A11, A12, A13, hcs, hlz, bump_len], by simp [C0, C3, C12, C17, C4, C5, A0, A3, A4, A5, A11, A12, A13, hcs, hlz, bump_len], by simp [C0, C3, C12, C17, C4, C5, A0, A3, A4, A5, A11, A12, A13, hcs, hlz, bump_len], by simp [C0, C3, C12, C17, C4, C5, A0, A3, A4, A5, A11, A12, A13, hcs, hlz, bump_len], hb.symm, hb1, hb2', .inr (.inr (by simp [bump_len])), hpt3, by omega, p2, hll3, hcl3, p5⟩
      ·obtain rfl : i = s.length := by omega
       have hp0' : pathZ t s Cm s.length = [] := by
        cases Cm with
        | zero => rfl
        | succ m => rw [pathZ, if_neg (by omega)]
       rw [hp0', List.append_nil] at hpt
       have hsg : signsZ t s = l.map fun (k : Nat) => (k : Int) := by unfold signsZ; rw [hpt]
       rw [hsg, hpt]
       repeat' (first|((first|refine wA ?_ ?_|refine wB ?_ ?_)<;>intro hc<;>try simp at hc)|refine wF ?_|refine wY ?_|refine wL ?_|refine owe ?_ fun ho=>?_|(simp (disch := first|exact DD|fail) [C0, C3, C12, C17, C4, C5, hbs, -getElem?_pos, gZ, gS]))
       all_goals try (exfalso; omega)
       have hlv := hmk.leave (D := Di cfg) (m := .ret) (ts := Ch.ts) (L := [.cells [.str s], .cells (tab (s.length + 1) (cI (nth (leastL t s)))), .cells (tab s.length (cI fun v => (firstZ t s v : Int))), .cells [.slice 1 0 (s.length + 1) 1], .cells [.slice 2 0 s.length 1]]) (R := [.cells [.int .i64 (-1)]]) (k := 5) rfl
       obtain ⟨bs', l1, l2⟩ := hlv
       simp only [List.cons_append, List.nil_append] at l1
       rw [← hbs] at l1
       have l3 : leaveS (Di cfg) (mkD 5 ms) Ch .ret = some (⟨bs', Ch.ts⟩, .ret) := l1
       simp (disch := first|exact DD|fail) [-getElem?_pos, gZ, gS, l3]
       all_goals trace_state
  ·have hE : encodeZ t s = ([], [], false, (runesG s).2) := by unfold encodeZ; rw [if_neg (by simp [hc]), if_pos he]
   rw [hE]
   refine outS_of_wp cfg (fn := Tryz.f126) Tryz.func126 rfl (by simp [Tryz.f126]) ?_
   simp (disch := first|exact DD|fail) [-getElem?_pos, gZ, gS, Tryz.f126, emptyH, hc, he]
   repeat' (first|((first|refine wA ?_ ?_|refine wB ?_ ?_)<;>intro hc<;>try simp at hc)|refine wF ?_|refine wY ?_|refine wL ?_|refine owe ?_ fun ho=>?_|(simp (disch := first|exact DD|fail) [emptyH, hc, he, -getElem?_pos, gZ, gS]))
   rfl
 ·have hE : encodeZ t s = ([], [], false, checkZ t) := by unfold encodeZ; rw [if_pos hc]
  rw [hE]
  refine outS_of_wp cfg (fn := Tryz.f126) Tryz.func126 rfl (by simp [Tryz.f126]) ?_
  simp (disch := first|exact DD|fail) [-getElem?_pos, gZ, gS, Tryz.f126, emptyH, hc]
  repeat' (first|((first|refine wA ?_ ?_|refine wB ?_ ?_)<;>intro hc<;>try simp at hc)|refine wF ?_|refine wY ?_|refine wL ?_|refine owe ?_ fun ho=>?_|(simp (disch := first|exact DD|fail) [emptyH, hc, -getElem?_pos, gZ, gS]))
  exact rfl
@[simp] theorem S126 (t : List Sgn) (s : List UInt8) (hs : smZs t) (hs2 : s.length < 1099511627776) (q1 : Fl) (hh : Heap) : Ci cfg (.func (.func 126) [] []) [R  q1 eZ t, .str s] hh = some (.ret (.tuple [R fl0 eI (encodeZ t s).1, R fl0 eI (encodeZ t s).2.1, .bool (encodeZ t s).2.2.1, .int .i64 (encodeZ t s).2.2.2]), hh) :=
 Ci_K cfg rfl rfl (by simp) (by simp) (C126 t s hs hs2)
end Go.Ab
