/- Layer 22 (fuse): work: slot, cell, put; the steps. -/
import Derived.Test.YtackmibobdoecaaDoorH3
import Derived.Test.YtackmibobdoecaaDoorQ22
set_option linter.unusedVariables false
set_option linter.unusedSimpArgs false
set_option linter.unusedSectionVars false
set_option linter.deprecated false
namespace Go.Ab
open Go.Proofs
set_option maxRecDepth 100000
set_option maxHeartbeats 4000000
/-- what a call that turns the heap comes to -/
def QfinE (c : Cfg) (rs : List ResultVar) (P : CRes × Heap → Prop) (ax : Ax) (s : St) : Prop := ∃ x, finS c rs (some (ax, s)) = some x ∧ P x
theorem QfinE_m {c : Cfg} {rs : List ResultVar} {P : CRes × Heap → Prop} {s : St} {m : Md} {x : CRes × Heap} (h : finM c rs s m = some x) (hp : P x) : ∃ x, finM c rs s m = some x ∧ P x := ⟨x, h, hp⟩
@[simp] theorem QfinE_normal (c : Cfg) (rs : List ResultVar) (P : CRes × Heap → Prop) (s : St) : QfinE c rs P .normal s = ∃ x, finM c rs s .ret = some x ∧ P x := rfl
@[simp] theorem QfinE_ret (c : Cfg) (rs : List ResultVar) (P : CRes × Heap → Prop) (s : St) : QfinE c rs P .ret s = ∃ x, finM c rs s .ret = some x ∧ P x := rfl
theorem Ci_of_wpE {c : Cfg} {f : FuncId} {fn : Func} {code : Code} {first args cap : List V} {h : Heap} {P : CRes × Heap → Prop} (hf : c.P.funcs[f]? = some fn) (hb : fn.body = some code) (hl : (first ++ args ++ cap).length ≤ fn.ntmps) (hp : c.pure f = false)
    (k : wp c code ⟨tab fn.ntmps (lf (first ++ args ++ cap)), h, [], .no, none⟩ [] (QfinE c fn.results.toList P)) : ∃ x, Ci c (.func (.func f) first cap) args h = some x ∧ P x := by
  unfold wp at k
  simp only [thr] at k
  cases hx : Ei c code ⟨tab fn.ntmps (lf (first ++ args ++ cap)), h, [], .no, none⟩ with
  | none => rw [hx] at k; cases k
  | some y =>
    obtain ⟨ax, s⟩ := y
    rw [hx] at k
    obtain ⟨x, h1, h2⟩ := k
    refine ⟨x, ?_, h2⟩
    rw [Ci_eq]
    simp only [callS, hp]
    rw [if_neg (by simp), bodyS_fin c hf hb, initT_tab hl, hx]
    exact h1
/-- the work's block -/
def WS (h : Heap) (w : Nat) (old o : List (List Cell)) (r : List Cell) (m : Int) : Prop := ∃ q1 q q2, h.bs[w]? = some (.cells [R q1 (eR eC) old, R q (eR eC) o, R q2 eC r, .int .i64 m]) ∧ App h.ts 1 q
theorem WS.of {h : Heap} {w : Nat} {old o : List (List Cell)} {r : List Cell} {m : Int} {q1 q q2 : Fl} (hb : h.bs[w]? = some (.cells [R q1 (eR eC) old, R q (eR eC) o, R q2 eC r, .int .i64 m])) (ha : App h.ts 1 q) : WS h w old o r m := ⟨q1, q, q2, hb, ha⟩
/-- other blocks are kept -/
def Kp (h h' : Heap) (w : Nat) : Prop := ∀ a, a ≠ w → ∀ b, h.bs[a]? = some b → h'.bs[a]? = some b
theorem Kp.trans {h h1 h2 : Heap} {w : Nat} (a : Kp h h1 w) (b : Kp h1 h2 w) : Kp h h2 w := fun x hx y hy => b x hx y (a x hx y hy)
theorem Kp.refl (h : Heap) (w : Nat) : Kp h h w := fun _ _ _ e => e
/-- a result, and the work behind it -/
def After (h : Heap) (w : Nat) (v : V) (old o : List (List Cell)) (r : List Cell) (m : Int) (x : CRes × Heap) : Prop := x.1 = .ret v ∧ WS x.2 w old o r m ∧ Kp h x.2 w
theorem Kp_set (h : Heap) (w : Nat) (b : Blk) (L : List Blk) (ts : List (Option Nat)) : Kp h ⟨(h.bs ++ L).set w b, ts⟩ w := by
  intro a ha y hy
  show ((h.bs ++ L).set w b)[a]? = _
  rw [List.getElem?_set_ne (fun e => ha e.symm), List.getElem?_append_left (List.getElem?_eq_some_iff.1 hy).1]; exact hy
theorem Kp_set0 (h : Heap) (w : Nat) (b : Blk) (ts : List (Option Nat)) : Kp h ⟨h.bs.set w b, ts⟩ w := by
  have := Kp_set h w b [] ts
  simpa using this
theorem Cslot {h : Heap} {w : Nat} {y : List Cell} {old o : List (List Cell)} {r : List Cell} {m : Int} (hs : WS h w (y :: old) o r m) (hl : old.length < 1000000) :
    ∃ x, Ci cfg (.func (.func 50) [] []) [.ptr w 0] h = some x ∧ After h w (R fl0 eC y) old o r m x := by
  obtain ⟨q1, q, q2, hb, hap⟩ := hs
  have hw : w < h.bs.length := (List.getElem?_eq_some_iff.1 hb).1
  obtain ⟨bs, ts⟩ := h
  simp only at hb hap hw
  generalize hP : After ⟨bs, ts⟩ w (R fl0 eC y) old o r m = P
  refine Ci_of_wpE (fn := Tryd.f50) Tryd.func50 rfl (by simp [Tryd.f50]) rfl ?_
  simp (disch := first | assumption | omega | (simp; done) | (simp; omega)) [-getElem?_pos, List.getElem?_cons_zero, List.getElem?_cons_succ, Tryd.f50, hb]
  repeat' (first | (refine wpc_split _ (fun hc => ?_) (fun hc => ?_) <;> (try simp at hc)) | (refine ww_split _ (fun hc => ?_) (fun hc => ?_) <;> (try simp at hc)) | (refine wp_drawF (by kernel_rfl) ?_) | (refine wk_yldW _ ?_) | (refine layOwe _ (by kernel_rfl) ?_) | (refine owe ?_ (fun ho => ?_)) | (simp (disch := first | assumption | omega | (simp; done) | (simp; omega)) [hb, eR, -getElem?_pos, List.getElem?_cons_zero, List.getElem?_cons_succ]))
  subst hP
  exact ⟨rfl, ⟨_, _, _, List.getElem?_set_self hw, hap⟩, Kp_set0 ⟨bs, ts⟩ w _ _⟩
theorem Ccell {h : Heap} {w : Nat} {old o : List (List Cell)} {c : Cell} {r : List Cell} {m : Int} (hs : WS h w old o (c :: r) m) (hl : r.length < 1000000) :
    ∃ x, Ci cfg (.func (.func 51) [] []) [.ptr w 0] h = some x ∧ After h w (.agg [.str c.text, R fl0 eS c.alts]) old o r m x := by
  obtain ⟨q1, q, q2, hb, hap⟩ := hs
  have hw : w < h.bs.length := (List.getElem?_eq_some_iff.1 hb).1
  obtain ⟨bs, ts⟩ := h
  simp only at hb hap hw
  have hb2 : ∀ x, (bs ++ [x])[w]? = some (.cells [R q1 (eR eC) old, R q (eR eC) o, R q2 eC (c :: r), .int .i64 m]) := fun x => by rw [List.getElem?_append_left hw]; exact hb
  generalize hP : After ⟨bs, ts⟩ w (.agg [.str c.text, R fl0 eS c.alts]) old o r m = P
  refine Ci_of_wpE (fn := Tryd.f51) Tryd.func51 rfl (by simp [Tryd.f51]) rfl ?_
  have hne : w ≠ bs.length := by omega
  have hb4 : ∀ a b : Blk, (bs.set w a ++ [b])[bs.length]? = some b := fun a b => by rw [List.getElem?_append_right (by simp)]; simp
  have hb5 : ∀ a b b' : Blk, (bs.set w a ++ [b]).set bs.length b' = bs.set w a ++ [b'] := fun a b b' => by rw [List.set_append]; simp
  simp (disch := first | assumption | omega | (simp; done) | (simp; omega)) [-getElem?_pos, List.getElem?_cons_zero, List.getElem?_cons_succ, Tryd.f51, hb, hb2]
  repeat' (first | (refine wpc_split _ (fun hc => ?_) (fun hc => ?_) <;> (try simp at hc)) | (refine ww_split _ (fun hc => ?_) (fun hc => ?_) <;> (try simp at hc)) | (refine wk_yldW _ ?_) | (refine layOwe _ (by kernel_rfl) ?_) | (refine owe ?_ (fun ho => ?_)) | (simp (disch := first | assumption | omega | (simp; done) | (simp; omega)) [hb, hb2, -getElem?_pos, List.getElem?_cons_zero, List.getElem?_cons_succ]))
  refine wp_drawT _ (drawOkT_ex [(10, 12)] (by kernel_rfl) (by kernel_rfl) ?_) ?_
  · simp only [List.mem_singleton]
    rintro _ rfl
    refine ⟨_, _, rfl, rfl, ?_⟩
    refine apart_ls (bk := bs.length) rfl rfl (by kernel_rfl) (by kernel_rfl) (at_stay (by kernel_rfl) ?_) (far_step (e := 11) (by kernel_rfl) rfl (far_step (e := 10) (by kernel_rfl) rfl (far_step (e := 0) (by kernel_rfl) rfl (far_stay (by kernel_rfl) ?_))))
    · show (bs.length == bs.length) = true
      simp
    · show (w != bs.length) = true
      simp [hne]
  repeat' (first | (refine wpc_split _ (fun hc => ?_) (fun hc => ?_) <;> (try simp at hc)) | (refine ww_split _ (fun hc => ?_) (fun hc => ?_) <;> (try simp at hc)) | (refine wp_drawF (by kernel_rfl) ?_) | (refine wk_yldW _ ?_) | (refine layOwe _ (by kernel_rfl) ?_) | (refine owe ?_ (fun ho => ?_)) | (simp (disch := first | assumption | omega | (simp; done) | (simp; omega)) [hb, hb2, hb4, hb5, -getElem?_pos, List.getElem?_cons_zero, List.getElem?_cons_succ]))
  subst hP
  refine ⟨rfl, WS.of (q1 := q1) (q := q) (q2 := slf q2 1 (r.length + 1) (r.length + 1)) ?_ hap, ?_⟩
  · rw [List.getElem?_append_left (by simpa using hw)]; exact List.getElem?_set_self hw
  · have := Kp_set ⟨bs, ts⟩ w (Blk.cells [R q1 (eR eC) old, R q (eR eC) o, R (slf q2 1 (r.length + 1) (r.length + 1)) eC r, V.int IntKind.i64 m]) [Blk.cells [V.str c.text, R fl0 eS c.alts]] ts
    rw [List.set_append_left _ _ hw] at this
    exact this
/-- a row that is cloned: what comes of it, and what is owed of tokens -/
structure PutIn (ts : List (Option Nat)) (q : Fl) (X : V) (x : List Cell) : Prop where
  eq : ∀ b, eqV Tryd.prog b 37 X (.row true true [] 0 none) = some false
  ap : ∃ fl' ts', (∀ bs, appendV Tryd.prog ⟨bs, ts⟩ false #[37, 37] (R (false, true, none) eC []) X = some (R fl' eC x, ⟨bs, ts'⟩)) ∧ App ts' 2 fl' ∧ App ts' 1 q ∧ (q.2.2 = none ∨ q.2.2 ≠ fl'.2.2)
theorem Cput {h : Heap} {w : Nat} {old o : List (List Cell)} {r : List Cell} {m : Int} (hs : WS h w old o r m) (ho : o.length < 1000000) (X : V) (x : List Cell) (q3 : Fl) (t : List UInt8) (al : List (List UInt8)) (hx : x.length < 1000000) (hX : ∀ q, App h.ts 1 q → PutIn h.ts q X x) :
    ∃ z, Ci cfg (.func (.func 49) [] []) [.ptr w 0, X, .agg [.str t, R q3 eS al]] h = some z ∧ After h w (.tuple []) old (o ++ [x ++ [⟨t, al⟩]]) r m z := by
  obtain ⟨q1, q, q4, hb, hap⟩ := hs
  have hw : w < h.bs.length := (List.getElem?_eq_some_iff.1 hb).1
  obtain ⟨bs, ts⟩ := h
  simp only at hb hap hw hX
  obtain ⟨heq, fl', ts', hcl, hp1, hp2, hp3⟩ := hX q hap
  have hp4 : App (bumpT ts' fl'.2.2 2) 1 q := hp2.keep hp3
  generalize hP : After ⟨bs, ts⟩ w (.tuple []) old (o ++ [x ++ [⟨t, al⟩]]) r m = P
  have hb2 : (bs ++ [Blk.cells [V.str t, R q3 eS al]])[w]? = some (.cells [R q1 (eR eC) old, R q (eR eC) o, R q4 eC r, .int .i64 m]) := by rw [List.getElem?_append_left hw]; exact hb
  have hb3 : (bs ++ [Blk.cells [V.str t, R q3 eS al]])[bs.length]? = some (Blk.cells [V.str t, R q3 eS al]) := by simp
  have hnl : V.row false true [] 0 none = R (false, true, none) eC [] := rfl
  have hpu : cfg.pure 74 = false := rfl
  refine Ci_of_wpE (fn := Tryd.f49) Tryd.func49 rfl (by simp [Tryd.f49]) rfl ?_
  simp (disch := first | assumption | omega | (simp; done) | (simp; omega)) [-getElem?_pos, List.getElem?_cons_zero, List.getElem?_cons_succ, Tryd.f49, hb2, hb3]
  repeat' (first | (refine wpc_split _ (fun hc => ?_) (fun hc => ?_) <;> (try simp at hc)) | (refine ww_split _ (fun hc => ?_) (fun hc => ?_) <;> (try simp at hc)) | (refine wp_drawF (by kernel_rfl) ?_) | (refine wk_yldW _ ?_) | (refine layOwe _ (by kernel_rfl) ?_) | (refine owe ?_ (fun ho => ?_)) | (simp (disch := first | assumption | omega | (simp; done) | (simp; omega)) [hb2, hb3, hnl, hpu, heq, hcl, hp1, hp4, eR, Tryd.f74, -getElem?_pos, List.getElem?_cons_zero, List.getElem?_cons_succ]))
  subst hP
  refine ⟨rfl, WS.of (q1 := q1) (q := (false, false, some (bumpT ts' fl'.snd.snd 2).length)) (q2 := q4) ?_ (App.new _ _ _), ?_⟩
  · rw [List.getElem?_append_left (by simpa using hw)]; exact List.getElem?_set_self hw
  · have := Kp_set ⟨bs, ts⟩ w (Blk.cells [R q1 (eR eC) old, R (false, false, some (bumpT ts' fl'.snd.snd 2).length) (eR eC) (o ++ [x ++ [⟨t, al⟩]]), R q4 eC r, V.int IntKind.i64 m]) [Blk.cells [V.str t, R q3 eS al]] (bumpT (bumpT ts' fl'.snd.snd 2) q.snd.snd 1)
    rw [List.set_append_left _ _ hw] at this
    exact this
end Go.Ab
