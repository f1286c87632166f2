/- Layer 22 (fuse): the steps, Fuse. -/
import Derived.Test.YtackmibobdoecaaDoorH4
import Derived.Test.YtackmibobdoecaaDoorA6
set_option linter.unusedVariables false
set_option linter.unusedSimpArgs false
set_option linter.unusedSectionVars false
set_option linter.deprecated false
namespace Go.Ab
open Go.Proofs
set_option maxRecDepth 100000
set_option maxHeartbeats 4000000
def mdV (n : Nat) : V := .row false true ((List.replicate n [V.str [], V.row true true [] 0 none]).flatten) n none
theorem PutIn.row {ts : List (Option Nat)} {q : Fl} (ha : App ts 1 q) {x : List Cell} (hx : ¬ x = []) (hl : x.length < 1000000) : PutIn ts q (R fl0 eC x) x := by
  refine ⟨fun b => eqV_Rn (by simp) hx, (false, false, some ts.length), bumpT ts none 2, fun bs => ?_, App.new _ _ _, ha.keep (by by_cases e : q.2.2 = none; exact .inl e; exact .inr e), ?_⟩
  · exact append_Rn (P := Tryd.prog) (h := ⟨bs, ts⟩) (E := eC) (l := []) (fl := (false, true, none)) (by simp) hx (App.full _ _ _) (by simp; omega)
  · rcases ha.lt with h | h
    · exact .inl h
    · exact .inr h
theorem PutIn.made {ts : List (Option Nat)} {q : Fl} (ha : App ts 1 q) {n : Nat} (hl : n < 1000000) : PutIn ts q (mdV n) (List.replicate n c0) := by
  refine ⟨fun b => ?_, ?_⟩
  · unfold mdV; simp [eqV]
  by_cases hn : n = 0
  · subst hn
    refine ⟨(false, true, none), ts, fun bs => ?_, App.full _ _ _, ha, ?_⟩
    · obtain ⟨b, h1, h2⟩ := apok_apz (P := Tryd.prog) (ts := #[37, 37]) (sz := 2) (by simp)
      exact append_R_nil (P := Tryd.prog) (E := eC) (h := ⟨bs, ts⟩) (fl := (false, true, none)) (fl2 := (false, true, none)) (l := []) h1 (by simp) h2
    · by_cases e : q.2.2 = none
      · exact .inl e
      · exact .inr e
  · refine ⟨(false, false, some ts.length), bumpT ts none 2, fun bs => ?_, App.new _ _ _, ha.keep (by by_cases e : q.2.2 = none; exact .inl e; exact .inr e), ?_⟩
    · rw [append_close (y := R fl0 eC (List.replicate n c0)) (by
        rw [closeV_R]
        unfold mdV closeV
        rw [zcells_closed, if_pos rfl, zcells_norm])]
      exact append_Rn (P := Tryd.prog) (h := ⟨bs, ts⟩) (E := eC) (l := []) (fl := (false, true, none)) (by simp) (by simpa using hn) (App.full _ _ _) (by simp; omega)
    · rcases ha.lt with h | h
      · exact .inl h
      · exact .inr h
theorem Cboth {h : Heap} {w : Nat} {y : List Cell} {old o : List (List Cell)} {c : Cell} {r : List Cell} {m : Int} (hs : WS h w (y :: old) o (c :: r) m) (hy : ¬ y = []) (hl : old.length < 1000000 ∧ r.length < 1000000 ∧ o.length < 1000000 ∧ y.length < 1000000) :
    ∃ z, Ci cfg (.func (.func 48) [] []) [.ptr w 0] h = some z ∧ After h w (.tuple []) old (o ++ [y ++ [c]]) r m z := by
  obtain ⟨⟨z1, h1⟩, e1, a1, b1, c1⟩ := Cslot hs hl.1
  simp only at a1 b1 c1
  subst a1
  obtain ⟨⟨z2, h2⟩, e2, a2, b2, c2⟩ := Ccell b1 hl.2.1
  simp only at a2 b2 c2
  subst a2
  obtain ⟨⟨z3, h3⟩, e3, a3, b3, c3⟩ := Cput b2 hl.2.2.1 (R fl0 eC y) y fl0 c.text c.alts hl.2.2.2 (fun q ha => PutIn.row ha hy hl.2.2.2)
  simp only at a3 b3 c3
  subst a3
  generalize hP : After h w (.tuple []) old (o ++ [y ++ [c]]) r m = P
  refine Ci_of_wpE (fn := Tryd.f48) Tryd.func48 rfl (by simp [Tryd.f48]) rfl ?_
  simp (disch := first | assumption | omega | (simp; done) | (simp; omega)) [-getElem?_pos, List.getElem?_cons_zero, List.getElem?_cons_succ, Tryd.f48, e1, e2, e3]
  repeat' (first | (refine wpc_split _ (fun hc => ?_) (fun hc => ?_) <;> (try simp at hc)) | (refine ww_split _ (fun hc => ?_) (fun hc => ?_) <;> (try simp at hc)) | (refine wp_drawF (by kernel_rfl) ?_) | (refine wk_yldW _ ?_) | (refine layOwe _ (by kernel_rfl) ?_) | (refine owe ?_ (fun ho => ?_)) | (simp (disch := first | assumption | omega | (simp; done) | (simp; omega)) [e1, e2, e3, -getElem?_pos, List.getElem?_cons_zero, List.getElem?_cons_succ]))
  subst hP
  exact ⟨rfl, b3, (c1.trans c2).trans c3⟩
theorem Cless {h : Heap} {w : Nat} {y : List Cell} {old o : List (List Cell)} {r : List Cell} {m : Int} (hs : WS h w (y :: old) o r m) (hy : ¬ y = []) (hl : old.length < 1000000 ∧ o.length < 1000000 ∧ y.length < 1000000) :
    ∃ z, Ci cfg (.func (.func 52) [] []) [.ptr w 0] h = some z ∧ After h w (.tuple []) old (o ++ [y ++ [c0]]) r m z := by
  obtain ⟨⟨z1, h1⟩, e1, a1, b1, c1⟩ := Cslot hs hl.1
  simp only at a1 b1 c1
  subst a1
  obtain ⟨⟨z3, h3⟩, e3, a3, b3, c3⟩ := Cput b1 hl.2.1 (R fl0 eC y) y (true, true, none) [] [] hl.2.2 (fun q ha => PutIn.row ha hy hl.2.2)
  simp only at a3 b3 c3
  subst a3
  have e4 : Ci cfg (.func (.func 49) [] []) [.ptr w 0, R fl0 eC y, .agg [.str [], .row true true [] 0 none]] h1 = some (.ret (.tuple []), h3) := e3
  generalize hP : After h w (.tuple []) old (o ++ [y ++ [c0]]) r m = P
  refine Ci_of_wpE (fn := Tryd.f52) Tryd.func52 rfl (by simp [Tryd.f52]) rfl ?_
  simp (disch := first | assumption | omega | (simp; done) | (simp; omega)) [-getElem?_pos, List.getElem?_cons_zero, List.getElem?_cons_succ, Tryd.f52, e1, e4]
  repeat' (first | (refine wpc_split _ (fun hc => ?_) (fun hc => ?_) <;> (try simp at hc)) | (refine ww_split _ (fun hc => ?_) (fun hc => ?_) <;> (try simp at hc)) | (refine wp_drawF (by kernel_rfl) ?_) | (refine wk_yldW _ ?_) | (refine layOwe _ (by kernel_rfl) ?_) | (refine owe ?_ (fun ho => ?_)) | (simp (disch := first | assumption | omega | (simp; done) | (simp; omega)) [e1, e4, -getElem?_pos, List.getElem?_cons_zero, List.getElem?_cons_succ]))
  subst hP
  exact ⟨rfl, b3, c1.trans c3⟩
theorem Cmore {h : Heap} {w : Nat} {old o : List (List Cell)} {c : Cell} {r : List Cell} {m : Nat} (hs : WS h w old o (c :: r) m) (hl : r.length < 1000000 ∧ o.length < 1000000 ∧ m < 1000000) :
    ∃ z, Ci cfg (.func (.func 53) [] []) [.ptr w 0] h = some z ∧ After h w (.tuple []) old (o ++ [List.replicate m c0 ++ [c]]) r m z := by
  obtain ⟨⟨z2, h2⟩, e2, a2, b2, c2⟩ := Ccell hs hl.1
  simp only at a2 b2 c2
  subst a2
  obtain ⟨⟨z3, h3⟩, e3, a3, b3, c3⟩ := Cput b2 hl.2.1 (mdV m) (List.replicate m c0) fl0 c.text c.alts (by simpa using hl.2.2) (fun q ha => PutIn.made ha hl.2.2)
  simp only at a3 b3 c3
  subst a3
  obtain ⟨q1, q, q4, hb, hap⟩ := hs
  generalize hP : After h w (.tuple []) old (o ++ [List.replicate m c0 ++ [c]]) r m = P
  refine Ci_of_wpE (fn := Tryd.f53) Tryd.func53 rfl (by simp [Tryd.f53]) rfl ?_
  obtain ⟨q1', q', q4', hb', hap'⟩ := b2
  simp (disch := first | assumption | omega | (simp; done) | (simp; omega)) [-getElem?_pos, List.getElem?_cons_zero, List.getElem?_cons_succ, Tryd.f53, e2, e3]
  refine wp_sem (by rw [Bool.or_eq_false_iff]; exact ⟨by kernel_rfl, by kernel_rfl⟩) (semOk_list (fun i => match i with | 3 => .ptr w 3 | 4 => .int .i64 m | 5 => mdV m | 7 => .agg [.str c.text, R fl0 eS c.alts] | 8 => .tuple [] | _ => .ptr w 0) (fun S => if S 8 then h3 else if S 7 then h2 else h) (by kernel_rfl) (by kernel_rfl) (by kernel_rfl) rfl ?_ ?_) ?_
  · refine ⟨?_, ?_, ?_, ?_, ?_, ?_, ?_, ?_, ?_, trivial⟩
    all_goals intro S ev hcl haf hS he
    · have x0 : ev (.tmp 0) = .ptr w 0 := ev_old he 0 (by kernel_rfl)
      simp [eff, opR, x0]
    · have x0 : ev (.tmp 0) = .ptr w 0 := ev_old he 0 (by kernel_rfl)
      simp [eff, opR, x0]
    · have x0 : ev (.tmp 3) = .ptr w 0 := ev_by he haf 1 3 (by kernel_rfl) (by simp)
      simp [eff, opR, x0]
    · have x0 : ev (.tmp 4) = .ptr w 0 := ev_by he haf 2 4 (by kernel_rfl) (by simp)
      simp [eff, opR, x0]
    · have x0 : ev (.tmp 5) = .ptr w 3 := ev_by he haf 3 5 (by kernel_rfl) (by simp)
      have h8 : S 8 = false := clo_false hcl [5, 4] 8 (by kernel_rfl) hS
      by_cases h7 : S 7 = true
      · simp [eff, opR, x0, h8, h7, hb']
      · simp [eff, opR, x0, h8, h7, hb]
    · have x0 : ev (.tmp 6) = .int .i64 m := ev_by he haf 4 6 (by kernel_rfl) (by simp)
      have hm : (m : Int) ≤ 4294967296 := by omega
      simp [eff, opR, x0, hm, mdV]
    · have x0 : ev (.tmp 0) = .ptr w 0 := ev_old he 0 (by kernel_rfl)
      simp [eff, opR, x0]
    · have x0 : ev (.tmp 8) = .ptr w 0 := ev_by he haf 6 8 (by kernel_rfl) (by simp)
      have h8 : S 8 = false := clo_false hcl [7] 8 (by kernel_rfl) hS
      have xf := he.func 51
      simp [eff, opR, x0, h8, hS, e2, xf]
    · have x0 : ev (.tmp 2) = .ptr w 0 := ev_by he haf 0 2 (by kernel_rfl) (by simp)
      have x1 : ev (.tmp 7) = mdV m := ev_by he haf 5 7 (by kernel_rfl) (by simp)
      have x2 : ev (.tmp 9) = .agg [.str c.text, R fl0 eS c.alts] := ev_by he haf 7 9 (by kernel_rfl) (by simp)
      have h7 : S 7 = true := af_done haf 7 (by kernel_rfl)
      have h8 : S 8 = false := hS
      have xf := he.func 49
      simp [eff, opR, x0, x1, x2, h8, h7, e3, xf]
  · intro S S' hSS
    rw [hSS 8 (by decide), hSS 7 (by decide)]
  · have e4 : Ci cfg (.func (.func 49) [] []) [.ptr w 0, .row false true (List.replicate m [V.str [], V.row true true [] 0 none]).flatten m none, .agg [.str c.text, R fl0 eS c.alts]] h2 = some (.ret (.tuple []), h3) := e3
    repeat' (first | (refine wpc_split _ (fun hc => ?_) (fun hc => ?_) <;> (try simp at hc)) | (refine ww_split _ (fun hc => ?_) (fun hc => ?_) <;> (try simp at hc)) | (refine wp_drawF (by kernel_rfl) ?_) | (refine wk_yldW _ ?_) | (refine layOwe _ (by kernel_rfl) ?_) | (refine owe ?_ (fun ho => ?_)) | (simp (disch := first | assumption | omega | (simp; done) | (simp; omega)) [e2, e4, hb, -getElem?_pos, List.getElem?_cons_zero, List.getElem?_cons_succ]))
    subst hP
    exact ⟨rfl, b3, c2.trans c3⟩
end Go.Ab
