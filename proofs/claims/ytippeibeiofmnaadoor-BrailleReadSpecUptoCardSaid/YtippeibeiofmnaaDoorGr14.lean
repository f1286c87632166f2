/- A part of the proof. -/
import Derived.Test.YtippeibeiofmnaaDoorGr9
set_option linter.unusedVariables false
set_option linter.unusedSimpArgs false
set_option linter.unusedSectionVars false
set_option linter.deprecated false
namespace Go.Ab
open Go.Proofs
set_option maxRecDepth 100000
set_option maxHeartbeats 4000000
def valD (s : List Int) (i : Nat) : V := match i with
 | 0 => R fl0 eI s | 1 => .int .i64 s.length | 2 => .int .i64 (s.length + 1) | 3 => .slice 1 0 (s.length + 1) 1 | 4 => R fl0 eI s | 5 => .int .i64 s.length | 6 => .int .i64 (s.length + 1) | 7 => .slice 2 0 (s.length + 1) 1
 | 8 => .ptr 3 0 | 9 => .ptr 4 0 | _ => .tuple []
def hpD (s : List Int) (ts : List (Option Nat)) (S : Nat → Bool) : Heap := ⟨[.cells [R fl0 eI s], if S 3 = true then .cells (tab (s.length + 1) (cI fun _ => 0)) else .res, if S 7 = true then .cells (tab (s.length + 1) (cI fun _ => 0)) else .res,
 if S 8 = true then (if S 10 = true then .cells [.slice 1 0 (s.length + 1) 1] else .cells [.row true true [] 0 none]) else .res, if S 9 = true then (if S 11 = true then .cells [.slice 2 0 (s.length + 1) 1] else .cells [.row true true [] 0 none]) else .res], ts⟩
theorem regG {s : List Int} {f : Nat → V} {ts : List (Option Nat)} {d : List Def} {p : Pan} {ro : Option Nat} (hs : s.length ≤ 4096) (h3 : f 3 = .ptr 0 0) :
  SemOkR cfg (drawAt Tryd.f17 0) ⟨tab 107 f, ⟨[.cells [R fl0 eI s]], ts⟩, d, p, ro⟩
   { (⟨tab 107 f, ⟨[.cells [R fl0 eI s]], ts⟩, d, p, ro⟩ : St) with t := semT (drawAt Tryd.f17 0) (valD s) (tab 107 f) (fun _ => true) (List.range (drawAt Tryd.f17 0).size), h := hpD s ts (fun _ => true) } := by
 refine semOkR_list (s := ⟨tab 107 f, ⟨[.cells [R fl0 eI s]], ts⟩, d, p, ro⟩) 1 rfl (valD s) (hpD s ts) (by kernel_rfl) (by kernel_rfl) (by kernel_rfl) rfl ?_ ?_
 ·refine ⟨?_, ?_, ?_, ?_, ?_, ?_, ?_, ?_, ?_, ?_, ?_, ?_, trivial⟩
  all_goals intro S ev hcl haf hS he
  ·have x0 : ev (.tmp 3) = .ptr 0 0 := by rw [ev_old he 3 (by kernel_rfl), ← h3]; rfl
   refine stepE_val (by rfl) ?_
   simp [opR, x0, hpD, valD]
  ·have x0 : ev (.tmp 27) = R fl0 eI s := ev_by he haf 0 27 (by kernel_rfl) (by simp)
   refine stepE_val (by rfl) ?_
   simp [opR, x0, hpD, valD]
  ·have x0 : ev (.tmp 28) = .int .i64 s.length := ev_by he haf 1 28 (by kernel_rfl) (by simp)
   have x1 := he.const (.int .i64 1)
   refine stepE_val (by rfl) ?_
   simp (disch := omega) [opR, x0, x1, hpD, valD]
  ·have x0 : ev (.tmp 29) = .int .i64 (s.length + 1) := ev_by he haf 2 29 (by kernel_rfl) (by simp)
   refine stepE_lay (n := 1) (tab (s.length + 1) (cI fun _ => 0)) (by rfl) (by kernel_rfl) ?_ ?_ ?_
   ·simp (disch := omega) [layR, x0, valD, cI_rep, cI_repf]
   ·simp [hpD, hS]
   ·simp [hpD, hS]
  ·have x0 : ev (.tmp 3) = .ptr 0 0 := by rw [ev_old he 3 (by kernel_rfl), ← h3]; rfl
   refine stepE_val (by rfl) ?_
   simp [opR, x0, hpD, valD]
  ·have x0 : ev (.tmp 31) = R fl0 eI s := ev_by he haf 4 31 (by kernel_rfl) (by simp)
   refine stepE_val (by rfl) ?_
   simp [opR, x0, hpD, valD]
  ·have x0 : ev (.tmp 32) = .int .i64 s.length := ev_by he haf 5 32 (by kernel_rfl) (by simp)
   have x1 := he.const (.int .i64 1)
   refine stepE_val (by rfl) ?_
   simp (disch := omega) [opR, x0, x1, hpD, valD]
  ·have x0 : ev (.tmp 33) = .int .i64 (s.length + 1) := ev_by he haf 6 33 (by kernel_rfl) (by simp)
   refine stepE_lay (n := 2) (tab (s.length + 1) (cI fun _ => 0)) (by rfl) (by kernel_rfl) ?_ ?_ ?_
   ·simp (disch := omega) [layR, x0, valD, cI_rep, cI_repf]
   ·simp [hpD, hS]
   ·simp [hpD, hS]
  ·have h9 : S 10 = false := clo_false hcl [8] 10 (by kernel_rfl) hS
   refine stepE_lay (n := 3) [.row true true [] 0 none] (by rfl) (by kernel_rfl) ?_ ?_ ?_
   ·simp [layR, valD]
   ·simp [hpD, hS]
   ·simp [hpD, hS, h9]
  ·have h10 : S 11 = false := clo_false hcl [9] 11 (by kernel_rfl) hS
   refine stepE_lay (n := 4) [.row true true [] 0 none] (by rfl) (by kernel_rfl) ?_ ?_ ?_
   ·simp [layR, valD]
   ·simp [hpD, hS]
   ·simp [hpD, hS, h10]
  ·have x0 : ev (.tmp 8) = .ptr 3 0 := ev_by he haf 8 8 (by kernel_rfl) (by simp)
   have x1 : ev (.tmp 30) = .slice 1 0 (s.length + 1) 1 := ev_by he haf 3 30 (by kernel_rfl) (by simp)
   have h7 : S 8 = true := af_done haf 8 (by kernel_rfl)
   refine stepE_skip (by rfl) ?_ rfl
   simp [opR, x0, x1, hpD, hS, h7]
  ·have x0 : ev (.tmp 9) = .ptr 4 0 := ev_by he haf 9 9 (by kernel_rfl) (by simp)
   have x1 : ev (.tmp 34) = .slice 2 0 (s.length + 1) 1 := ev_by he haf 7 34 (by kernel_rfl) (by simp)
   have h8 : S 9 = true := af_done haf 9 (by kernel_rfl)
   refine stepE_skip (by rfl) ?_ rfl
   simp [opR, x0, x1, hpD, hS, h8]
 ·intro S S' h
  have hsz : (drawAt Tryd.f17 0).size = 12 := by kernel_rfl
  rw [hsz] at h
  unfold hpD
  rw [h 3 (by omega), h 7 (by omega), h 8 (by omega), h 9 (by omega), h 10 (by omega), h 11 (by omega)]
theorem regG_wp {s : List Int} {f : Nat → V} {ts : List (Option Nat)} {d : List Def} {p : Pan} {ro : Option Nat} {K : List Fr} {Q : Ax → St → Prop} {id : Nat} (hs : s.length ≤ 4096) (h3 : f 3 = .ptr 0 0)
  (k : ∀ f', (f' 8 = .ptr 3 0 ∧ f' 9 = .ptr 4 0 ∧ ∀ i, i < 8 ∨ 34 < i → f' i = f i) → dn cfg .normal ⟨tab 107 f', ⟨[.cells [R fl0 eI s], .cells (tab (s.length + 1) (cI fun _ => 0)), .cells (tab (s.length + 1) (cI fun _ => 0)), .cells [.slice 1 0 (s.length + 1) 1], .cells [.slice 2 0 (s.length + 1) 1]], ts⟩, d, p, ro⟩ K Q) :
  wp cfg (.region id (drawAt Tryd.f17 0) true) ⟨tab 107 f, ⟨[.cells [R fl0 eI s]], ts⟩, d, p, ro⟩ K Q := by
 refine wp_semR (c := cfg) hP (by rw [Bool.or_eq_false_iff]; exact ⟨by kernel_rfl, by kernel_rfl⟩) (by kernel_rfl) (regG hs h3) ?_
 have hsz : (drawAt Tryd.f17 0).size = 12 := by kernel_rfl
 rw [hsz]
 have d0 : dstI (drawAt Tryd.f17 0) 0 = some 27 := by kernel_rfl
 have d1 : dstI (drawAt Tryd.f17 0) 1 = some 28 := by kernel_rfl
 have d2 : dstI (drawAt Tryd.f17 0) 2 = some 29 := by kernel_rfl
 have d3 : dstI (drawAt Tryd.f17 0) 3 = some 30 := by kernel_rfl
 have d4 : dstI (drawAt Tryd.f17 0) 4 = some 31 := by kernel_rfl
 have d5 : dstI (drawAt Tryd.f17 0) 5 = some 32 := by kernel_rfl
 have d6 : dstI (drawAt Tryd.f17 0) 6 = some 33 := by kernel_rfl
 have d7 : dstI (drawAt Tryd.f17 0) 7 = some 34 := by kernel_rfl
 have d8 : dstI (drawAt Tryd.f17 0) 8 = some 8 := by kernel_rfl
 have d9 : dstI (drawAt Tryd.f17 0) 9 = some 9 := by kernel_rfl
 have d10 : dstI (drawAt Tryd.f17 0) 10 = none := by kernel_rfl
 have d11 : dstI (drawAt Tryd.f17 0) 11 = none := by kernel_rfl
 have e : semT (drawAt Tryd.f17 0) (valD s) (tab 107 f) (fun _ => true) (List.range 12) =
   tab 107 (upd (upd (upd (upd (upd (upd (upd (upd (upd (upd f 27 (R fl0 eI s)) 28 (.int .i64 s.length)) 29 (.int .i64 (s.length + 1))) 30 (.slice 1 0 (s.length + 1) 1)) 31 (R fl0 eI s)) 32 (.int .i64 s.length)) 33 (.int .i64 (s.length + 1))) 34 (.slice 2 0 (s.length + 1) 1)) 8 (.ptr 3 0)) 9 (.ptr 4 0)) := by
  rw [show List.range 12 = [0, 1, 2, 3, 4, 5, 6, 7, 8, 9, 10, 11] from rfl]
  simp only [semT, if_true, d0, d1, d2, d3, d4, d5, d6, d7, d8, d9, d10, d11, putT, tab_set, valD]
 rw [e]
 exact k (upd (upd (upd (upd (upd (upd (upd (upd (upd (upd f 27 (R fl0 eI s)) 28 (.int .i64 s.length)) 29 (.int .i64 (s.length + 1))) 30 (.slice 1 0 (s.length + 1) 1)) 31 (R fl0 eI s)) 32 (.int .i64 s.length)) 33 (.int .i64 (s.length + 1))) 34 (.slice 2 0 (s.length + 1) 1)) 8 (.ptr 3 0)) 9 (.ptr 4 0)) ⟨by simp, by simp, fun i hi => by simp only [upd]; repeat rw [if_neg (by omega)]⟩
end Go.Ab
namespace Go.Ab
open Go.Proofs
set_option maxRecDepth 100000
set_option maxHeartbeats 4000000
def valG (N i : Nat) (c n k : Int) (m : Nat) : V := match m with
 | 0 => .slice 1 0 (N + 1) 1 | 1 => .int .i64 i | 2 => .slice 2 0 (N + 1) 1 | 3 => .int .i64 i | 4 => .slice 1 0 (N + 1) 1 | 5 => .int .i64 i | 6 => .ptr 1 i | 7 => .int .i64 c | 8 => .int .i64 n | 9 => .int .i64 (c + n) | 10 => .int .i64 (min 2 (c + n)) | 11 => .int .i64 k | 12 => .ptr 1 i | 14 => .ptr 2 i | _ => .tuple []
def hpG (b0 : Blk) (N i : Nat) (v k : Int) (g u : Nat → Int) (R0 : List Blk) (ts : List (Option Nat)) (S : Nat → Bool) : Heap :=
 ⟨b0 :: (if S 13 = true then .cells (tab (N + 1) (cI (updI g i v))) else .cells (tab (N + 1) (cI g))) :: (if S 15 = true then .cells (tab (N + 1) (cI (updI u i k))) else .cells (tab (N + 1) (cI u))) :: .cells [.slice 1 0 (N + 1) 1] :: .cells [.slice 2 0 (N + 1) 1] :: R0, ts⟩
theorem regH_wp {b0 : Blk} {N i n : Nat} {c n0 k : Int} {g u : Nat → Int} {R0 : List Blk} {f : Nat → V} {ts : List (Option Nat)} {d : List Def} {p : Pan} {ro : Option Nat} {K : List Fr} {Q : Ax → St → Prop} {id : Nat} (hN : N ≤ 4096) (hi : i < N) (hR : R0[n]? = some (.cells [.int .i64 i]))
  (hc : g i = c ∧ 0 ≤ c ∧ c ≤ 2 ∧ 0 ≤ n0 ∧ n0 ≤ 2) (h8 : f 8 = .ptr 3 0) (h9 : f 9 = .ptr 4 0) (h10 : f 10 = .ptr (n + 5) 0) (h11 : f 11 = .int .i64 k) (h13 : f 13 = .int .i64 n0)
  (kk : ∀ f', (∀ j, j < 61 ∨ 74 < j → f' j = f j) → dn cfg .normal ⟨tab 107 f', ⟨b0 :: .cells (tab (N + 1) (cI (updI g i (min 2 (c + n0))))) :: .cells (tab (N + 1) (cI (updI u i k))) :: .cells [.slice 1 0 (N + 1) 1] :: .cells [.slice 2 0 (N + 1) 1] :: R0, ts⟩, d, p, ro⟩ K Q) :
  wp cfg (.region id (drawAt Tryd.f17 1) true) ⟨tab 107 f, ⟨b0 :: .cells (tab (N + 1) (cI g)) :: .cells (tab (N + 1) (cI u)) :: .cells [.slice 1 0 (N + 1) 1] :: .cells [.slice 2 0 (N + 1) 1] :: R0, ts⟩, d, p, ro⟩ K Q := by
 obtain ⟨hc, hc1, hc2, hc3, hc4⟩ := hc
 have hi1 : i < N + 1 := by omega
 refine wp_sem2 (semOk_list (valG N i c n0 k) (hpG b0 N i (min 2 (c + n0)) k g u R0 ts) (by kernel_rfl) (by kernel_rfl) (by kernel_rfl) rfl ?_ ?_) ?_ ?_
 ·refine ⟨?_, ?_, ?_, ?_, ?_, ?_, ?_, ?_, ?_, ?_, ?_, ?_, ?_, ?_, ?_, ?_, trivial⟩
  all_goals intro S ev hcl haf hS he
  ·have x0 : ev (.tmp 8) = .ptr 3 0 := by rw [ev_old he 8 (by kernel_rfl), ← h8]; rfl
   simp [eff, opR, x0, hpG, valG, hR]
  ·have x0 : ev (.tmp 10) = .ptr (n + 5) 0 := by rw [ev_old he 10 (by kernel_rfl), ← h10]; rfl
   simp [eff, opR, x0, hpG, valG, hR]
  ·have x0 : ev (.tmp 9) = .ptr 4 0 := by rw [ev_old he 9 (by kernel_rfl), ← h9]; rfl
   simp [eff, opR, x0, hpG, valG, hR]
  ·have x0 : ev (.tmp 10) = .ptr (n + 5) 0 := by rw [ev_old he 10 (by kernel_rfl), ← h10]; rfl
   simp [eff, opR, x0, hpG, valG, hR]
  ·have x0 : ev (.tmp 8) = .ptr 3 0 := by rw [ev_old he 8 (by kernel_rfl), ← h8]; rfl
   simp [eff, opR, x0, hpG, valG, hR]
  ·have x0 : ev (.tmp 10) = .ptr (n + 5) 0 := by rw [ev_old he 10 (by kernel_rfl), ← h10]; rfl
   simp [eff, opR, x0, hpG, valG, hR]
  ·have x0 : ev (.tmp 65) = .slice 1 0 (N + 1) 1 := ev_by he haf 4 65 (by kernel_rfl) (by simp)
   have x1 : ev (.tmp 66) = .int .i64 i := ev_by he haf 5 66 (by kernel_rfl) (by simp)
   simp (disch := first | assumption | omega | (simp; done) | (simp; omega)) [-getElem?_pos, gZ, gS, eff, opR, x0, x1, hpG, valG, hi1]
  ·have x0 : ev (.tmp 67) = .ptr 1 i := ev_by he haf 6 67 (by kernel_rfl) (by simp)
   have hS2 : S 13 = false := clo_false hcl [10, 9, 7] 13 (by kernel_rfl) hS
   simp (disch := first | assumption | omega | (simp; done) | (simp; omega)) [-getElem?_pos, gZ, gS, eff, opR, x0, hpG, valG, hS, hS2, tab_get1, hi1, hc, cI]
  ·have x0 : ev (.tmp 13) = .int .i64 n0 := by rw [ev_old he 13 (by kernel_rfl), ← h13]; rfl
   simp [eff, opR, x0, hpG, valG]
  ·have x0 : ev (.tmp 68) = .int .i64 c := ev_by he haf 7 68 (by kernel_rfl) (by simp)
   have x1 : ev (.tmp 69) = .int .i64 n0 := ev_by he haf 8 69 (by kernel_rfl) (by simp)
   simp (disch := first | assumption | omega | (simp; done) | (simp; omega)) [-getElem?_pos, gZ, gS, eff, opR, x0, x1, hpG, valG]
  ·have x0 : ev (.tmp 70) = .int .i64 (c + n0) := ev_by he haf 9 70 (by kernel_rfl) (by simp)
   have x1 := he.const (.int .i64 2)
   simp (disch := first | assumption | omega | (simp; done) | (simp; omega)) [-getElem?_pos, gZ, gS, eff, opR, x0, x1, hpG, valG, ofVal]
  ·have x0 : ev (.tmp 11) = .int .i64 k := by rw [ev_old he 11 (by kernel_rfl), ← h11]; rfl
   simp [eff, opR, x0, hpG, valG]
  ·have x0 : ev (.tmp 61) = .slice 1 0 (N + 1) 1 := ev_by he haf 0 61 (by kernel_rfl) (by simp)
   have x1 : ev (.tmp 62) = .int .i64 i := ev_by he haf 1 62 (by kernel_rfl) (by simp)
   simp (disch := first | assumption | omega | (simp; done) | (simp; omega)) [-getElem?_pos, gZ, gS, eff, opR, x0, x1, hpG, valG, hi1]
  ·have x0 : ev (.tmp 73) = .ptr 1 i := ev_by he haf 12 73 (by kernel_rfl) (by simp)
   have x1 : ev (.tmp 71) = .int .i64 (min 2 (c + n0)) := ev_by he haf 10 71 (by kernel_rfl) (by simp)
   simp (disch := first | assumption | omega | (simp; done) | (simp; omega)) [-getElem?_pos, gZ, gS, eff, opR, x0, x1, hpG, valG, hS, tab_set, hi1]
  ·have x0 : ev (.tmp 63) = .slice 2 0 (N + 1) 1 := ev_by he haf 2 63 (by kernel_rfl) (by simp)
   have x1 : ev (.tmp 64) = .int .i64 i := ev_by he haf 3 64 (by kernel_rfl) (by simp)
   simp (disch := first | assumption | omega | (simp; done) | (simp; omega)) [-getElem?_pos, gZ, gS, eff, opR, x0, x1, hpG, valG, hi1]
  ·have x0 : ev (.tmp 74) = .ptr 2 i := ev_by he haf 14 74 (by kernel_rfl) (by simp)
   have x1 : ev (.tmp 72) = .int .i64 k := ev_by he haf 11 72 (by kernel_rfl) (by simp)
   simp (disch := first | assumption | omega | (simp; done) | (simp; omega)) [-getElem?_pos, gZ, gS, eff, opR, x0, x1, hpG, valG, hS, tab_set, hi1]
 ·intro S S' h
  have hsz : (drawAt Tryd.f17 1).size = 16 := by kernel_rfl
  rw [hsz] at h
  unfold hpG
  rw [h 13 (by omega), h 15 (by omega)]
 all_goals
  simp only [Tryd.f17, drawAt, drawsOf, codeOf, Option.getD, List.append, List.nil_append, List.cons_append, List.append_nil, List.getD, gZ, gS]
  repeat' (first | ((first | refine wpc_split _ ?_ ?_ | refine ww_split _ ?_ ?_) <;> intro hc <;> try simp at hc) | (refine wp_drawF (by kernel_rfl) ?_) | refine wk_yldW _ ?_ | refine layOwe _ (by kernel_rfl) ?_ | refine owe ?_ (fun ho => ?_) | (simp (disch := first | assumption | omega | (simp; done) | (simp; omega)) [h8, h9, h10, h11, h13, hR, hi1, tab_set, tab_get1, hc, cI, -getElem?_pos, gZ, gS]))
  exact kk _ (fun j hj => by simp only [upd]; repeat rw [if_neg (by omega)])
end Go.Ab
namespace Go.Ab
open Go.Proofs
set_option maxRecDepth 100000
set_option maxHeartbeats 4000000
def nM (t : List Sgn) (s : List Int) (j : Nat) : Nat → Int := fun v => if s.length ≤ v + j ∧ v < s.length then (nextZ t s v : Int) else 0
theorem nM_zero (t : List Sgn) (s : List Int) : tab (s.length + 1) (cI (nM t s 0)) = tab (s.length + 1) (cI fun _ => 0) := tab_ext fun v hv => by
 unfold cI nM
 congr 1
 rw [if_neg (by omega)]
theorem nM_step {t : List Sgn} {s : List Int} {i j : Nat} (hi : i + j + 1 = s.length) : tab (s.length + 1) (cI (updI (nM t s j) i (cntZ t s (manyL t s) i t.length).2)) = tab (s.length + 1) (cI (nM t s (j + 1))) := tab_ext fun v hv => by
 unfold cI updI nM nextZ
 congr 1
 by_cases e : v = i
 ·subst e; rw [if_pos rfl, if_pos ⟨by omega, by omega⟩]
 ·rw [if_neg e]
  by_cases e2 : s.length ≤ v + j ∧ v < s.length
  ·rw [if_pos e2, if_pos ⟨by omega, e2.2⟩]
  ·rw [if_neg e2, if_neg (by omega)]
theorem dset {b0 b1 b2 b3 b4 y u z : Blk} {X : List Blk} : (b0 :: b1 :: b2 :: b3 :: b4 :: (X ++ [y, u])).set (X.length + 6) z = b0 :: b1 :: b2 :: b3 :: b4 :: (X ++ [y, z]) := by
 rw [show X.length + 6 = X.length + 1 + 1 + 1 + 1 + 1 + 1 by omega]
 simp only [List.set_cons_succ]
 rw [List.set_append_right _ _ (by omega)]
 simp
theorem dget {b0 b1 b2 b3 b4 y u : Blk} {X : List Blk} : (b0 :: b1 :: b2 :: b3 :: b4 :: (X ++ [y, u]))[X.length + 6]? = some u := by
 rw [show X.length + 6 = X.length + 1 + 1 + 1 + 1 + 1 + 1 by omega]
 simp only [List.getElem?_cons_succ]
 rw [List.getElem?_append_right (by omega)]
 simp
theorem dget1 {y u : Blk} {X : List Blk} : (X ++ [y, u])[X.length + 1]? = some u := by
 rw [List.getElem?_append_right (by omega)]
 simp
theorem C17 (t : List Sgn) (s : List Int) (hs : smZs t) (hs2 : s.length < 1099511627776) : Kc cfg 17 [R fl0 eZ t, R fl0 eI s] (.ret (.tuple [.str (decodeZ t s).1, .bool (decodeZ t s).2.1, .int .i64 (decodeZ t s).2.2])) := by
 have hs1 := hs.1
 by_cases hc : checkZ t = 0
 ·by_cases hlong : 4096 < s.length
  ·have hE : decodeZ t s = ([], false, 2) := by unfold decodeZ; rw [if_neg (by simp [hc]), if_pos hlong]
   rw [hE]
   refine outS_of_wp cfg (fn := Tryd.f17) Tryd.func17 rfl (by simp [Tryd.f17]) ?_
   simp (disch := first | assumption | omega | (simp; done) | (simp; omega)) [-getElem?_pos, gZ, gS, Tryd.f17, emptyH, hc, hlong]
   repeat' (first | ((first | refine wpc_split _ ?_ ?_ | refine ww_split _ ?_ ?_) <;> intro hc <;> try simp at hc) | refine wk_yldW _ ?_ | refine layOwe _ (by kernel_rfl) ?_ | refine owe ?_ (fun ho => ?_) | (simp (disch := first | assumption | omega | (simp; done) | (simp; omega)) [emptyH, hc, hlong, -getElem?_pos, gZ, gS]))
   all_goals try (exfalso; omega)
  ·cases hd : dotsL s with
   | false =>
    have hE : decodeZ t s = ([], false, 120) := by unfold decodeZ; rw [if_neg (by simp [hc]), if_neg hlong, if_pos hd]
    rw [hE]
    refine outS_of_wp cfg (fn := Tryd.f17) Tryd.func17 rfl (by simp [Tryd.f17]) ?_
    simp (disch := first | assumption | omega | (simp; done) | (simp; omega)) [-getElem?_pos, gZ, gS, Tryd.f17, emptyH, hc, hd]
    repeat' (first | ((first | refine wpc_split _ ?_ ?_ | refine ww_split _ ?_ ?_) <;> intro hc <;> try simp at hc) | refine wk_yldW _ ?_ | refine layOwe _ (by kernel_rfl) ?_ | refine owe ?_ (fun ho => ?_) | (simp (disch := first | assumption | omega | (simp; done) | (simp; omega)) [emptyH, hc, hd, -getElem?_pos, gZ, gS]))
    all_goals try (exfalso; omega)
   | true =>
    obtain ⟨c1, c2, c3⟩ := checkZ_zero hc
    have h0 : ∀ j, j < t.length → 0 < cellZ t j := fun j hj => (tab_cells hc j hj).1
    have hla := many_all t s
    refine outS_of_wp cfg (fn := Tryd.f17) Tryd.func17 rfl (by simp [Tryd.f17]) ?_
    simp (disch := first | assumption | omega | (simp; done) | (simp; omega)) [-getElem?_pos, gZ, gS, Tryd.f17, emptyH, hc, hd]
    repeat' (first | ((first | refine wpc_split _ ?_ ?_ | refine ww_split _ ?_ ?_) <;> intro hc <;> try simp at hc) | refine wk_yldW _ ?_ | refine layOwe _ (by kernel_rfl) ?_ | refine owe ?_ (fun ho => ?_) | (simp (disch := first | assumption | omega | (simp; done) | (simp; omega)) [emptyH, hc, hd, -getElem?_pos, gZ, gS]))
    all_goals try (exfalso; omega)
    refine regG_wp (by omega) (by simp) (fun f1 hf1 => ?_)
    obtain ⟨f8, f9, hf⟩ := hf1
    have f0 : f1 0 = R fl0 eZ t := by rw [hf 0 (by omega)]; simp
    have f3 : f1 3 = .ptr 0 0 := by rw [hf 3 (by omega)]; simp
    clear hf
    have hp9 : s.length < s.length + 1 := by omega
    repeat' (first | ((first | refine wpc_split _ ?_ ?_ | refine ww_split _ ?_ ?_) <;> intro hc <;> try simp at hc) | (refine wp_drawF (by kernel_rfl) ?_) | refine wk_yldW _ ?_ | refine layOwe _ (by kernel_rfl) ?_ | refine owe ?_ (fun ho => ?_) | (simp (disch := first | assumption | omega | (simp; done) | (simp; omega)) [f0, f3, f8, f9, hp9, tab_set, -getElem?_pos, gZ, gS]))
    all_goals try (exfalso; omega)
    refine wp_loopD (c := cfg) rfl (fun f0 h0 d0 m fr h dd => ∃ j : Nat, ∃ X : List Blk, ∃ ms : List Nat, fr 0 = f0 0 ∧ fr 3 = f0 3 ∧ fr 8 = f0 8 ∧ fr 9 = f0 9 ∧ fr 10 = .ptr (X.length + 5) 0 ∧ (h.bs = .cells [R fl0 eI s] :: .cells (tab (s.length + 1) (cI (gM t s j))) :: .cells (tab (s.length + 1) (cI (nM t s j))) :: .cells [.slice 1 0 (s.length + 1) 1] :: .cells [.slice 2 0 (s.length + 1) 1] :: (X ++ [.cells [.int .i64 ((s.length : Int) - 1 - j)]])) ∧ (j + m = s.length) ∧ (Mk ms X) ∧ dd = mkD 5 ms) (s.length) _ _ _ ⟨0, [], [], rfl, rfl, rfl, rfl, by first | rfl | (simp; done) | (simp [R]; done) | simp [R], by rw [gM_zero t s, nM_zero t s]; simp, by first | rfl | (simp; done) | omega, Mk.nil _, by first | rfl | simp⟩ ?_
    rintro Am Af Ah _ ⟨j, X, ms, A0, A3, A8, A9, A10, hb, hm, hmk, rfl⟩ Aih
    try simp at A0 A3 A8 A9
    rw [f0] at A0
    rw [f3] at A3
    rw [f8] at A8
    rw [f9] at A9
    by_cases hj : j < s.length
    ·obtain ⟨i, hi⟩ : ∃ i, i + j + 1 = s.length := ⟨s.length - 1 - j, by omega⟩
     have hi2 : (s.length : Int) - 1 - j = i := by omega
     rw [hi2] at hb
     have hg0 : updI (gM t s j) i 0 = gM t s j := by
      funext v
      unfold updI gM
      by_cases e : v = i
      ·rw [if_pos e, if_neg (by omega)]
      ·rw [if_neg e]
     have hu0 : updI (nM t s j) i 0 = nM t s j := by
      funext v
      unfold updI nM
      by_cases e : v = i
      ·rw [if_pos e, if_neg (by omega)]
      ·rw [if_neg e]
     rw [← hu0, ← hg0] at hb
     repeat' (first | ((first | refine wpc_split _ ?_ ?_ | refine ww_split _ ?_ ?_) <;> intro hc <;> try simp at hc) | (refine wp_drawF (by kernel_rfl) ?_) | refine wk_yldW _ ?_ | refine layOwe _ (by kernel_rfl) ?_ | refine owe ?_ (fun ho => ?_) | (simp (disch := first | assumption | omega | (simp; done) | (simp; omega)) [A0, A3, A8, A9, A10, hb, tab_set, tab_get1, app_at, app_at0, app_set, app_set0, Tryd.f28, Tryd.f58, -getElem?_pos, gZ, gS]))
     refine wp_loopE cfg rfl (fun f0 h0 m fr h => ∃ k : Nat, ∃ Y : List Blk, fr 0 = f0 0 ∧ fr 1 = f0 1 ∧ fr 2 = f0 2 ∧ fr 6 = f0 6 ∧ fr 7 = f0 7 ∧ fr 8 = .int .i64 k ∧ (h.bs = (h0.bs.set 1 (.cells (tab (s.length + 1) (cI (updI (gM t s j) i (cntZ t s (manyL t s) i k).1))))).set 2 (.cells (tab (s.length + 1) (cI (updI (nM t s j) i (cntZ t s (manyL t s) i k).2)))) ++ Y) ∧ (k + m = t.length)) (t.length) _ _ ⟨0, [], rfl, rfl, rfl, rfl, rfl, by first | rfl | (simp; done) | (simp [R]; done) | simp [R], by simp [cntZ, hb], by first | rfl | (simp; done) | omega⟩ ?_
     rintro Bm Bf Bh ⟨k, Y, B0, B1, B2, B6, B7, B8, hb2, hm2⟩ Bih
     try simp [A0, A3, A8, A9, A10] at B0 B1 B2 B6 B7
     simp [hb] at hb2
     by_cases hk : k < t.length
     ·obtain ⟨k1, k2⟩ := smZs_nth hs hk
      have hlen0 := h0 k hk
      have hil : i ≤ s.length := by omega
      have hdl : (s.drop i).length < 1099511627776 := by rw [List.length_drop]; omega
      have hcr := cntZ_range (t := t) (s := s) (L := manyL t s) (i := i) k
      cases hp : preI (nth t k).cells (s.drop i) with
      | false =>
       have hst := cnt_step_same (L := manyL t s) hp
       repeat' (first | ((first | refine wpc_split _ ?_ ?_ | refine ww_split _ ?_ ?_) <;> intro hc <;> try simp at hc) | (refine wp_drawF (by kernel_rfl) ?_) | refine wk_yldW _ ?_ | refine layOwe _ (by kernel_rfl) ?_ | refine owe ?_ (fun ho => ?_) | (simp (disch := first | assumption | omega | (simp; done) | (simp; omega)) [B0, B1, B2, B6, B7, B8, A0, A3, A8, A9, A10, hb2, hp, hk, hil, hdl, k2, tab_set, tab_get1, app_at, app_at0, app_set, app_set0, gz, gzs, Nat.add_assoc, Tryd.f36, -getElem?_pos, gZ, gS]))
       all_goals try (exfalso; omega)
       exact Bih (Bm - 1) _ _ (by omega) ⟨k + 1, Y ++ [.cells [.str (nth t k).text, R fl0 eI (nth t k).cells], .cells [.str (nth t k).text, R fl0 eI (nth t k).cells]], by simp [B0, B1, B2, B6, B7, B8, A0, A3, A8, A9, A10, hst], by simp [B0, B1, B2, B6, B7, B8, A0, A3, A8, A9, A10, hst], by simp [B0, B1, B2, B6, B7, B8, A0, A3, A8, A9, A10, hst], by simp [B0, B1, B2, B6, B7, B8, A0, A3, A8, A9, A10, hst], by simp [B0, B1, B2, B6, B7, B8, A0, A3, A8, A9, A10, hst], by simp [B0, B1, B2, B6, B7, B8, A0, A3, A8, A9, A10, hst], (by simp [hst, hb]), by omega⟩
      | true =>
       have hpl := preI_len hp
       have hle : i + (nth t k).cells.length < s.length + 1 := by omega
       have hgi : updI (gM t s j) i (cntZ t s (manyL t s) i k).1 (i + (nth t k).cells.length) = nth (manyL t s) (i + cellZ t k) := by
        unfold cellZ at hlen0 ⊢
        unfold updI gM
        rw [if_neg (by omega), if_pos (by omega)]
       have hti : ((i : Int) + ((nth t k).cells.length : Int)).toNat = i + (nth t k).cells.length := by omega
       have hl1 := hla (i + cellZ t k)
       have hst : cntZ t s (manyL t s) i (k + 1) = if 0 < nth (manyL t s) (i + cellZ t k) then (min 2 ((cntZ t s (manyL t s) i k).1 + nth (manyL t s) (i + cellZ t k)), k) else cntZ t s (manyL t s) i k := by
        rw [cntZ]
        by_cases h : 0 < nth (manyL t s) (i + cellZ t k)
        ·rw [if_pos ⟨hp, h⟩, if_pos h]
        ·rw [if_neg (fun e => h e.2), if_neg h]
       obtain ⟨b, hbk⟩ : ∃ b, cntZ t s (manyL t s) i k = b := ⟨_, rfl⟩
       rw [hbk] at hst hb2 hcr hgi
       generalize hgn : nth (manyL t s) (i + cellZ t k) = n0 at *
       by_cases hlt : 0 < n0
       ·rw [if_pos hlt] at hst
        repeat' (first | ((first | refine wpc_split _ ?_ ?_ | refine ww_split _ ?_ ?_) <;> intro hc <;> try simp at hc) | (refine wp_drawF (by decide +kernel) ?_) | refine wk_yldW _ ?_ | refine layOwe _ (by kernel_rfl) ?_ | refine owe ?_ (fun ho => ?_) | (simp (disch := first | assumption | omega | (simp; done) | (simp; omega)) [B0, B1, B2, B6, B7, B8, A0, A3, A8, A9, A10, hb2, hp, hk, hil, hdl, k2, hle, hti, hgi, hlt, tab_set, tab_get1, app_at, app_at0, app_set, app_set0, gz, gzs, Nat.add_assoc, Tryd.f36, -getElem?_pos, gZ, gS]))
        all_goals try (exfalso; omega)
        refine regH_wp (n := X.length) (i := i) (k := (k : Int)) (c := b.1) (n0 := n0) (by omega) (by omega) (by simp [app_at0]) ⟨by simp [updI], by omega, by omega, by omega, by omega⟩ (by simp [A8]) (by simp [A9]) (by simp [A10]) (by simp) (by simp) (fun f' hf' => ?_)
        repeat' (first | ((first | refine wpc_split _ ?_ ?_ | refine ww_split _ ?_ ?_) <;> intro hc <;> try simp at hc) | (refine wp_drawF (by kernel_rfl) ?_) | refine wk_yldW _ ?_ | refine layOwe _ (by kernel_rfl) ?_ | refine owe ?_ (fun ho => ?_) | (simp (disch := first | assumption | omega | (simp; done) | (simp; omega)) [B0, B1, B2, B6, B7, B8, A0, A3, A8, A9, A10, hb2, hp, hk, hle, hti, hgi, hlt, tab_set, tab_get1, app_at, app_at0, app_set, app_set0, gz, gzs, Nat.add_assoc, Tryd.f36, -getElem?_pos, gZ, gS]))
        all_goals try (exfalso; omega)
        exact Bih (Bm - 1) _ _ (by omega) ⟨k + 1, Y ++ [.cells [.str (nth t k).text, R fl0 eI (nth t k).cells], .cells [.str (nth t k).text, R fl0 eI (nth t k).cells], .cells [.str (nth t k).text, R fl0 eI (nth t k).cells]], by simp [B0, B1, B2, B6, B7, B8, A0, A3, A8, A9, A10, hst], by simp [B0, B1, B2, B6, B7, B8, A0, A3, A8, A9, A10, hst], by simp [B0, B1, B2, B6, B7, B8, A0, A3, A8, A9, A10, hst], by simp [B0, B1, B2, B6, B7, B8, A0, A3, A8, A9, A10, hst], by simp [B0, B1, B2, B6, B7, B8, A0, A3, A8, A9, A10, hst], by simp [B0, B1, B2, B6, B7, B8, A0, A3, A8, A9, A10, hst], (by simp [hst, hb]), by omega⟩
       ·rw [if_neg hlt] at hst
        repeat' (first | ((first | refine wpc_split _ ?_ ?_ | refine ww_split _ ?_ ?_) <;> intro hc <;> try simp at hc) | (refine wp_drawF (by kernel_rfl) ?_) | refine wk_yldW _ ?_ | refine layOwe _ (by kernel_rfl) ?_ | refine owe ?_ (fun ho => ?_) | (simp (disch := first | assumption | omega | (simp; done) | (simp; omega)) [B0, B1, B2, B6, B7, B8, A0, A3, A8, A9, A10, hb2, hp, hk, hil, hdl, k2, hle, hti, hgi, hlt, tab_set, tab_get1, app_at, app_at0, app_set, app_set0, gz, gzs, Nat.add_assoc, Tryd.f36, -getElem?_pos, gZ, gS]))
        all_goals try (exfalso; omega)
        exact Bih (Bm - 1) _ _ (by omega) ⟨k + 1, Y ++ [.cells [.str (nth t k).text, R fl0 eI (nth t k).cells], .cells [.str (nth t k).text, R fl0 eI (nth t k).cells], .cells [.str (nth t k).text, R fl0 eI (nth t k).cells]], by simp [B0, B1, B2, B6, B7, B8, A0, A3, A8, A9, A10, hst], by simp [B0, B1, B2, B6, B7, B8, A0, A3, A8, A9, A10, hst], by simp [B0, B1, B2, B6, B7, B8, A0, A3, A8, A9, A10, hst], by simp [B0, B1, B2, B6, B7, B8, A0, A3, A8, A9, A10, hst], by simp [B0, B1, B2, B6, B7, B8, A0, A3, A8, A9, A10, hst], by simp [B0, B1, B2, B6, B7, B8, A0, A3, A8, A9, A10, hst], (by simp [hst, hb]), by omega⟩
     ·obtain rfl : k = t.length := by omega
      rw [gM_step h0 hi, nM_step hi] at hb2
      repeat' (first | ((first | refine wpc_split _ ?_ ?_ | refine ww_split _ ?_ ?_) <;> intro hc <;> try simp at hc) | (refine wp_drawF (by kernel_rfl) ?_) | refine wk_yldW _ ?_ | refine layOwe _ (by kernel_rfl) ?_ | refine owe ?_ (fun ho => ?_) | (simp (disch := first | assumption | omega | (simp; done) | (simp; omega)) [B0, B1, B2, B6, B7, B8, A0, A3, A8, A9, A10, hb2, tab_set, tab_get1, app_at, app_at0, app_set, app_set0, gz, gzs, Nat.add_assoc, -getElem?_pos, gZ, gS]))
      all_goals try (exfalso; omega)
      refine Aih (Am - 1) _ _ _ (by omega) ⟨j + 1, X ++ (?b1 :: ?b2 :: ?b3 :: .dfr true :: ?b4 :: Y), (X.length + 3) :: ms, by simp [A0, f0], by simp [A3, f3], by simp [A8, f8], by simp [A9, f9], ?hs, ?hb, by omega, hmk.new (k := 3) rfl, by simp [mkD_cons]⟩
      case hs => simp; omega
      case hb =>
       have e : (s.length : Int) - 1 - ((j + 1 : Nat) : Int) = (i : Int) - 1 := by omega
       rw [e]
       exact gzb
    ·obtain rfl : j = s.length := by omega
     have hgn : gM t s s.length = nth (manyL t s) := by funext v; exact if_pos (by omega)
     rw [hgn] at hb
     rw [show (s.length : Int) - 1 - s.length = -1 by omega] at hb
     have hp0 : 0 < s.length + 1 := by omega
     clear Aih
     have leave : ∀ (ts : List (Option Nat)) (Z : List Blk), ∃ bs', leaveS (Di cfg) (mkD 5 ms) ⟨.cells [R fl0 eI s] :: .cells (tab (s.length + 1) (cI (nth (manyL t s)))) :: .cells (tab (s.length + 1) (cI (nM t s s.length))) :: .cells [.slice 1 0 (s.length + 1) 1] :: .cells [.slice 2 0 (s.length + 1) 1] :: (X ++ Z), ts⟩ .ret = some (⟨bs', ts⟩, .ret) := fun ts Z => by
      have hlv := hmk.leave (D := Di cfg) (m := .ret) (ts := ts) (L := [.cells [R fl0 eI s], .cells (tab (s.length + 1) (cI (nth (manyL t s)))), .cells (tab (s.length + 1) (cI (nM t s s.length))), .cells [.slice 1 0 (s.length + 1) 1], .cells [.slice 2 0 (s.length + 1) 1]]) (R := Z) (k := 5) rfl
      obtain ⟨bs', l1, l2⟩ := hlv
      exact ⟨bs', l1⟩
     by_cases hn1 : nth (manyL t s) 0 = 1
     ·repeat' (first | ((first | refine wpc_split _ ?_ ?_ | refine ww_split _ ?_ ?_) <;> intro hc <;> try simp at hc) | (refine wp_drawF (by kernel_rfl) ?_) | refine wk_yldW _ ?_ | refine layOwe _ (by kernel_rfl) ?_ | refine owe ?_ (fun ho => ?_) | (simp (disch := first | assumption | omega | (simp; done) | (simp; omega)) [A0, A3, A8, A9, A10, hb, hn1, hp0, tab_get1, tab_take1, app_at, app_at0, -getElem?_pos, gZ, gS]))
      all_goals try (exfalso; omega)
      refine wp_loopE cfg rfl (fun f0 h0 m fr h => ∃ i : Nat, ∃ l : List Nat, ∃ u : Bool, fr 0 = f0 0 ∧ fr 3 = f0 3 ∧ fr 9 = f0 9 ∧ fr 15 = .int .i64 i ∧ fr 14 = .ptr (X.length + 6) 0 ∧ (h.bs = .cells [R fl0 eI s] :: .cells (tab (s.length + 1) (cI (nth (manyL t s)))) :: .cells (tab (s.length + 1) (cI (nM t s s.length))) :: .cells [.slice 1 0 (s.length + 1) 1] :: .cells [.slice 2 0 (s.length + 1) 1] :: (X ++ [.cells [.int .i64 (-1)], .bld 60 5 u (textZ t l)])) ∧ (pathD t s s.length 0 = l ++ pathD t s m i) ∧ (s.length ≤ i + m) ∧ (i ≤ s.length) ∧ ((textZ t l).length ≤ 64 * i) ∧ (nth (manyL t s) i = 1)) (s.length) _ _ ⟨0, [], false, rfl, rfl, rfl, by first | rfl | (simp; done) | (simp [R]; done) | simp [R], by first | rfl | (simp; done) | (simp [R]; done) | simp [R], by simp [hb, textZ], rfl, by first | rfl | (simp; done) | omega, by first | rfl | (simp; done) | omega, Nat.zero_le _, by first | rfl | (simp; done) | omega⟩ ?_
      rintro Cm Cf Ch ⟨i, l, u, C0, C3, C9, C15, C14, hbs, hpt, him, hil, hll, hni⟩ Cih
      try simp [A0, A3, A8, A9, A10] at C0 C3 C9
      by_cases hi : i < s.length
      ·obtain ⟨p1, p2, p3, p4, p5, p6⟩ := read_step h0 hi hni
       obtain ⟨m, rfl⟩ : ∃ m, Cm = m + 1 := ⟨Cm - 1, by omega⟩
       have hpt2 : pathD t s (m + 1) i = nextZ t s i :: pathD t s m (i + cellZ t (nextZ t s i)) := by rw [pathD, if_pos hi]
       have hnx : nM t s s.length i = (nextZ t s i : Int) := if_pos ⟨by omega, hi⟩
       obtain ⟨k1, k2⟩ := smZs_nth hs p1
       generalize hkk : nextZ t s i = kk at *
       have hi3 : i < s.length + 1 := by omega
       have htx := tab_text hc _ (nth_mem p1)
       have hlz : cellZ t kk = (nth t kk).cells.length := rfl
       have hst : textZ t (l ++ [kk]) = textZ t l ++ (nth t kk).text := by rw [textZ_app]; simp [textZ]
       have hbd : (textZ t l).length + (nth t kk).text.length ≤ 1099511627776 := by omega
       have hll3 : (textZ t (l ++ [kk])).length ≤ 64 * (i + cellZ t kk) := by rw [hst, List.length_append]; omega
       have hpt3 : pathD t s s.length 0 = (l ++ [kk]) ++ pathD t s m (i + cellZ t kk) := by rw [hpt, hpt2, List.append_assoc]; rfl
       repeat' (first | ((first | refine wpc_split _ ?_ ?_ | refine ww_split _ ?_ ?_) <;> intro hc <;> try simp at hc) | (refine wp_drawF (by kernel_rfl) ?_) | refine wk_yldW _ ?_ | refine layOwe _ (by kernel_rfl) ?_ | refine owe ?_ (fun ho => ?_) | (simp (disch := first | assumption | omega | (simp; done) | (simp; omega)) [C0, C3, C9, C15, C14, hbs, hi, hi3, p1, hnx, hbd, tab_get1, dget, dset, dget1, -getElem?_pos, gZ, gS]))
       all_goals try (exfalso; omega)
       exact Cih (m) _ _ (by omega) ⟨i + cellZ t kk, l ++ [kk], true, by simp [C0, C3, C9, C15, C14, A0, A3, A8, A9, A10, hlz, hst], by simp [C0, C3, C9, C15, C14, A0, A3, A8, A9, A10, hlz, hst], by simp [C0, C3, C9, C15, C14, A0, A3, A8, A9, A10, hlz, hst], by simp [C0, C3, C9, C15, C14, A0, A3, A8, A9, A10, hlz, hst], by simp [C0, C3, C9, C15, C14, A0, A3, A8, A9, A10, hlz, hst], (by simp [hst]), hpt3, by omega, p2, hll3, p4⟩
      ·obtain rfl : i = s.length := by omega
       have hp0' : pathD t s Cm s.length = [] := by
        cases Cm with
        | zero => rfl
        | succ m => rw [pathD, if_neg (by omega)]
       rw [hp0', List.append_nil] at hpt
       have hE : decodeZ t s = if 4096 < (textZ t l).length then ([], false, 2) else (textZ t l, true, 0) := by
        unfold decodeZ; rw [if_neg (by simp [hc]), if_neg hlong, if_neg (by simp [hd]), if_neg (by simp [hn1]), hpt]
       rw [hE]
       by_cases hbig : 4096 < (textZ t l).length
       ·rw [if_pos hbig]
        obtain ⟨bs', l1⟩ := leave Ch.ts [.cells [.int .i64 (-1)], .bld 60 5 u (textZ t l)]
        rw [← hbs] at l1
        have l3 : leaveS (Di cfg) (mkD 5 ms) Ch .ret = some (⟨bs', Ch.ts⟩, .ret) := l1
        repeat' (first | ((first | refine wpc_split _ ?_ ?_ | refine ww_split _ ?_ ?_) <;> intro hc <;> try simp at hc) | (refine wp_drawF (by kernel_rfl) ?_) | refine wk_yldW _ ?_ | refine layOwe _ (by kernel_rfl) ?_ | refine owe ?_ (fun ho => ?_) | (simp (disch := first | assumption | omega | (simp; done) | (simp; omega)) [C0, C3, C9, C15, C14, hbs, hbig, dget, dset, dget1, -getElem?_pos, gZ, gS]))
        all_goals try (exfalso; omega)
        simp (disch := first | assumption | omega | (simp; done) | (simp; omega)) [-getElem?_pos, gZ, gS, l3]
       ·rw [if_neg hbig]
        obtain ⟨bs', l1⟩ := leave Ch.ts [.cells [.int .i64 (-1)], .dead]
        repeat' (first | ((first | refine wpc_split _ ?_ ?_ | refine ww_split _ ?_ ?_) <;> intro hc <;> try simp at hc) | (refine wp_drawF (by kernel_rfl) ?_) | refine wk_yldW _ ?_ | refine layOwe _ (by kernel_rfl) ?_ | refine owe ?_ (fun ho => ?_) | (simp (disch := first | assumption | omega | (simp; done) | (simp; omega)) [C0, C3, C9, C15, C14, hbs, hbig, dget, dset, dget1, l1, -getElem?_pos, gZ, gS]))
        all_goals try (exfalso; omega)
     ·have hE : decodeZ t s = ([], false, 0) := by unfold decodeZ; rw [if_neg (by simp [hc]), if_neg hlong, if_neg (by simp [hd]), if_pos hn1]
      rw [hE]
      obtain ⟨bs', l1⟩ := leave Ah.ts [.cells [.int .i64 (-1)]]
      rw [← hb] at l1
      have l3 : leaveS (Di cfg) (mkD 5 ms) Ah .ret = some (⟨bs', Ah.ts⟩, .ret) := l1
      repeat' (first | ((first | refine wpc_split _ ?_ ?_ | refine ww_split _ ?_ ?_) <;> intro hc <;> try simp at hc) | (refine wp_drawF (by kernel_rfl) ?_) | refine wk_yldW _ ?_ | refine layOwe _ (by kernel_rfl) ?_ | refine owe ?_ (fun ho => ?_) | (simp (disch := first | assumption | omega | (simp; done) | (simp; omega)) [A0, A3, A8, A9, A10, hb, hn1, hp0, tab_get1, tab_take1, app_at, app_at0, -getElem?_pos, gZ, gS]))
      all_goals try (exfalso; omega)
      simp (disch := first | assumption | omega | (simp; done) | (simp; omega)) [-getElem?_pos, gZ, gS, l3]
 ·have hE : decodeZ t s = ([], false, checkZ t) := by unfold decodeZ; rw [if_pos hc]
  rw [hE]
  refine outS_of_wp cfg (fn := Tryd.f17) Tryd.func17 rfl (by simp [Tryd.f17]) ?_
  simp (disch := first | assumption | omega | (simp; done) | (simp; omega)) [-getElem?_pos, gZ, gS, Tryd.f17, emptyH, hc]
  repeat' (first | ((first | refine wpc_split _ ?_ ?_ | refine ww_split _ ?_ ?_) <;> intro hc <;> try simp at hc) | refine wk_yldW _ ?_ | refine layOwe _ (by kernel_rfl) ?_ | refine owe ?_ (fun ho => ?_) | (simp (disch := first | assumption | omega | (simp; done) | (simp; omega)) [emptyH, hc, -getElem?_pos, gZ, gS]))
  all_goals try (exact rfl)
@[simp] theorem S17 (t : List Sgn) (s : List Int) (hs : smZs t) (hs2 : s.length < 1099511627776) (q1 q2 : Fl) (hh : Heap) : Ci cfg (.func (.func 17) [] []) [R  q1 eZ t, R  q2 eI s] hh = some (.ret (.tuple [.str (decodeZ t s).1, .bool (decodeZ t s).2.1, .int .i64 (decodeZ t s).2.2]), hh) :=
 Ci_K cfg rfl rfl (by simp) (by simp) (C17 t s hs hs2)
end Go.Ab
