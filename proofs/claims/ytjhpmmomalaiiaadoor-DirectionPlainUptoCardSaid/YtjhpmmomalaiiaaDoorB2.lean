/- Layer 10 (direction): the program's Levels. -/
import Derived.Test.YtjhpmmomalaiiaaDoorB1
set_option linter.unusedVariables false
set_option linter.unusedSimpArgs false
set_option linter.unusedSectionVars false
set_option linter.deprecated false
namespace Go.Ab
open Go.Proofs
set_option maxRecDepth 100000
set_option maxHeartbeats 8000000
def twoF (right : Bool) : Int := if right then 2 else 0
theorem C24 (right : Bool) : Kc cfg 24 [.bool right] (.ret (.agg [.int .i64 (-1), .int .i64 (-1), .int .i64 (twoF right), .int .i64 (twoF right), .int .i64 1])) := by
  cases right with
  | true =>
    refine outS_of_wp cfg (fn := Tryd.f24) Tryd.func24 rfl (by simp [Tryd.f24]) ?_
    simp (disch := first | assumption | omega | (simp; done) | (simp; omega)) [-getElem?_pos, List.getElem?_cons_zero, List.getElem?_cons_succ, Tryd.f24]
    repeat' (first | (refine wpc_split _ (fun hc => ?_) (fun hc => ?_) <;> (try simp at hc)) | (refine ww_split _ (fun hc => ?_) (fun hc => ?_) <;> (try simp at hc)) | (refine wp_drawF (by kernel_rfl) ?_) | (refine wk_yldW _ ?_) | (refine layOwe _ (by kernel_rfl) ?_) | (refine owe ?_ (fun ho => ?_)) | (simp (disch := first | assumption | omega | (simp; done) | (simp; omega)) [-getElem?_pos, List.getElem?_cons_zero, List.getElem?_cons_succ]))
    all_goals rfl
  | false =>
    refine outS_of_wp cfg (fn := Tryd.f24) Tryd.func24 rfl (by simp [Tryd.f24]) ?_
    simp (disch := first | assumption | omega | (simp; done) | (simp; omega)) [-getElem?_pos, List.getElem?_cons_zero, List.getElem?_cons_succ, Tryd.f24]
    repeat' (first | (refine wpc_split _ (fun hc => ?_) (fun hc => ?_) <;> (try simp at hc)) | (refine ww_split _ (fun hc => ?_) (fun hc => ?_) <;> (try simp at hc)) | (refine wp_drawF (by kernel_rfl) ?_) | (refine wk_yldW _ ?_) | (refine layOwe _ (by kernel_rfl) ?_) | (refine owe ?_ (fun ho => ?_)) | (simp (disch := first | assumption | omega | (simp; done) | (simp; omega)) [-getElem?_pos, List.getElem?_cons_zero, List.getElem?_cons_succ]))
    all_goals rfl
@[simp] theorem S24 (right : Bool) (hh : Heap) : Ci cfg (.func (.func 24) [] []) [.bool right] hh = some (.ret (.agg [.int .i64 (-1), .int .i64 (-1), .int .i64 (twoF right), .int .i64 (twoF right), .int .i64 1]), hh) :=
  Ci_K cfg rfl rfl (by simp) (by simp) (C24 right)
theorem strong_0 (r : Bool) : strongF r 0 = -1 := rfl
theorem strong_1 (r : Bool) : strongF r 1 = -1 := rfl
theorem strong_2 (r : Bool) : strongF r 2 = twoF r := rfl
theorem strong_3 (r : Bool) : strongF r 3 = twoF r := rfl
theorem strong_4 (r : Bool) : strongF r 4 = 1 := rfl
/-- what is filled in up to a place -/
def lvT (base : Int) (L : List Int) (i : Nat) : Nat → Int := fun j => if j < i then levAt base L j else nth L j
theorem lvT_zero (base : Int) (L : List Int) : lvT base L 0 = nth L := by funext j; unfold lvT; rw [if_neg (by omega)]
theorem lvT_own {base : Int} {L : List Int} {i : Nat} (h : i < L.length → gpL L i = false) : tab L.length (cI (lvT base L i)) = tab L.length (cI (lvT base L (i + 1))) := tab_ext fun j hj => by
  unfold cI
  congr 1
  show (if j < i then levAt base L j else nth L j) = (if j < i + 1 then levAt base L j else nth L j)
  by_cases e : j = i
  · subst e; rw [if_neg (by omega), if_pos (by omega), lev_own hj (h hj)]
  · by_cases h1 : j < i
    · rw [if_pos h1, if_pos (by omega)]
    · rw [if_neg h1, if_neg (by omega)]
theorem lvT_set {base N : Int} {L : List Int} {i : Nat} (h : levAt base L i = N) : updI (lvT base L i) i N = lvT base L (i + 1) := by
  funext j
  show (if j = i then N else if j < i then levAt base L j else nth L j) = (if j < i + 1 then levAt base L j else nth L j)
  by_cases e : j = i
  · subst e; rw [if_pos rfl, if_pos (by omega), h]
  · rw [if_neg e]
    by_cases h1 : j < i
    · rw [if_pos h1, if_pos (by omega)]
    · rw [if_neg h1, if_neg (by omega)]
theorem rows_nth' (L : List Int) : rows eI L = tab L.length (cI (nth L)) := by
  rw [← rowF_cI]
  congr 1
  exact ext_nth (by simp) (fun i hi => by rw [nth_rowF hi])
theorem lvT_all {base : Int} {L : List Int} {i : Nat} (h : L.length ≤ i) : tab L.length (cI (lvT base L i)) = rows eI (lvL base L) := by
  rw [rows_nth', lvL_len]
  exact tab_ext fun j hj => by
    unfold cI
    congr 1
    rw [lvL_nth hj]
    show (if j < i then levAt base L j else nth L j) = _
    rw [if_pos (by omega)]
theorem eqV_tk {P : Program} {α : Type} {E : α → List V} {t : TypeId} {b : Bool} {l : List α} {k : Nat} (h : slcD (P.underlying t) = true) : eqV P b t (R (false, false, some k) E l) (.row true true [] 0 none) = some false := by
  unfold R
  rw [eqV_rn h]
  simp
theorem Cgap (n : Int) (h : Heap) : Ci cfg (.func (.func 27) [] []) [.int .i64 n] h = some (.ret (.bool (n == -1)), h) := by
  refine Ci_fun_wp (fn := Tryd.f27) rfl Tryd.func27 rfl (by simp [Tryd.f27]) ?_
  simp (disch := first | assumption | omega | (simp; done) | (simp; omega)) [-getElem?_pos, List.getElem?_cons_zero, List.getElem?_cons_succ, Tryd.f27]
theorem raw_neg {right : Bool} {l : List Int} {i : Nat} (hi : i < l.length) : (nth (rawL right l) i == -1) = gpL (rawL right l) i := by
  unfold gpL
  rw [rawL_nth hi]
  rcases strong_range right (kindG (nth l i)).1 with h | h | h | h <;> rw [h] <;> rfl
end Go.Ab
