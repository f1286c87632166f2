/- Layer 37 (masks): the program's closures. -/
import Derived.Test.YthijadpjkcmioaaDoorM3
set_option linter.unusedVariables false
set_option linter.unusedSimpArgs false
set_option linter.unusedSectionVars false
set_option linter.deprecated false
namespace Go.Ab
open Go.Proofs
set_option maxRecDepth 100000
set_option maxHeartbeats 1000000
/-- the map of kinds -/
def kindsB : Blk := .map [(.int .i64 0, .agg [.func (.func 30) [] []], 0), (.int .i64 1, .agg [.func (.func 31) [] []], 1), (.int .i64 2, .agg [.func (.func 32) [] []], 2)] 3
def kindV (n : Int) : V := if n = 0 then .func (.func 30) [] [] else if n = 1 then .func (.func 31) [] [] else if n = 2 then .func (.func 32) [] [] else .nilfunc
attribute [local simp] lookupV findK eqKey keyOk
theorem C19 (n : Int) (h : Heap) (h1 : h.bs[1]? = some kindsB) (h2 : h.bs[2]? = some (.cells [.map 1])) :
    Ci cfg (.func (.func 19) [] [.ptr 2 0]) [.int .i64 n] h = some (.ret (.bool !decide (0 ≤ n ∧ n ≤ 2)), newB h (.cells [kindV n])) := by
  have hl : 2 < h.bs.length := (List.getElem?_eq_some_iff.1 h2).1
  have hl2 : ∀ b : Blk, (h.bs ++ [b])[h.bs.length]? = some b := fun b => by simp
  refine Ci_fun_wp (fn := Tryd.f19) rfl Tryd.func19 rfl (by simp [Tryd.f19]) ?_
  by_cases a0 : n = 0
  · subst a0
    simp (disch := first | assumption | omega | (simp; done) | (simp; omega)) [-getElem?_pos, List.getElem?_cons_zero, List.getElem?_cons_succ, Tryd.f19, h1, h2, hl2, kindsB, kindV]
    rfl
  have b0 : (n == 0) = false := by simpa using a0
  by_cases a1 : n = 1
  · subst a1
    simp (disch := first | assumption | omega | (simp; done) | (simp; omega)) [-getElem?_pos, List.getElem?_cons_zero, List.getElem?_cons_succ, Tryd.f19, h1, h2, hl2, kindsB, kindV]
    rfl
  have b1 : (n == 1) = false := by simpa using a1
  by_cases a2 : n = 2
  · subst a2
    simp (disch := first | assumption | omega | (simp; done) | (simp; omega)) [-getElem?_pos, List.getElem?_cons_zero, List.getElem?_cons_succ, Tryd.f19, h1, h2, hl2, kindsB, kindV]
    rfl
  have b2 : (n == 2) = false := by simpa using a2
  have b3 : ¬ (0 ≤ n ∧ n ≤ 2) := by omega
  simp (disch := first | assumption | omega | (simp; done) | (simp; omega)) [-getElem?_pos, List.getElem?_cons_zero, List.getElem?_cons_succ, Tryd.f19, h1, h2, hl2, kindsB, kindV, a0, a1, a2, b0, b1, b2, b3]
  rfl
theorem C20 (t : List UInt8) (d v : List Int) (n : Int) (h : Heap) (fl : Fl) (h0 : h.bs[0]? = some (.cells [R fl eI v])) (hs : d.length < 1099511627776) (ht : t.length < 1099511627776) :
    Ci cfg (.func (.func 20) [] [.ptr 0 0]) [.agg [.str t, R fl0 eI d, .int .i64 n]] h = some (.ret (.bool !rightS t d v.length), newB h (.cells [.str t, R fl0 eI d, .int .i64 n])) := by
  have hl : 0 < h.bs.length := (List.getElem?_eq_some_iff.1 h0).1
  refine Ci_fun_wp (fn := Tryd.f20) rfl Tryd.func20 rfl (by simp [Tryd.f20]) ?_
  have hb0 : (h.bs ++ [Blk.cells [.str t, R fl0 eI d, .int .i64 n]])[0]? = some (.cells [R fl eI v]) := by rw [bs_left hl, h0]
  have hb1 : (h.bs ++ [Blk.cells [.str t, R fl0 eI d, .int .i64 n]])[h.bs.length]? = some (Blk.cells [.str t, R fl0 eI d, .int .i64 n]) := by simp
  clear hl
  simp (disch := first | assumption | omega | (simp; done) | (simp; omega)) [-getElem?_pos, List.getElem?_cons_zero, List.getElem?_cons_succ, Tryd.f20, hb0, hb1]
  refine wp_loopE cfg rfl (fun f0 h0' m f h' => ∃ (i : Nat) (last : Int), f 1 = f0 1 ∧ f 2 = f0 2 ∧ f 8 = f0 8 ∧ f 9 = f0 9 ∧ f 4 = .int .i64 last ∧ f 10 = .int .i64 i ∧ h' = h0' ∧ i + m = d.length ∧ rightS t d v.length = (asc v.length last (d.drop i) && wordS t) ∧ -1 ≤ last) d.length _ _ ⟨0, -1, rfl, rfl, rfl, rfl, by simp, by simp, rfl, by simp, by simp [rightS], by simp⟩ ?_
  rintro m f h' ⟨i, last, h1, h2, h8, h9, h4, h10, hh, hm, hr, hlast⟩ ih
  simp at h1 h2 h8 h9 hh
  by_cases hi : i < d.length
  · rw [asc_step hi] at hr
    repeat' (first | (refine wpc_split _ (fun hc => ?_) (fun hc => ?_) <;> (try simp at hc)) | (refine ww_split _ (fun hc => ?_) (fun hc => ?_) <;> (try simp at hc)) | (refine wp_drawF (by kernel_rfl) ?_) | (refine wk_yldW _ ?_) | (refine layOwe _ (by kernel_rfl) ?_) | (refine owe ?_ (fun ho => ?_)) | (simp (disch := first | assumption | omega | (simp; done) | (simp; omega)) [h1, h2, h8, h9, h4, h10, hh, hb0, hb1, eI, -getElem?_pos, List.getElem?_cons_zero, List.getElem?_cons_succ]))
    all_goals first
      | exact ih (m - 1) _ _ (by omega) ⟨i + 1, nth d i, by simp [h1], by simp [h2], by simp [h8], by simp [h9], by simp, by simp, by simp [hh], by omega, by rw [hr]; grind, by omega⟩
      | (rw [hr]; simp; intros; omega)
  · repeat' (first | (refine wpc_split _ (fun hc => ?_) (fun hc => ?_) <;> (try simp at hc)) | (refine ww_split _ (fun hc => ?_) (fun hc => ?_) <;> (try simp at hc)) | (refine wp_drawF (by kernel_rfl) ?_) | (refine wk_yldW _ ?_) | (refine layOwe _ (by kernel_rfl) ?_) | (refine owe ?_ (fun ho => ?_)) | (simp (disch := first | assumption | omega | (simp; done) | (simp; omega)) [h1, h2, h8, h9, h4, h10, hh, hb0, hb1, eI, -getElem?_pos, List.getElem?_cons_zero, List.getElem?_cons_succ]))
    rw [hr, List.drop_eq_nil_of_le (by omega)]
    simp [asc]
end Go.Ab
