/- AlignMetric: the law. -/
import Derived.Test.YtdgdefemmjngnaaDoorD21
import Derived.Test.YtdgdefemmjngnaaDoorS21
set_option linter.unusedVariables false
set_option linter.unusedSimpArgs false
set_option linter.unusedSectionVars false
set_option linter.deprecated false
namespace Go.Ab
open Go.Proofs
set_option maxRecDepth 100000
set_option maxHeartbeats 4000000
theorem C6 (a b c : List (List UInt8)) (hs : a.length < 1099511627776 ∧ b.length < 1099511627776 ∧ c.length < 1099511627776) (ha : ∀ x ∈ a, x.length < 1099511627776) (hb : ∀ x ∈ b, x.length < 1099511627776) (hc : ∀ x ∈ c, x.length < 1099511627776) : Kc cfg 6 [R fl0 eS a, R fl0 eS b, R fl0 eS c] (.ret (.bool true)) := by
  have hf : ∀ (p q : Bool) (tok : Option Nat), V.row p q [R fl0 eS a, R fl0 eS b, R fl0 eS c] 3 tok = R (p, q, tok) (eR eS) [a, b, c] := fun _ _ _ => rfl
  have hl : ∀ l ∈ [a, b, c], l.length < 1099511627776 ∧ ∀ x ∈ l, x.length < 1099511627776 := by
    intro l hl
    simp at hl
    rcases hl with rfl | rfl | rfl
    · exact ⟨hs.1, ha⟩
    · exact ⟨hs.2.1, hb⟩
    · exact ⟨hs.2.2, hc⟩
  have hW := S22 [a, b, c] (by simp) hl
  cases hw : wordsL [a, b, c] with
  | false =>
    refine outS_of_wp cfg (fn := Tryd.f6) Tryd.func6 rfl (by simp [Tryd.f6]) ?_
    simp (disch := first | assumption | omega | (simp; done) | (simp; omega)) [-getElem?_pos, List.getElem?_cons_zero, List.getElem?_cons_succ, Tryd.f6, hf, hW, hw]
    repeat' (first | (refine wpc_split _ (fun hc => ?_) (fun hc => ?_) <;> (try simp at hc)) | (refine ww_split _ (fun hc => ?_) (fun hc => ?_) <;> (try simp at hc)) | (refine wp_drawF (by kernel_rfl) ?_) | (refine wk_yldW _ ?_) | (refine layOwe _ (by kernel_rfl) ?_) | (refine owe ?_ (fun ho => ?_)) | (simp (disch := first | assumption | omega | (simp; done) | (simp; omega)) [hf, hW, hw, -getElem?_pos, List.getElem?_cons_zero, List.getElem?_cons_succ]))
  | true =>
    obtain ⟨a1, a2⟩ := wordsL_mem hw (show a ∈ [a, b, c] by simp)
    obtain ⟨b1, b2⟩ := wordsL_mem hw (show b ∈ [a, b, c] by simp)
    obtain ⟨c1, c2⟩ := wordsL_mem hw (show c ∈ [a, b, c] by simp)
    have cab : costL a b = lev a b := by unfold costL; rw [if_pos (errS_zero ⟨by omega, a2⟩ ⟨by omega, b2⟩)]
    have cba : costL b a = lev a b := by unfold costL; rw [if_pos (errS_zero ⟨by omega, b2⟩ ⟨by omega, a2⟩), lev_comm]
    have cbc : costL b c = lev b c := by unfold costL; rw [if_pos (errS_zero ⟨by omega, b2⟩ ⟨by omega, c2⟩)]
    have cac : costL a c = lev a c := by unfold costL; rw [if_pos (errS_zero ⟨by omega, a2⟩ ⟨by omega, c2⟩)]
    have n1 := lev_nonneg a b
    have n2 := lev_nonneg b c
    have n3 := lev_nonneg a c
    have tri := lev_tri a b c
    have m1 := lev_max a b
    have m2 := lev_max b c
    have m3 := lev_max a c
    obtain ⟨d1, d2⟩ := lev_diff (lev_Al a b)
    have hz : (lev a b == 0) = decide (a = b) := by
      rw [Bool.eq_iff_iff, beq_iff_eq, decide_eq_true_eq]
      exact ⟨lev_zero, fun e => by rw [e]; exact lev_self b⟩
    have hs1 : a.length < 1099511627776 ∧ b.length < 1099511627776 := by omega
    have hs2 : b.length < 1099511627776 ∧ a.length < 1099511627776 := by omega
    have hs3 : b.length < 1099511627776 ∧ c.length < 1099511627776 := by omega
    have hs4 : a.length < 1099511627776 ∧ c.length < 1099511627776 := by omega
    generalize lev a b = x at *
    generalize lev b c = y at *
    generalize lev a c = z at *
    refine outS_of_wp cfg (fn := Tryd.f6) Tryd.func6 rfl (by simp [Tryd.f6]) ?_
    simp (disch := first | assumption | omega | (simp; done) | (simp; omega)) [-getElem?_pos, List.getElem?_cons_zero, List.getElem?_cons_succ, Tryd.f6, hf, hW, hw, cab, cba, cbc, cac, hz]
    repeat' (first | (refine wpc_split _ (fun hc => ?_) (fun hc => ?_) <;> (try simp at hc)) | (refine ww_split _ (fun hc => ?_) (fun hc => ?_) <;> (try simp at hc)) | (refine wp_drawF (by kernel_rfl) ?_) | (refine wk_yldW _ ?_) | (refine layOwe _ (by kernel_rfl) ?_) | (refine owe ?_ (fun ho => ?_)) | (simp (disch := first | assumption | omega | (simp; done) | (simp; omega)) [hf, hW, hw, cab, cba, cbc, cac, hz, -getElem?_pos, List.getElem?_cons_zero, List.getElem?_cons_succ]))
    all_goals first
      | (exfalso; omega)
      | omega
      | (simp; omega)
      | skip
@[simp] theorem S6 (a b c : List (List UInt8)) (hs : a.length < 1099511627776 ∧ b.length < 1099511627776 ∧ c.length < 1099511627776) (ha : ∀ x ∈ a, x.length < 1099511627776) (hb : ∀ x ∈ b, x.length < 1099511627776) (hc : ∀ x ∈ c, x.length < 1099511627776) (q1 q2 q3 : Fl) (hh : Heap) : Ci cfg (.func (.func 6) [] []) [R  q1 eS a, R  q2 eS b, R  q3 eS c] hh = some (.ret (.bool true), hh) :=
  Ci_K cfg rfl rfl (by simp) (by simp) (C6 a b c hs ha hb hc)
end Go.Ab
