/- Layer 11 (fonts): the reference's Check, its second loop. -/
import Derived.Test.YtdfpmhgfmmcopaaDoorF1
set_option linter.unusedVariables false
set_option linter.unusedSimpArgs false
set_option linter.unusedSectionVars false
set_option linter.deprecated false
namespace Go.Ab
open Go.Proofs
set_option maxRecDepth 100000
set_option maxHeartbeats 4000000
theorem LcheckK (f : Font) (hs : f.gs.length < 1099511627776 ∧ f.ks.length < 1099511627776) (b : Code) (hb : b = loopAt Tryd.f14 1) (fr : Nat → V) (h : Heap) (K : List Fr) (Q : Ax → St → Prop)
    (h1 : fr 1 = .ptr 0 0) (h5 : fr 5 = .int .i64 0) (hb0 : h.bs[0]? = some (.cells [R fl0 eG f.gs, .int .i64 f.other, R fl0 eK f.ks]))
    (hin : kAll f.ks = true → ∀ fr' h', fr' 1 = .ptr 0 0 → h'.bs[0]? = some (.cells [R fl0 eG f.gs, .int .i64 f.other, R fl0 eK f.ks]) → dn cfg (.exit 2) ⟨tab 142 fr', h', [], .no, none⟩ K Q)
    (hout : kAll f.ks = false → ∀ fr' h', fr' 2 = .int .i64 110 → dn cfg .ret ⟨tab 142 fr', h', [], .no, none⟩ K Q) :
    wp cfg (.loop b) ⟨tab 142 fr, h, [], .no, none⟩ K Q := by
  subst hb
  simp only [loopAt, codeOf, Tryd.f14, Option.getD_some, loopsOf, List.nil_append, List.append_nil, List.cons_append, List.getD_cons_succ, List.getD_cons_zero]
  refine wp_loopE cfg rfl (fun f0 h0 m fr h => ∃ i : Nat, fr 1 = .ptr 0 0 ∧ fr 5 = .int .i64 i ∧ (h.bs[0]? = some (.cells [R fl0 eG f.gs, .int .i64 f.other, R fl0 eK f.ks])) ∧ (0 < h.bs.length) ∧ (i + m = f.ks.length) ∧ (allTo i (fun i => kOk (nth f.ks i) && kRise f.ks i) = true)) (f.ks.length) _ _ ⟨0, h1, by simpa using h5, hb0, (List.getElem?_eq_some_iff.1 hb0).1, by first | rfl | (simp; done) | omega, by first | rfl | (simp; done) | omega⟩ ?_
  rintro Bm Bf Bh ⟨i, B1, B5, h0, hpos, hm, ht⟩ Bih
  by_cases hi : i < f.ks.length
  · have hbad : (kOk (nth f.ks i) && kRise f.ks i) = false → kAll f.ks = false := fun h => allTo_false (p := fun i => kOk (nth f.ks i) && kRise f.ks i) i hi h
    have hgo : (kOk (nth f.ks i) && kRise f.ks i) = true → allTo (i + 1) (fun i => kOk (nth f.ks i) && kRise f.ks i) = true := fun h => allTo_next ht h
    have hiff : (kOk (nth f.ks i) && kRise f.ks i) = decide (((0 ≤ (nth f.ks i).a ∧ (nth f.ks i).a ≤ 1114111) ∧ (0 ≤ (nth f.ks i).b ∧ (nth f.ks i).b ≤ 1114111) ∧ -4096 ≤ (nth f.ks i).by' ∧ (nth f.ks i).by' ≤ 4096) ∧ (0 < i → (nth f.ks (i - 1)).a < (nth f.ks i).a ∨ (nth f.ks (i - 1)).a = (nth f.ks i).a ∧ (nth f.ks (i - 1)).b < (nth f.ks i).b)) := by
      unfold kOk kRise; simp
    rw [hiff] at hbad hgo
    simp only [decide_eq_false_iff_not, decide_eq_true_eq] at hbad hgo
    have hl1 : Bh.bs.length ≠ 0 := by omega
    have hx : ∀ b : Blk, (Bh.bs ++ [b])[0]? = some (.cells [R fl0 eG f.gs, .int .i64 f.other, R fl0 eK f.ks]) := fun b => by rw [bs_left hpos, h0]
    have hlst : ∀ b : Blk, (Bh.bs ++ [b])[Bh.bs.length]? = some b := fun b => by simp
    have h4 : 0 < i → (((i : Int) - 1).toNat) = i - 1 := by omega
    repeat' (first | (refine wpc_split _ (fun hc => ?_) (fun hc => ?_) <;> (try simp at hc)) | (refine ww_split _ (fun hc => ?_) (fun hc => ?_) <;> (try simp at hc)) | (refine wp_drawF (by kernel_rfl) ?_) | (refine wk_yldW _ ?_) | (refine owe ?_ (fun ho => ?_)) | (simp (disch := first | assumption | omega | (simp; done) | (simp; omega)) [B1, B5, h0, hx, hlst, eK, h4, -getElem?_pos, List.getElem?_cons_zero, List.getElem?_cons_succ]))
    all_goals first
      | exact hout (hbad (by omega)) _ _ (by simp)
      | exact Bih (Bm - 1) _ _ (by omega) ⟨i + 1, by simp [B1, B5, eK], by simp [B1, B5, eK], hx _, by simp, by omega, hgo (by omega)⟩
  · have hka : kAll f.ks = true := by
      have : i = f.ks.length := by omega
      rw [this] at ht; exact ht
    repeat' (first | (refine wpc_split _ (fun hc => ?_) (fun hc => ?_) <;> (try simp at hc)) | (refine ww_split _ (fun hc => ?_) (fun hc => ?_) <;> (try simp at hc)) | (refine wp_drawF (by kernel_rfl) ?_) | (refine wk_yldW _ ?_) | (refine owe ?_ (fun ho => ?_)) | (simp (disch := first | assumption | omega | (simp; done) | (simp; omega)) [B1, B5, h0, -getElem?_pos, List.getElem?_cons_zero, List.getElem?_cons_succ]))
    exact hin hka _ _ B1 h0
end Go.Ab
