/- Layer 11 (fonts): the program's Check. -/
import Derived.Test.YtdfpmhgfmmcopaaDoorF1
set_option linter.unusedVariables false
set_option linter.unusedSimpArgs false
set_option linter.unusedSectionVars false
set_option linter.deprecated false
namespace Go.Ab
open Go.Proofs
set_option maxRecDepth 100000
set_option maxHeartbeats 4000000
theorem C24 (a b c : Int) : Kc cfg 24 [.int .i64 a, .int .i64 b, .int .i64 c] (.ret (.bool (decide (b ≤ a ∧ a ≤ c)))) := by
  refine outS_of_wp cfg (fn := Tryd.f24) Tryd.func24 rfl (by simp [Tryd.f24]) ?_
  simp (disch := first | assumption | omega | (simp; done) | (simp; omega)) [-getElem?_pos, List.getElem?_cons_zero, List.getElem?_cons_succ, Tryd.f24]
  repeat' (first | (refine wpc_split _ (fun hc => ?_) (fun hc => ?_) <;> (try simp at hc)) | (refine ww_split _ (fun hc => ?_) (fun hc => ?_) <;> (try simp at hc)) | (refine wp_drawF (by kernel_rfl) ?_) | (refine wk_yldW _ ?_) | (refine owe ?_ (fun ho => ?_)) | (simp (disch := first | assumption | omega | (simp; done) | (simp; omega)) [-getElem?_pos, List.getElem?_cons_zero, List.getElem?_cons_succ]))
  all_goals grind
@[simp] theorem S24 (a b c : Int) (hh : Heap) : Ci cfg (.func (.func 24) [] []) [.int .i64 a, .int .i64 b, .int .i64 c] hh = some (.ret (.bool (decide (b ≤ a ∧ a ≤ c))), hh) :=
  Ci_K cfg rfl rfl (by simp) (by simp) (C24 a b c)
theorem C43 (a : Int) : Kc cfg 43 [.int .i64 a] (.ret (.bool false)) := by
  refine outS_of_wp cfg (fn := Tryd.f43) Tryd.func43 rfl (by simp [Tryd.f43]) ?_
  simp (disch := first | assumption | omega | (simp; done) | (simp; omega)) [-getElem?_pos, List.getElem?_cons_zero, List.getElem?_cons_succ, Tryd.f43]
@[simp] theorem S43 (a : Int) (hh : Heap) : Ci cfg (.func (.func 43) [] []) [.int .i64 a] hh = some (.ret (.bool false), hh) :=
  Ci_K cfg rfl rfl (by simp) (by simp) (C43 a)
def cmpI3 (x y : Int) : Int := if x < y then -1 else if y < x then 1 else 0
theorem C30 (x y : Int) : Kc cfg 30 [.int .i64 x, .int .i64 y] (.ret (.int .i64 (cmpI3 x y))) := by
  refine outS_of_wp cfg (fn := Tryd.f30) Tryd.func30 rfl (by simp [Tryd.f30]) ?_
  simp (disch := first | assumption | omega | (simp; done) | (simp; omega)) [-getElem?_pos, List.getElem?_cons_zero, List.getElem?_cons_succ, Tryd.f30]
  repeat' (first | (refine wpc_split _ (fun hc => ?_) (fun hc => ?_) <;> (try simp at hc)) | (refine ww_split _ (fun hc => ?_) (fun hc => ?_) <;> (try simp at hc)) | (refine wp_drawF (by kernel_rfl) ?_) | (refine wk_yldW _ ?_) | (refine owe ?_ (fun ho => ?_)) | (simp (disch := first | assumption | omega | (simp; done) | (simp; omega)) [-getElem?_pos, List.getElem?_cons_zero, List.getElem?_cons_succ]))
  all_goals grind [cmpI3]
@[simp] theorem S30 (x y : Int) (hh : Heap) : Ci cfg (.func (.func 30) [] []) [.int .i64 x, .int .i64 y] hh = some (.ret (.int .i64 (cmpI3 x y)), hh) :=
  Ci_K cfg rfl rfl (by simp) (by simp) (C30 x y)
theorem C29 (x y : Int) : Kc cfg 29 [R fl0 eI [x, y]] (.ret (.int .i64 (if x = 0 then y else x))) := by
  refine outS_of_wp cfg (fn := Tryd.f29) Tryd.func29 rfl (by simp [Tryd.f29]) ?_
  simp (disch := first | assumption | omega | (simp; done) | (simp; omega)) [-getElem?_pos, List.getElem?_cons_zero, List.getElem?_cons_succ, Tryd.f29]
  repeat' (first | (refine wp_unroll rfl ?_) | (refine wpc_split _ (fun hc => ?_) (fun hc => ?_) <;> (try simp at hc)) | (refine ww_split _ (fun hc => ?_) (fun hc => ?_) <;> (try simp at hc)) | (refine wp_drawF (by kernel_rfl) ?_) | (refine wk_yldW _ ?_) | (refine owe ?_ (fun ho => ?_)) | (simp (disch := first | assumption | omega | (simp; done) | (simp; omega)) [eI, -getElem?_pos, List.getElem?_cons_zero, List.getElem?_cons_succ]))
  all_goals grind
@[simp] theorem S29 (x y : Int) (q1 : Fl) (hh : Heap) : Ci cfg (.func (.func 29) [] []) [R  q1 eI [x, y]] hh = some (.ret (.int .i64 (if x = 0 then y else x)), hh) :=
  Ci_K cfg rfl rfl (by simp) (by simp) (C29 x y)
def gUp (gs : List Glyph) : Bool := allTo gs.length (gRise gs)
def kUp (ks : List Kern) : Bool := allTo ks.length (kRise ks)
theorem CgUp (a b : Glyph) (h : Heap) : Ci cfg (.func (.func 26) [] []) [.agg (eG a), .agg (eG b)] h = some (.ret (.bool (decide (a.hi < b.lo))), ⟨h.bs ++ [.cells (eG a), .cells (eG b)], h.ts⟩) := by
  refine Ci_fun_wp (fn := Tryd.f26) rfl Tryd.func26 rfl (by simp [Tryd.f26]) ?_
  have hl : ∀ x : Blk, (h.bs ++ [x])[h.bs.length]? = some x := fun b => by simp
  have hl1 : ∀ x y : Blk, (h.bs ++ [x, y])[h.bs.length]? = some x := fun x y => by simp
  have hl2 : ∀ x y : Blk, (h.bs ++ [x, y])[h.bs.length + 1]? = some y := fun x y => by simp
  simp (disch := first | assumption | omega | (simp; done) | (simp; omega)) [-getElem?_pos, List.getElem?_cons_zero, List.getElem?_cons_succ, Tryd.f26, eG, hl, hl1, hl2]
  simp [newB]
theorem C25 (gs : List Glyph) (hs : gs.length < 1099511627776) : Kc cfg 25 [R fl0 eG gs, .func (.func 26) [] []] (.ret (.bool (gUp gs))) := by
  refine outS_of_wp cfg (fn := Tryd.f25) Tryd.func25 rfl (by simp [Tryd.f25]) ?_
  simp (disch := first | assumption | omega | (simp; done) | (simp; omega)) [-getElem?_pos, List.getElem?_cons_zero, List.getElem?_cons_succ, Tryd.f25]
  refine wp_loopE cfg rfl (fun f0 h0 m fr h => ∃ i : Nat, ∃ AX : List Blk, fr 0 = f0 0 ∧ fr 1 = f0 1 ∧ fr 5 = .int .i64 i ∧ h.bs = h0.bs ++ AX ∧ (1 ≤ i) ∧ (i + m = max 1 gs.length + 1) ∧ (allTo i (gRise gs) = true)) (max 1 gs.length) _ _ ⟨1, [], rfl, rfl, by first | rfl | (simp; done) | (simp [R]; done) | simp [R], by simp, by first | rfl | (simp; done) | omega, by omega, by simp [allTo, gRise]⟩ ?_
  rintro Am Af Ah ⟨i, AX, A0, A1, A5, Abs, hi1, hm, ht⟩ Aih
  try simp at A0 A1 Abs
  by_cases hi : i < gs.length
  · have h4 : (((i : Int) - 1).toNat) = i - 1 := by omega
    have hcg := CgUp (nth gs (i - 1)) (nth gs i)
    have hgr : gRise gs i = decide ((nth gs (i - 1)).hi < (nth gs i).lo) := by unfold gRise; simp; omega
    have hbad : gRise gs i = false → gUp gs = false := fun h => allTo_false (p := gRise gs) i hi h
    have hgo : gRise gs i = true → allTo (i + 1) (gRise gs) = true := fun h => allTo_next ht h
    rw [hgr] at hbad hgo
    simp only [eG] at hcg
    by_cases hlt : (nth gs (i - 1)).hi < (nth gs i).lo
    · repeat' (first | (refine wpc_split _ (fun hc => ?_) (fun hc => ?_) <;> (try simp at hc)) | (refine ww_split _ (fun hc => ?_) (fun hc => ?_) <;> (try simp at hc)) | (refine wp_drawF (by kernel_rfl) ?_) | (refine wk_yldW _ ?_) | (refine owe ?_ (fun ho => ?_)) | (simp (disch := first | assumption | omega | (simp; done) | (simp; omega)) [A0, A1, A5, Abs, eG, h4, hcg, -getElem?_pos, List.getElem?_cons_zero, List.getElem?_cons_succ]))
      all_goals first
        | omega
        | exact Aih (Am - 1) _ _ (by omega) ⟨i + 1, AX ++ [.cells (eG (nth gs (i - 1))), .cells (eG (nth gs i))], by simp [A0, A1, A5, Abs, eG], by simp [A0, A1, A5, Abs, eG], by simp [A0, A1, A5, Abs, eG], by simp [A0, A1, A5, Abs, eG], by omega, by omega, hgo (decide_eq_true hlt)⟩
    · have hb := hbad (decide_eq_false hlt)
      repeat' (first | (refine wpc_split _ (fun hc => ?_) (fun hc => ?_) <;> (try simp at hc)) | (refine ww_split _ (fun hc => ?_) (fun hc => ?_) <;> (try simp at hc)) | (refine wp_drawF (by kernel_rfl) ?_) | (refine wk_yldW _ ?_) | (refine owe ?_ (fun ho => ?_)) | (simp (disch := first | assumption | omega | (simp; done) | (simp; omega)) [A0, A1, A5, Abs, eG, h4, hcg, hb, -getElem?_pos, List.getElem?_cons_zero, List.getElem?_cons_succ]))
      all_goals first
        | omega
        | exact hb.symm
  · have hga : gUp gs = true := by
      unfold gUp
      rw [allTo_iff]
      intro j hj
      exact allTo_iff.1 ht j (by omega)
    rw [hga]
    repeat' (first | (refine wpc_split _ (fun hc => ?_) (fun hc => ?_) <;> (try simp at hc)) | (refine ww_split _ (fun hc => ?_) (fun hc => ?_) <;> (try simp at hc)) | (refine wp_drawF (by kernel_rfl) ?_) | (refine wk_yldW _ ?_) | (refine owe ?_ (fun ho => ?_)) | (simp (disch := first | assumption | omega | (simp; done) | (simp; omega)) [A0, A1, A5, Abs, -getElem?_pos, List.getElem?_cons_zero, List.getElem?_cons_succ]))
@[simp] theorem S25 (gs : List Glyph) (hs : gs.length < 1099511627776) (q1 : Fl) (hh : Heap) : Ci cfg (.func (.func 25) [] []) [R  q1 eG gs, .func (.func 26) [] []] hh = some (.ret (.bool (gUp gs)), hh) :=
  Ci_K cfg rfl rfl (by simp) (by simp) (C25 gs hs)
theorem CkUp (a b : Kern) (h : Heap) : Ci cfg (.func (.func 28) [] []) [.agg (eK a), .agg (eK b)] h = some (.ret (.bool (decide (a.a < b.a ∨ a.a = b.a ∧ a.b < b.b))), ⟨h.bs ++ [.cells (eK a), .cells (eK b)], h.ts⟩) := by
  refine Ci_fun_wp (fn := Tryd.f28) rfl Tryd.func28 rfl (by simp [Tryd.f28]) ?_
  have hl : ∀ x : Blk, (h.bs ++ [x])[h.bs.length]? = some x := fun b => by simp
  have hl1 : ∀ x y : Blk, (h.bs ++ [x, y])[h.bs.length]? = some x := fun x y => by simp
  have hl2 : ∀ x y : Blk, (h.bs ++ [x, y])[h.bs.length + 1]? = some y := fun x y => by simp
  have hf : ∀ x y : Int, V.row false true [.int .i64 x, .int .i64 y] 2 none = R (false, true, none) eI [x, y] := fun x y => rfl
  have hd : decide (a.a < b.a ∨ a.a = b.a ∧ a.b < b.b) = decide ((if cmpI3 a.a b.a = 0 then cmpI3 a.b b.b else cmpI3 a.a b.a) < 0) := by
    rw [decide_eq_decide]; unfold cmpI3; grind
  rw [hd]
  repeat' (first | (refine wpc_split _ (fun hc => ?_) (fun hc => ?_) <;> (try simp at hc)) | (refine ww_split _ (fun hc => ?_) (fun hc => ?_) <;> (try simp at hc)) | (refine wp_drawF (by kernel_rfl) ?_) | (refine wk_yldW _ ?_) | (refine owe ?_ (fun ho => ?_)) | (simp (disch := first | assumption | omega | (simp; done) | (simp; omega)) [Tryd.f28, eK, hl, hl1, hl2, hf, -getElem?_pos, List.getElem?_cons_zero, List.getElem?_cons_succ]))
  simp [newB]
theorem C27 (ks : List Kern) (hs : ks.length < 1099511627776) : Kc cfg 27 [R fl0 eK ks, .func (.func 28) [] []] (.ret (.bool (kUp ks))) := by
  refine outS_of_wp cfg (fn := Tryd.f27) Tryd.func27 rfl (by simp [Tryd.f27]) ?_
  simp (disch := first | assumption | omega | (simp; done) | (simp; omega)) [-getElem?_pos, List.getElem?_cons_zero, List.getElem?_cons_succ, Tryd.f27]
  refine wp_loopE cfg rfl (fun f0 h0 m fr h => ∃ i : Nat, ∃ AX : List Blk, fr 0 = f0 0 ∧ fr 1 = f0 1 ∧ fr 5 = .int .i64 i ∧ h.bs = h0.bs ++ AX ∧ (1 ≤ i) ∧ (i + m = max 1 ks.length + 1) ∧ (allTo i (kRise ks) = true)) (max 1 ks.length) _ _ ⟨1, [], rfl, rfl, by first | rfl | (simp; done) | (simp [R]; done) | simp [R], by simp, by first | rfl | (simp; done) | omega, by omega, by simp [allTo, kRise]⟩ ?_
  rintro Am Af Ah ⟨i, AX, A0, A1, A5, Abs, hi1, hm, ht⟩ Aih
  try simp at A0 A1 Abs
  by_cases hi : i < ks.length
  · have h4 : (((i : Int) - 1).toNat) = i - 1 := by omega
    have hcg := CkUp (nth ks (i - 1)) (nth ks i)
    have hgr : kRise ks i = decide ((nth ks (i - 1)).a < (nth ks i).a ∨ (nth ks (i - 1)).a = (nth ks i).a ∧ (nth ks (i - 1)).b < (nth ks i).b) := by
      unfold kRise
      rw [decide_eq_decide]
      exact ⟨fun h => h (by omega), fun h _ => h⟩
    have hbad : kRise ks i = false → kUp ks = false := fun h => allTo_false (p := kRise ks) i hi h
    have hgo : kRise ks i = true → allTo (i + 1) (kRise ks) = true := fun h => allTo_next ht h
    simp only [eK] at hcg
    rw [← hgr] at hcg
    cases hb : kRise ks i with
    | true =>
      rw [hb] at hcg
      repeat' (first | (refine wpc_split _ (fun hc => ?_) (fun hc => ?_) <;> (try simp at hc)) | (refine ww_split _ (fun hc => ?_) (fun hc => ?_) <;> (try simp at hc)) | (refine wp_drawF (by kernel_rfl) ?_) | (refine wk_yldW _ ?_) | (refine owe ?_ (fun ho => ?_)) | (simp (disch := first | assumption | omega | (simp; done) | (simp; omega)) [A0, A1, A5, Abs, eK, h4, hcg, -getElem?_pos, List.getElem?_cons_zero, List.getElem?_cons_succ]))
      exact Aih (Am - 1) _ _ (by omega) ⟨i + 1, AX ++ [.cells (eK (nth ks (i - 1))), .cells (eK (nth ks i))], by simp [A0, A1, A5, Abs, eK], by simp [A0, A1, A5, Abs, eK], by simp [A0, A1, A5, Abs, eK], by simp [A0, A1, A5, Abs, eK], by omega, by omega, hgo hb⟩
    | false =>
      rw [hb] at hcg
      have hb2 := hbad hb
      repeat' (first | (refine wpc_split _ (fun hc => ?_) (fun hc => ?_) <;> (try simp at hc)) | (refine ww_split _ (fun hc => ?_) (fun hc => ?_) <;> (try simp at hc)) | (refine wp_drawF (by kernel_rfl) ?_) | (refine wk_yldW _ ?_) | (refine owe ?_ (fun ho => ?_)) | (simp (disch := first | assumption | omega | (simp; done) | (simp; omega)) [A0, A1, A5, Abs, eK, h4, hcg, hb2, -getElem?_pos, List.getElem?_cons_zero, List.getElem?_cons_succ]))
  · have hga : kUp ks = true := by
      unfold kUp
      rw [allTo_iff]
      intro j hj
      exact allTo_iff.1 ht j (by omega)
    rw [hga]
    repeat' (first | (refine wpc_split _ (fun hc => ?_) (fun hc => ?_) <;> (try simp at hc)) | (refine ww_split _ (fun hc => ?_) (fun hc => ?_) <;> (try simp at hc)) | (refine wp_drawF (by kernel_rfl) ?_) | (refine wk_yldW _ ?_) | (refine owe ?_ (fun ho => ?_)) | (simp (disch := first | assumption | omega | (simp; done) | (simp; omega)) [A0, A1, A5, Abs, -getElem?_pos, List.getElem?_cons_zero, List.getElem?_cons_succ]))
@[simp] theorem S27 (ks : List Kern) (hs : ks.length < 1099511627776) (q1 : Fl) (hh : Heap) : Ci cfg (.func (.func 27) [] []) [R  q1 eK ks, .func (.func 28) [] []] hh = some (.ret (.bool (kUp ks)), hh) :=
  Ci_K cfg rfl rfl (by simp) (by simp) (C27 ks hs)
end Go.Ab
