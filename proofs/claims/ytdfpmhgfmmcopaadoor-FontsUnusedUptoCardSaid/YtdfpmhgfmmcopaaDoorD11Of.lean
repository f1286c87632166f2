/- Layer 11 (fonts): the laws' own measure of code points. -/
import Derived.Test.YtdfpmhgfmmcopaaDoorS11
import Derived.Test.YtdfpmhgfmmcopaaDoorP09
import Derived.Test.YtdfpmhgfmmcopaaDoorF1d
import Derived.Test.YtdfpmhgfmmcopaaDoorF6
set_option linter.unusedVariables false
set_option linter.unusedSimpArgs false
set_option linter.unusedSectionVars false
set_option linter.deprecated false
namespace Go.Ab
open Go.Proofs
set_option maxRecDepth 100000
set_option maxHeartbeats 4000000
theorem widthS_enc {f : Font} (hc : checkS f = 0) {l : List Int} (hp : l.all point = true) (hl : (encAll l).length ≤ 4096) : widthS f (encAll l) = (wTo f l l.length, 0) := by
  have hr := runesG_some hl (runes_encAll hp)
  unfold widthS
  rw [if_neg (by simpa using hc), hr]; simp
theorem widthS_of {f : Font} (hc : checkS f = 0) {s : List UInt8} (h : (runesG s).2 = 0) : widthS f s = (wTo f (runesG s).1 (runesG s).1.length, 0) := by
  unfold widthS
  rw [if_neg (by simpa using hc), if_neg (by simpa using h)]
theorem widthS_bad {f : Font} (hc : checkS f = 0) {s : List UInt8} (h : ¬ (runesG s).2 = 0) : widthS f s = (0, (runesG s).2) := by
  unfold widthS
  rw [if_neg (by simpa using hc), if_pos h]
theorem C19 (f : Font) (l : List Int) (hs : f.gs.length < 1099511627776 ∧ f.ks.length < 1099511627776) (hc : checkS f = 0) (hp : l.all point = true) (hl : (encAll l).length ≤ 4096) : Kc cfg 19 [.agg [R fl0 eG f.gs, .int .i64 f.other, R fl0 eK f.ks], R fl0 eI l] (.ret (.tuple [.int .i64 (wTo f l l.length), .bool true])) := by
  have hj := joinG_part hp hl
  have hw := widthS_enc hc hp hl
  have hn := (encAll_len l).1
  refine outS_of_wp cfg (fn := Tryd.f19) Tryd.func19 rfl (by simp [Tryd.f19]) ?_
  simp (disch := first | assumption | omega | (simp; done) | (simp; omega)) [-getElem?_pos, List.getElem?_cons_zero, List.getElem?_cons_succ, Tryd.f19, hj, hw]
  repeat' (first | (refine wpc_split _ (fun hc => ?_) (fun hc => ?_) <;> (try simp at hc)) | (refine ww_split _ (fun hc => ?_) (fun hc => ?_) <;> (try simp at hc)) | (refine wp_drawF (by kernel_rfl) ?_) | (refine wk_yldW _ ?_) | (refine owe ?_ (fun ho => ?_)) | (simp (disch := first | assumption | omega | (simp; done) | (simp; omega)) [hj, hw, -getElem?_pos, List.getElem?_cons_zero, List.getElem?_cons_succ]))
@[simp] theorem S19 (f : Font) (l : List Int) (hs : f.gs.length < 1099511627776 ∧ f.ks.length < 1099511627776) (hc : checkS f = 0) (hp : l.all point = true) (hl : (encAll l).length ≤ 4096) (q1 q2 q3 : Fl) (hh : Heap) : Ci cfg (.func (.func 19) [] []) [.agg [R  q1 eG f.gs, .int .i64 f.other, R  q2 eK f.ks], R  q3 eI l] hh = some (.ret (.tuple [.int .i64 (wTo f l l.length), .bool true]), hh) :=
  Ci_K cfg rfl rfl (by simp) (by simp) (C19 f l hs hc hp hl)
theorem w1 (f : Font) (a : Int) : wTo f [a] 1 = oneS f a := by
  show sumTo (0 + 1) _ = _
  rw [sumTo_succ, sumTo_zero]; simp [addS]
theorem w2 (f : Font) (a b : Int) : wTo f [a, b] 2 = oneS f a + oneS f b - nearS f a b := by
  show sumTo (1 + 1) _ = _
  rw [sumTo_succ, show sumTo 1 (addS f [a, b]) = sumTo (0 + 1) (addS f [a, b]) from rfl, sumTo_succ, sumTo_zero]
  simp [addS]; omega
theorem enc1l (a : Int) : (encAll [a]).length ≤ 4096 := by have := (encAll_len [a]).2; simp at this ⊢; omega
theorem enc2l (a b : Int) : (encAll [a, b]).length ≤ 4096 := by have := (encAll_len [a, b]).2; simp at this ⊢; omega
theorem fold_I2 (a b : Bool) (tok : Option Nat) (x y : Int) : V.row a b [.int .i64 x, .int .i64 y] 2 tok = R (a, b, tok) eI [x, y] := rfl
theorem pt_nth {l : List Int} (h : l.all point = true) {i : Nat} (hi : i < l.length) : point (nth l i) = true := by rw [List.all_eq_true] at h; exact h _ (nth_mem hi)
end Go.Ab
