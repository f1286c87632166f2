/- Layer 21 (align): the examples. -/
import Derived.Test.YtdgdefemmjngnaaDoorA10
set_option linter.unusedVariables false
set_option linter.unusedSimpArgs false
set_option linter.unusedSectionVars false
set_option linter.deprecated false
namespace Go.Ab
open Go.Proofs
set_option maxRecDepth 100000
set_option maxHeartbeats 4000000
theorem handV_S1 {α β : Type} {E : α → List V} {E' : β → List V} {sz : Nat} [EncP E] [EncC E 1] [EncP E'] [hE' : EncC E' sz] {h : Heap} {fl : Fl} {l : List α} {L : List β} {a : Nat} (hb : h.bs[a]? = some (.cells (rows E' L))) :
    handV h [.slice a 0 L.length sz, R fl E l] = some ([R fl0 E' L, R fl0 E l], freezeB h a) := by
  have hc : V.closed.closedL [V.slice a 0 L.length sz, R fl E l] = false := by simp [V.closed.closedL, V.closed]
  unfold handV
  rw [if_neg (by rw [hc]; decide)]
  have hr : [V.slice a 0 L.length sz, R fl E l].flatMap (reachN h 8) = [a] := by
    simp only [List.flatMap_cons, List.flatMap_nil, List.append_nil]
    have h1 : reachN h 8 (R fl E l) = [] := R_reach _ _ _
    have h2 : reachN h 8 (V.slice a 0 L.length sz) = [a] := by
      show a :: (match h.bs[a]? with | some (.cells cs) | some (.frozen cs) => cs.flatMap (reachN h 7) | _ => []) = [a]
      rw [hb]; simp only; rw [flat_reach]
    rw [h1, h2]; rfl
  rw [hr]
  have ha : a < h.bs.length := (List.getElem?_eq_some_iff.1 hb).1
  have hf : freezeAll h [a] = freezeB h a := rfl
  have hfb : (freezeB h a).bs[a]? = some (.frozen (rows E' L)) := by
    unfold freezeB; rw [hb]; simp [ha]
  rw [hf]
  have p1 : pureN (freezeB h a) 8 (R fl E l) = some (R fl0 E l) := R_pure _ _ _ _
  have p2 : pureN (freezeB h a) 8 (V.slice a 0 L.length sz) = some (R fl0 E' L) := by
    show pure1 (pureN (freezeB h a) 7) (freezeB h a) (V.slice a 0 L.length sz) = _
    rw [pure1, hfb]
    simp only [Nat.zero_add, List.drop_zero]
    rw [if_pos (by rw [rows_length]; exact Nat.le_refl _), List.take_of_length_le (by rw [rows_length]; exact Nat.le_refl _), map_pure]
    rfl
  simp [pure1.mapO, p1, p2]
theorem foldS1 (p q : Bool) (tok : Option Nat) (x : List UInt8) : V.row p q [.str x] 1 tok = R (p, q, tok) eS [x] := rfl
theorem foldS2 (p q : Bool) (tok : Option Nat) (x y : List UInt8) : V.row p q [.str x, .str y] 2 tok = R (p, q, tok) eS [x, y] := rfl
theorem foldS3 (p q : Bool) (tok : Option Nat) (x y z : List UInt8) : V.row p q [.str x, .str y, .str z] 3 tok = R (p, q, tok) eS [x, y, z] := rfl
theorem foldI1 (p q : Bool) (tok : Option Nat) (x : Int) : V.row p q [.int .i64 x] 1 tok = R (p, q, tok) eI [x] := rfl
theorem foldI2 (p q : Bool) (tok : Option Nat) (x y : Int) : V.row p q [.int .i64 x, .int .i64 y] 2 tok = R (p, q, tok) eI [x, y] := rfl
theorem foldI3 (p q : Bool) (tok : Option Nat) (x y z : Int) : V.row p q [.int .i64 x, .int .i64 y, .int .i64 z] 3 tok = R (p, q, tok) eI [x, y, z] := rfl
theorem er1 : errS [[104, 101], [115, 97, 105, 100], [110, 111]] [[115, 104, 101], [115, 97, 105, 100]] = 0 := by kernel_rfl
theorem er2 : errS [] [] = 0 := by kernel_rfl
theorem er3 : errS [] [[97, 32, 98]] = 210 := by kernel_rfl
theorem er4 : errS [[97]] [[98]] = 0 := by kernel_rfl
theorem er5 : errS [[97], [98]] [[98], [97]] = 0 := by kernel_rfl
theorem er6 : errS [[97]] [[98], [97]] = 0 := by kernel_rfl
theorem er7 : errS (List.replicate 65 []) [] = 2 := by kernel_rfl
theorem er8 : errS [[97]] [[97]] = 0 := by kernel_rfl
theorem al1 : alS [[104, 101], [115, 97, 105, 100], [110, 111]] [[115, 104, 101], [115, 97, 105, 100]] = ([2, 1, 3], 2, 0) := by
  unfold alS T21; rw [er1]
  simp [alF_cc, alF_cn, alF_nc, alF_nn, lev_cc, lev_cn, lev_nc, lev_nn, cst]
  try decide
theorem al2 : alS [] [] = ([], 0, 0) := by
  unfold alS T21; rw [er2]
  simp [alF_nn, lev_nn]
theorem al3 : alS [] [[97, 32, 98]] = ([], 0, 210) := by unfold alS; rw [er3]; rfl
theorem al4 : alS [[97]] [[98]] = ([2], 1, 0) := by
  unfold alS T21; rw [er4]
  simp [alF_cc, alF_cn, alF_nc, alF_nn, lev_cc, lev_cn, lev_nc, lev_nn, cst]
  try decide
theorem al5 : alS [[97], [98]] [[98], [97]] = ([2, 2], 2, 0) := by
  unfold alS T21; rw [er5]
  simp [alF_cc, alF_cn, alF_nc, alF_nn, lev_cc, lev_cn, lev_nc, lev_nn, cst]
  try decide
theorem pr1 : prS [] [] = ([[0]], 0) := by
  unfold prS T21; rw [er2]
  simp [tabF, rowF, List.range, List.range.loop, lev_nn]
theorem pr2 : prS [[97]] [[98], [97]] = ([[1, 0, 1], [2, 1, 0]], 0) := by
  unfold prS T21; rw [er6]
  simp [tabF, rowF, List.range, List.range.loop, lev_cc, lev_cn, lev_nc, lev_nn, cst]
  try decide
theorem pr3 : prS (List.replicate 65 []) [] = ([], 2) := by unfold prS; rw [er7]; rfl
theorem ac1 : acS [[97]] [[97]] [1] [[0, 1], [1, 0]] = (true, 0) := by kernel_rfl
theorem ac2 : acS [[97]] [[97]] [2] [[1, 1], [1, 0]] = (false, 0) := by kernel_rfl
theorem ac3 : acS [[97]] [[97]] [3, 4] [[2, 1], [1, 0]] = (false, 0) := by kernel_rfl
abbrev fm : Fl := (false, true, none)
theorem cP65 (ts : List (Option Nat)) : Ci cfg (.func (.func 15) [] []) [.slice 0 0 65 1, R (true, true, none) eS []] ⟨[.cells (rows eS (List.replicate 65 []))], ts⟩ = some (.ret (.tuple [R fl0 (eR eI) [], .int .i64 2]), freezeB ⟨[.cells (rows eS (List.replicate 65 []))], ts⟩ 0) := by
  have h1 := handV_S1 (h := ⟨[.cells (rows eS (List.replicate 65 []))], ts⟩) (fl := (true, true, none)) (l := ([] : List (List UInt8))) (L := List.replicate 65 ([] : List UInt8)) (E := eS) (E' := eS) (a := 0) rfl
  have hK := C15 (List.replicate 65 []) [] (by simp) (fun x hx => by rw [List.eq_of_mem_replicate hx]; decide) (by simp)
  rw [pr3] at hK
  exact Ci_K2 cfg rfl rfl (by simpa using h1) hK
theorem cT (h : Heap) (f : Fl) (x : List (List Int)) (y : List Int) (hx : x.length < 1099511627776 ∧ ∀ r ∈ x, r.length < 1099511627776) : Ci cfg (.func (.func 19) [] []) [R f (eR eI) x, .row false true [R fm eI y] 1 none] h = some (.ret (.bool (decide (x = [y]))), h) :=
  Ci_K cfg rfl rfl (by simp) (by simp; rfl) (C19 x [y] hx.1 hx.2)
theorem cT2 (h : Heap) (f : Fl) (x : List (List Int)) (y z : List Int) (hx : x.length < 1099511627776 ∧ ∀ r ∈ x, r.length < 1099511627776) : Ci cfg (.func (.func 19) [] []) [R f (eR eI) x, .row false true [R fm eI y, R fm eI z] 2 none] h = some (.ret (.bool (decide (x = [y, z]))), h) :=
  Ci_K cfg rfl rfl (by simp) (by simp; rfl) (C19 x [y, z] hx.1 hx.2)
theorem cA (h : Heap) (st y z : List Int) (hs : st.length < 1099511627776) (hy : y.length < 1099511627776 ∧ z.length < 1099511627776) : Ci cfg (.func (.func 17) [] []) [R fm eS [[97]], R fm eS [[97]], R fm eI st, .row false true [R fm eI y, R fm eI z] 2 none] h = some (.ret (.tuple [.bool (acS [[97]] [[97]] st [y, z]).1, .int .i64 (acS [[97]] [[97]] st [y, z]).2]), h) :=
  Ci_K cfg rfl rfl (by simp) (by simp; rfl) (C17 [[97]] [[97]] st [y, z] ⟨by simp, by simp, hs⟩ (by simp) (by simp) (by simp) (by simp; exact hy))
theorem C9  : Kc cfg 9 [] (.ret (.bool true)) := by
  have hnil : V.row true true [] 0 none = R (true, true, none) eS [] := rfl
  refine outS_of_wp cfg (fn := Tryd.f9) Tryd.func9 rfl (by simp [Tryd.f9]) ?_
  simp (disch := first | assumption | omega | (simp; done) | (simp; omega)) [-getElem?_pos, List.getElem?_cons_zero, List.getElem?_cons_succ, Tryd.f9, emptyH]
  repeat' (first | (refine wpc_split _ (fun hc => ?_) (fun hc => ?_) <;> (try simp at hc)) | (refine ww_split _ (fun hc => ?_) (fun hc => ?_) <;> (try simp at hc)) | (refine wp_drawF (by kernel_rfl) ?_) | (refine wk_yldW _ ?_) | (refine layOwe _ (by kernel_rfl) ?_) | (refine owe ?_ (fun ho => ?_)) | (simp (config := { maxSteps := 2000000 }) (disch := first | assumption | omega | (simp; done) | (simp; omega)) [emptyH, hnil, foldS1, foldS2, foldS3, foldI1, foldI2, foldI3, al1, al2, al3, al4, al5, pr1, pr2, ac1, ac2, ac3, cA, cT, cT2, -getElem?_pos, List.getElem?_cons_zero, List.getElem?_cons_succ]))
  change wk cfg _ _ _ (Ci cfg (.func (.func 15) [] []) [.slice 0 0 65 1, R (true, true, none) eS []] ⟨[.cells (rows eS (List.replicate 65 []))], []⟩)
  rw [cP65]
  repeat' (first | (refine wpc_split _ (fun hc => ?_) (fun hc => ?_) <;> (try simp at hc)) | (refine ww_split _ (fun hc => ?_) (fun hc => ?_) <;> (try simp at hc)) | (refine wp_drawF (by kernel_rfl) ?_) | (refine wk_yldW _ ?_) | (refine layOwe _ (by kernel_rfl) ?_) | (refine owe ?_ (fun ho => ?_)) | (simp (config := { maxSteps := 2000000 }) (disch := first | assumption | omega | (simp; done) | (simp; omega)) [freezeB, foldI1, foldI2, foldI3, cT, cT2, -getElem?_pos, List.getElem?_cons_zero, List.getElem?_cons_succ]))
@[simp] theorem S9  (hh : Heap) : Ci cfg (.func (.func 9) [] []) [] hh = some (.ret (.bool true), hh) :=
  Ci_K cfg rfl rfl (by simp) (by simp) (C9 )
end Go.Ab
