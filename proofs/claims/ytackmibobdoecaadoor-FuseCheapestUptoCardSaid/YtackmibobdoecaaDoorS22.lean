/- Layer 22 (fuse): the examples. -/
import Derived.Test.YtackmibobdoecaaDoorH8
set_option linter.unusedVariables false
set_option linter.unusedSimpArgs false
set_option linter.unusedSectionVars false
set_option linter.deprecated false
namespace Go.Ab
open Go.Proofs
set_option maxRecDepth 100000
set_option maxHeartbeats 4000000
theorem foldS1 (p q : Bool) (tok : Option Nat) (x : List UInt8) : V.row p q [.str x] 1 tok = R (p, q, tok) eS [x] := rfl
theorem foldS2 (p q : Bool) (tok : Option Nat) (x y : List UInt8) : V.row p q [.str x, .str y] 2 tok = R (p, q, tok) eS [x, y] := rfl
theorem foldS4 (p q : Bool) (tok : Option Nat) (x y z w : List UInt8) : V.row p q [.str x, .str y, .str z, .str w] 4 tok = R (p, q, tok) eS [x, y, z, w] := rfl
theorem foldI1 (p q : Bool) (tok : Option Nat) (x : Int) : V.row p q [.int .i64 x] 1 tok = R (p, q, tok) eI [x] := rfl
abbrev wThe : Wd := [116, 104, 101]
abbrev wBig : Wd := [98, 105, 103]
abbrev wCat : Wd := [99, 97, 116]
abbrev wSat : Wd := [115, 97, 116]
abbrev wDown : Wd := [100, 111, 119, 110]
theorem a1 : alignF [] [wThe, wBig, wCat, wSat] = [4, 4, 4, 4] := by simp [alF_nc, alF_nn]
theorem a2 : alignF [wThe, wBig, wCat, wSat] [wThe, wCat, wSat, wDown] = [1, 3, 1, 1, 4] := by
  simp [alF_cc, alF_cn, alF_nc, alF_nn, lev_cc, lev_cn, lev_nc, lev_nn, cst]
  decide
theorem a3 : alignF [] [] = [] := alF_nn
theorem f1 : fuS [sayL [wThe, wBig, wCat, wSat], sayL [wThe, wCat, wSat, wDown]] = ([sayL [wThe, wThe], sayL [wBig, []], sayL [wCat, wCat], sayL [wSat, wSat], sayL [[], wDown]], 0) := by
  unfold fuS; rw [if_neg (by decide), if_pos (by kernel_rfl)]
  rw [goL_step (by decide)]
  have e1 : textsL [] = [] := rfl
  have e2 : saidL (sayL [wThe, wBig, wCat, wSat]) = [wThe, wBig, wCat, wSat] := rfl
  rw [e1, e2, a1]
  have e3 : putL 0 [4, 4, 4, 4] [] (sayL [wThe, wBig, wCat, wSat]) = [sayL [wThe], sayL [wBig], sayL [wCat], sayL [wSat]] := by kernel_rfl
  rw [e3, goL_step (by decide)]
  have e4 : textsL [sayL [wThe], sayL [wBig], sayL [wCat], sayL [wSat]] = [wThe, wBig, wCat, wSat] := by kernel_rfl
  have e5 : saidL (sayL [wThe, wCat, wSat, wDown]) = [wThe, wCat, wSat, wDown] := rfl
  rw [e4, e5, a2]
  rfl
theorem f2 : fuS [] = ([], 0) := by
  unfold fuS; rw [if_neg (by decide), if_pos (by kernel_rfl)]; rfl
theorem f3 : fuS [[], []] = ([], 0) := by
  unfold fuS; rw [if_neg (by decide), if_pos (by kernel_rfl)]
  rw [goL_step (by decide)]
  have e1 : textsL [] = [] := rfl
  have e2 : saidL [] = [] := rfl
  rw [e1, e2, a3]
  have e3 : putL 0 [] [] [] = [] := rfl
  rw [e3, goL_step (by decide), e1, e2, a3]; rfl
theorem f4 : fuS [sayL [[]]] = ([], 220) := by
  unfold fuS; rw [if_neg (by decide), if_neg]
  have : ([sayL [[]]] : List (List Cell)).all (fun r => r.all rightC) = false := by kernel_rfl
  rw [this]; decide
theorem f8 : fuS (List.replicate 17 []) = ([], 2) := by unfold fuS; exact if_pos (.inl (by decide))
theorem g5 : chR [[⟨wThe, []⟩, ⟨[97], []⟩, ⟨wThe, [[97]]⟩], [⟨[], []⟩, ⟨[120], []⟩, ⟨[], []⟩]] = (([wThe], [0]), 0) := by
  have h : ([[⟨wThe, []⟩, ⟨[97], []⟩, ⟨wThe, [[97]]⟩], [⟨[], []⟩, ⟨[120], []⟩, ⟨[], []⟩]] : List (List Cell)).any (badS (nth ([[⟨wThe, []⟩, ⟨[97], []⟩, ⟨wThe, [[97]]⟩], [⟨[], []⟩, ⟨[120], []⟩, ⟨[], []⟩]] : List (List Cell)) 0).length) = false := by kernel_rfl
  unfold chR; rw [if_neg (by decide), h, if_neg (by decide)]
  rfl
theorem g6 : chR [[⟨[], []⟩, ⟨[], []⟩]] = (([], []), 220) := by
  unfold chR; rw [if_neg (by decide), if_pos (by kernel_rfl)]
theorem g7 : chR [] = (([], []), 0) := by unfold chR; rw [if_neg (by decide), if_neg (by decide)]; rfl
abbrev fm : Fl := (false, true, none)
abbrev nilV : V := .row true true [] 0 none
theorem smL_of {L : List (List Cell)} (h : (decide (L.length < 1099511627776) && L.all fun y => decide (y.length < 1099511627776) && y.all fun c => decide (c.text.length < 1099511627776) && decide (c.alts.length < 1099511627776) && c.alts.all fun t => decide (t.length < 1099511627776)) = true) : smL L := by
  simp only [Bool.and_eq_true, decide_eq_true_eq, List.all_eq_true] at h
  exact ⟨h.1, fun y hy => ⟨(h.2 y hy).1, fun c hc => ⟨((h.2 y hy).2 c hc).1.1, ((h.2 y hy).2 c hc).1.2, ((h.2 y hy).2 c hc).2⟩⟩⟩
theorem cF (h : Heap) (v : V) (L : List (List Cell)) (hc : V.closed.closedL [v] = true) (hn : V.norm.normL [v] = [R fl0 (eR eC) L]) (hs : smL L) : Ci cfg (.func (.func 11) [] []) [v] h = some (.ret (.tuple [R fl0 (eR eC) (fuS L).1, .int .i64 (fuS L).2]), h) :=
  Ci_K cfg rfl rfl hc hn (C11 L hs)
theorem cC (h : Heap) (v : V) (L : List (List Cell)) (hc : V.closed.closedL [v] = true) (hn : V.norm.normL [v] = [R fl0 (eR eC) L]) (hs : smL L) : Ci cfg (.func (.func 14) [] []) [v] h = some (.ret (.tuple [R fl0 eS (chR L).1.1, R fl0 eI (chR L).1.2, .int .i64 (chR L).2]), h) :=
  Ci_K cfg rfl rfl hc hn (C14 L hs)
theorem k1 (h : Heap) : Ci cfg (.func (.func 11) [] []) [.row false true [R fl0 eC (sayL [wThe, wBig, wCat, wSat]), R fl0 eC (sayL [wThe, wCat, wSat, wDown])] 2 none] h = some (.ret (.tuple [R fl0 (eR eC) [sayL [wThe, wThe], sayL [wBig, []], sayL [wCat, wCat], sayL [wSat, wSat], sayL [[], wDown]], .int .i64 0]), h) := by
  have := cF h (.row false true [R fl0 eC (sayL [wThe, wBig, wCat, wSat]), R fl0 eC (sayL [wThe, wCat, wSat, wDown])] 2 none) [sayL [wThe, wBig, wCat, wSat], sayL [wThe, wCat, wSat, wDown]] (by kernel_rfl) (by kernel_rfl) (smL_of (by kernel_rfl))
  rw [f1] at this; exact this
theorem k2 (h : Heap) : Ci cfg (.func (.func 11) [] []) [nilV] h = some (.ret (.tuple [R fl0 (eR eC) [], .int .i64 0]), h) := by
  have := cF h nilV [] (by kernel_rfl) (by kernel_rfl) (smL_of (by kernel_rfl))
  rw [f2] at this; exact this
theorem k3 (h : Heap) : Ci cfg (.func (.func 11) [] []) [.row false true [nilV, nilV] 2 none] h = some (.ret (.tuple [R fl0 (eR eC) [], .int .i64 0]), h) := by
  have := cF h (.row false true [nilV, nilV] 2 none) [[], []] (by kernel_rfl) (by kernel_rfl) (smL_of (by kernel_rfl))
  rw [f3] at this; exact this
theorem k4 (h : Heap) : Ci cfg (.func (.func 11) [] []) [.row false true [R fl0 eC (sayL [[]])] 1 none] h = some (.ret (.tuple [R fl0 (eR eC) [], .int .i64 220]), h) := by
  have := cF h (.row false true [R fl0 eC (sayL [[]])] 1 none) [sayL [[]]] (by kernel_rfl) (by kernel_rfl) (smL_of (by kernel_rfl))
  rw [f4] at this; exact this
theorem k5 (h : Heap) : Ci cfg (.func (.func 14) [] []) [.row false true [.row false true [.str wThe, nilV, .str [97], nilV, .str wThe, R fm eS [[97]]] 3 none, .row false true [.str [], nilV, .str [120], nilV, .str [], nilV] 3 none] 2 none] h = some (.ret (.tuple [R fl0 eS [wThe], R fl0 eI [0], .int .i64 0]), h) := by
  have := cC h (.row false true [.row false true [.str wThe, nilV, .str [97], nilV, .str wThe, R fm eS [[97]]] 3 none, .row false true [.str [], nilV, .str [120], nilV, .str [], nilV] 3 none] 2 none) [[⟨wThe, []⟩, ⟨[97], []⟩, ⟨wThe, [[97]]⟩], [⟨[], []⟩, ⟨[120], []⟩, ⟨[], []⟩]] (by kernel_rfl) (by kernel_rfl) (smL_of (by kernel_rfl))
  rw [g5] at this; exact this
theorem k6 (h : Heap) : Ci cfg (.func (.func 14) [] []) [.row false true [.row false true [.str [], nilV, .str [], nilV] 2 none] 1 none] h = some (.ret (.tuple [R fl0 eS [], R fl0 eI [], .int .i64 220]), h) := by
  have := cC h (.row false true [.row false true [.str [], nilV, .str [], nilV] 2 none] 1 none) [[⟨[], []⟩, ⟨[], []⟩]] (by kernel_rfl) (by kernel_rfl) (smL_of (by kernel_rfl))
  rw [g6] at this; exact this
theorem k7 (h : Heap) : Ci cfg (.func (.func 14) [] []) [nilV] h = some (.ret (.tuple [R fl0 eS [], R fl0 eI [], .int .i64 0]), h) := by
  have := cC h nilV [] (by kernel_rfl) (by kernel_rfl) (smL_of (by kernel_rfl))
  rw [g7] at this; exact this
theorem k8 (h : Heap) : Ci cfg (.func (.func 11) [] []) [.row false true [nilV, nilV, nilV, nilV, nilV, nilV, nilV, nilV, nilV, nilV, nilV, nilV, nilV, nilV, nilV, nilV, nilV] 17 none] h = some (.ret (.tuple [R fl0 (eR eC) [], .int .i64 2]), h) := by
  have := cF h (.row false true [nilV, nilV, nilV, nilV, nilV, nilV, nilV, nilV, nilV, nilV, nilV, nilV, nilV, nilV, nilV, nilV, nilV] 17 none) (List.replicate 17 []) (by kernel_rfl) (by kernel_rfl) (smL_of (by kernel_rfl))
  rw [f8] at this; exact this
theorem k9 (h : Heap) : Ci cfg (.func (.func 13) [] []) [R fl0 (eR eC) [sayL [wThe, wThe], sayL [wBig, []], sayL [wCat, wCat], sayL [wSat, wSat], sayL [[], wDown]], .row false true [R fl0 eC (sayL [wThe, wThe]), R fl0 eC (sayL [wBig, []]), R fl0 eC (sayL [wCat, wCat]), R fl0 eC (sayL [wSat, wSat]), R fl0 eC (sayL [[], wDown])] 5 none] h = some (.ret (.bool true), h) := by
  have := Ci_K cfg (h := h) (args := [R fl0 (eR eC) [sayL [wThe, wThe], sayL [wBig, []], sayL [wCat, wCat], sayL [wSat, wSat], sayL [[], wDown]], .row false true [R fl0 eC (sayL [wThe, wThe]), R fl0 eC (sayL [wBig, []]), R fl0 eC (sayL [wCat, wCat]), R fl0 eC (sayL [wSat, wSat]), R fl0 eC (sayL [[], wDown])] 5 none]) rfl rfl (by kernel_rfl) (by kernel_rfl) (C13 [sayL [wThe, wThe], sayL [wBig, []], sayL [wCat, wCat], sayL [wSat, wSat], sayL [[], wDown]] [sayL [wThe, wThe], sayL [wBig, []], sayL [wCat, wCat], sayL [wSat, wSat], sayL [[], wDown]] (smL_of (by kernel_rfl)))
  simpa using this
theorem C9  : Kc cfg 9 [] (.ret (.bool true)) := by
  refine outS_of_wp cfg (fn := Tryd.f9) Tryd.func9 rfl (by simp [Tryd.f9]) ?_
  simp (disch := first | assumption | omega | (simp; done) | (simp; omega)) [-getElem?_pos, List.getElem?_cons_zero, List.getElem?_cons_succ, Tryd.f9, emptyH]
  repeat' (first | (refine wpc_split _ (fun hc => ?_) (fun hc => ?_) <;> (try simp at hc)) | (refine ww_split _ (fun hc => ?_) (fun hc => ?_) <;> (try simp at hc)) | (refine wp_drawF (by kernel_rfl) ?_) | (refine wk_yldW _ ?_) | (refine layOwe _ (by kernel_rfl) ?_) | (refine owe ?_ (fun ho => ?_)) | (simp (config := { maxSteps := 2000000 }) (disch := first | assumption | omega | (simp; done) | (simp; omega)) [emptyH, foldS1, foldS2, foldS4, foldI1, k1, k2, k3, k4, k5, k6, k7, k8, k9, -getElem?_pos, List.getElem?_cons_zero, List.getElem?_cons_succ]))
@[simp] theorem S9  (hh : Heap) : Ci cfg (.func (.func 9) [] []) [] hh = some (.ret (.bool true), hh) :=
  Ci_K cfg rfl rfl (by simp) (by simp) (C9 )
end Go.Ab
