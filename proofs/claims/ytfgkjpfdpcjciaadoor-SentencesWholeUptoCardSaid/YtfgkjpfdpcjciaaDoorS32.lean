/- Layer 32 (sentences): the examples. -/
import Derived.Test.YtfgkjpfdpcjciaaDoorW9
set_option linter.unusedVariables false
set_option linter.unusedSimpArgs false
set_option linter.unusedSectionVars false
set_option linter.deprecated false
namespace Go.Ab
open Go.Proofs
set_option maxRecDepth 100000
set_option maxHeartbeats 4000000
theorem enS_sm {w : List Wrd} {gap most : Int} (hs : w.length < 1099511627776) : (enS w gap most).length < 1099511627776 := by
  unfold enS
  split
  · have := endsW_len w gap most w.length; omega
  · simp
theorem C18 (w : List Wrd) (gap most : Int) (want : List Int) (hs : smXs w) : Kc cfg 18 [R fl0 eW w, .int .i64 gap, .int .i64 most, R fl0 eI want] (.ret (.bool (decide (erS w gap most = 0) && decide (enS w gap most = want)))) := by
  have hl := enS_sm (gap := gap) (most := most) hs.1
  by_cases he : erS w gap most = 0
  · rw [decide_eq_true he]
    refine outS_of_wp cfg (fn := Tryd.f18) Tryd.func18 rfl (by simp [Tryd.f18]) ?_
    simp (disch := first | assumption | omega | (simp; done) | (simp; omega)) [-getElem?_pos, List.getElem?_cons_zero, List.getElem?_cons_succ, Tryd.f18, hs, he, hl, emptyH]
    repeat' (first | (refine wpc_split _ (fun hc => ?_) (fun hc => ?_) <;> (try simp at hc)) | (refine ww_split _ (fun hc => ?_) (fun hc => ?_) <;> (try simp at hc)) | (refine wp_drawF (by kernel_rfl) ?_) | (refine wk_yldW _ ?_) | (refine layOwe _ (by kernel_rfl) ?_) | (refine owe ?_ (fun ho => ?_)) | (simp (disch := first | assumption | omega | (simp; done) | (simp; omega)) [hs, he, hl, emptyH, -getElem?_pos, List.getElem?_cons_zero, List.getElem?_cons_succ]))
    all_goals first | rfl | (exfalso; omega)
  · rw [decide_eq_false he]
    refine outS_of_wp cfg (fn := Tryd.f18) Tryd.func18 rfl (by simp [Tryd.f18]) ?_
    simp (disch := first | assumption | omega | (simp; done) | (simp; omega)) [-getElem?_pos, List.getElem?_cons_zero, List.getElem?_cons_succ, Tryd.f18, hs, he, hl, emptyH]
    repeat' (first | (refine wpc_split _ (fun hc => ?_) (fun hc => ?_) <;> (try simp at hc)) | (refine ww_split _ (fun hc => ?_) (fun hc => ?_) <;> (try simp at hc)) | (refine wp_drawF (by kernel_rfl) ?_) | (refine wk_yldW _ ?_) | (refine layOwe _ (by kernel_rfl) ?_) | (refine owe ?_ (fun ho => ?_)) | (simp (disch := first | assumption | omega | (simp; done) | (simp; omega)) [hs, he, hl, emptyH, -getElem?_pos, List.getElem?_cons_zero, List.getElem?_cons_succ]))
    all_goals first | rfl | (exfalso; omega)
@[simp] theorem S18 (w : List Wrd) (gap most : Int) (want : List Int) (hs : smXs w) (q1 q2 : Fl) (hh : Heap) : Ci cfg (.func (.func 18) [] []) [R  q1 eW w, .int .i64 gap, .int .i64 most, R  q2 eI want] hh = some (.ret (.bool (decide (erS w gap most = 0) && decide (enS w gap most = want))), hh) :=
  Ci_K cfg rfl rfl (by simp) (by simp) (C18 w gap most want hs)
theorem C19 (w : List Wrd) (gap most t want : Int) (hs : smXs w) : Kc cfg 19 [R fl0 eW w, .int .i64 gap, .int .i64 most, .int .i64 t, .int .i64 want] (.ret (.bool (decide ((clS w gap most t).2 = 0) && decide (((clS w gap most t).1 : Int) = want)))) := by
  by_cases he : (clS w gap most t).2 = 0
  · rw [decide_eq_true he]
    by_cases h2 : ((clS w gap most t).1 : Int) = want
    · rw [decide_eq_true h2]
      refine outS_of_wp cfg (fn := Tryd.f19) Tryd.func19 rfl (by simp [Tryd.f19]) ?_
      simp (disch := first | assumption | omega | (simp; done) | (simp; omega)) [-getElem?_pos, List.getElem?_cons_zero, List.getElem?_cons_succ, Tryd.f19, hs, he, h2, emptyH]
      repeat' (first | (refine wpc_split _ (fun hc => ?_) (fun hc => ?_) <;> (try simp at hc)) | (refine ww_split _ (fun hc => ?_) (fun hc => ?_) <;> (try simp at hc)) | (refine wp_drawF (by kernel_rfl) ?_) | (refine wk_yldW _ ?_) | (refine layOwe _ (by kernel_rfl) ?_) | (refine owe ?_ (fun ho => ?_)) | (simp (disch := first | assumption | omega | (simp; done) | (simp; omega)) [hs, he, h2, emptyH, -getElem?_pos, List.getElem?_cons_zero, List.getElem?_cons_succ]))
      all_goals first | rfl | (exfalso; omega)
    · rw [decide_eq_false h2]
      refine outS_of_wp cfg (fn := Tryd.f19) Tryd.func19 rfl (by simp [Tryd.f19]) ?_
      simp (disch := first | assumption | omega | (simp; done) | (simp; omega)) [-getElem?_pos, List.getElem?_cons_zero, List.getElem?_cons_succ, Tryd.f19, hs, he, h2, emptyH]
      repeat' (first | (refine wpc_split _ (fun hc => ?_) (fun hc => ?_) <;> (try simp at hc)) | (refine ww_split _ (fun hc => ?_) (fun hc => ?_) <;> (try simp at hc)) | (refine wp_drawF (by kernel_rfl) ?_) | (refine wk_yldW _ ?_) | (refine layOwe _ (by kernel_rfl) ?_) | (refine owe ?_ (fun ho => ?_)) | (simp (disch := first | assumption | omega | (simp; done) | (simp; omega)) [hs, he, h2, emptyH, -getElem?_pos, List.getElem?_cons_zero, List.getElem?_cons_succ]))
      all_goals first | rfl | (exfalso; omega)
  · rw [decide_eq_false he]
    refine outS_of_wp cfg (fn := Tryd.f19) Tryd.func19 rfl (by simp [Tryd.f19]) ?_
    simp (disch := first | assumption | omega | (simp; done) | (simp; omega)) [-getElem?_pos, List.getElem?_cons_zero, List.getElem?_cons_succ, Tryd.f19, hs, he, emptyH]
    repeat' (first | (refine wpc_split _ (fun hc => ?_) (fun hc => ?_) <;> (try simp at hc)) | (refine ww_split _ (fun hc => ?_) (fun hc => ?_) <;> (try simp at hc)) | (refine wp_drawF (by kernel_rfl) ?_) | (refine wk_yldW _ ?_) | (refine layOwe _ (by kernel_rfl) ?_) | (refine owe ?_ (fun ho => ?_)) | (simp (disch := first | assumption | omega | (simp; done) | (simp; omega)) [hs, he, emptyH, -getElem?_pos, List.getElem?_cons_zero, List.getElem?_cons_succ]))
    all_goals first | rfl | (exfalso; omega)
@[simp] theorem S19 (w : List Wrd) (gap most t want : Int) (hs : smXs w) (q1 : Fl) (hh : Heap) : Ci cfg (.func (.func 19) [] []) [R  q1 eW w, .int .i64 gap, .int .i64 most, .int .i64 t, .int .i64 want] hh = some (.ret (.bool (decide ((clS w gap most t).2 = 0) && decide (((clS w gap most t).1 : Int) = want))), hh) :=
  Ci_K cfg rfl rfl (by simp) (by simp) (C19 w gap most t want hs)
theorem C17 (t : List UInt8) (f u : Int) : Kc cfg 17 [.str t, .int .i64 f, .int .i64 u] (.ret (.agg [.str t, .int .i64 f, .int .i64 u, .int .i64 0, R fl0 eS []])) := by
  refine outS_of_wp cfg (fn := Tryd.f17) Tryd.func17 rfl (by simp [Tryd.f17]) ?_
  simp (disch := first | assumption | omega | (simp; done) | (simp; omega)) [-getElem?_pos, List.getElem?_cons_zero, List.getElem?_cons_succ, Tryd.f17, emptyH]
  repeat' (first | (refine wpc_split _ (fun hc => ?_) (fun hc => ?_) <;> (try simp at hc)) | (refine ww_split _ (fun hc => ?_) (fun hc => ?_) <;> (try simp at hc)) | (refine wp_drawF (by kernel_rfl) ?_) | (refine wk_yldW _ ?_) | (refine layOwe _ (by kernel_rfl) ?_) | (refine owe ?_ (fun ho => ?_)) | (simp (disch := first | assumption | omega | (simp; done) | (simp; omega)) [emptyH, -getElem?_pos, List.getElem?_cons_zero, List.getElem?_cons_succ]))
  all_goals first | rfl | (simp [R]; done)
@[simp] theorem S17 (t : List UInt8) (f u : Int) (hh : Heap) : Ci cfg (.func (.func 17) [] []) [.str t, .int .i64 f, .int .i64 u] hh = some (.ret (.agg [.str t, .int .i64 f, .int .i64 u, .int .i64 0, R fl0 eS []]), hh) :=
  Ci_K cfg rfl rfl (by simp) (by simp) (C17 t f u)
theorem foldI1 (p q : Bool) (tok : Option Nat) (x : Int) : V.row p q [.int .i64 x] 1 tok = R (p, q, tok) eI [x] := rfl
theorem foldI2 (p q : Bool) (tok : Option Nat) (x y : Int) : V.row p q [.int .i64 x, .int .i64 y] 2 tok = R (p, q, tok) eI [x, y] := rfl
theorem foldW2 (p q : Bool) (tok : Option Nat) (t t2 : List UInt8) (f u s f2 u2 s2 : Int) (a a2 : List (List UInt8)) : V.row p q [.str t, .int .i64 f, .int .i64 u, .int .i64 s, R fl0 eS a, .str t2, .int .i64 f2, .int .i64 u2, .int .i64 s2, R fl0 eS a2] 2 tok = R (p, q, tok) eW [⟨t, f, u, s, a⟩, ⟨t2, f2, u2, s2, a2⟩] := rfl
theorem foldW3 (p q : Bool) (tok : Option Nat) (t t2 t3 : List UInt8) (f u s f2 u2 s2 f3 u3 s3 : Int) (a a2 a3 : List (List UInt8)) : V.row p q [.str t, .int .i64 f, .int .i64 u, .int .i64 s, R fl0 eS a, .str t2, .int .i64 f2, .int .i64 u2, .int .i64 s2, R fl0 eS a2, .str t3, .int .i64 f3, .int .i64 u3, .int .i64 s3, R fl0 eS a3] 3 tok = R (p, q, tok) eW [⟨t, f, u, s, a⟩, ⟨t2, f2, u2, s2, a2⟩, ⟨t3, f3, u3, s3, a3⟩] := rfl
abbrev fm : Fl := (false, true, none)
abbrev nilV : V := .row true true [] 0 none
abbrev w0 : Wrd := ⟨[], 0, 0, 0, []⟩
abbrev two : List Wrd := [⟨[97], 0, 5, 0, []⟩, ⟨[98], 7, 9, 0, []⟩]
abbrev oth : List Wrd := [⟨[97], 0, 5, 0, []⟩, ⟨[98], 7, 9, 1, []⟩]
abbrev yes : List Wrd := [⟨[89, 101, 115, 46], 0, 5, 0, []⟩, ⟨[87, 101], 5, 6, 0, []⟩, ⟨[99, 97, 110], 6, 9, 0, []⟩]
theorem zw_flat (n : Nat) : V.norm.normL ((List.replicate n [V.str [], V.int .i64 0, V.int .i64 0, V.int .i64 0, nilV]).flatten) = rows eW (List.replicate n w0) ∧ V.closed.closedL ((List.replicate n [V.str [], V.int .i64 0, V.int .i64 0, V.int .i64 0, nilV]).flatten) = true := by
  induction n with
  | zero => exact ⟨rfl, rfl⟩
  | succ n ih =>
    rw [List.replicate_succ, List.flatten_cons, List.replicate_succ, rows_cons]
    refine ⟨?_, ?_⟩
    · rw [normL_append, ih.1]; rfl
    · rw [closedL_append, ih.2]; rfl
theorem smXs_of {L : List Wrd} (h : (decide (L.length < 1099511627776) && L.all fun c => decide (c.text.length < 1099511627776) && decide (c.alts.length < 1099511627776) && c.alts.all fun t => decide (t.length < 1099511627776)) = true) : smXs L := by
  simp only [Bool.and_eq_true, decide_eq_true_eq, List.all_eq_true] at h
  exact ⟨h.1, fun c hc => ⟨(h.2 c hc).1.1, (h.2 c hc).1.2, (h.2 c hc).2⟩⟩
theorem kBig (h : Heap) : Ci cfg (.func (.func 10) [] []) [.row false true (List.replicate 4097 [V.str [], V.int .i64 0, V.int .i64 0, V.int .i64 0, nilV]).flatten 4097 none, .int .i64 0, .int .i64 0] h = some (.ret (.tuple [R fl0 eI [], .int .i64 2]), h) := by
  have h1 : erS (List.replicate 4097 w0) 0 0 = 2 := erS_many (by rw [List.length_replicate]; decide)
  have h2 : enS (List.replicate 4097 w0) 0 0 = [] := enS_no (by rw [h1]; decide)
  have hK := C10 (List.replicate 4097 w0) 0 0 ⟨by rw [List.length_replicate]; decide, fun x hx => by rw [(List.mem_replicate.1 hx).2]; exact ⟨by decide, by decide, by simp⟩⟩
  rw [h1, h2] at hK
  obtain ⟨z1, z2⟩ := zw_flat 4097
  refine Ci_K cfg rfl rfl ?_ ?_ hK
  · show (V.closed.closedL _ && _) = true
    rw [z2]; rfl
  · show V.row false false (V.norm.normL _) 4097 none :: _ = _
    rw [z1]
    unfold R
    rw [List.length_replicate]; rfl
theorem kOne (h : Heap) : Ci cfg (.func (.func 10) [] []) [.row false true [.str [], .int .i64 0, .int .i64 0, .int .i64 0, nilV] 1 none, .int .i64 0, .int .i64 0] h = some (.ret (.tuple [R fl0 eI [], .int .i64 170]), h) := by
  have h1 : erS [w0] 0 0 = 170 := by kernel_rfl
  have h2 : enS [w0] 0 0 = [] := enS_no (by rw [h1]; decide)
  have hK := C10 [w0] 0 0 (smXs_of (by kernel_rfl))
  rw [h1, h2] at hK
  exact Ci_K cfg rfl rfl (by kernel_rfl) (by kernel_rfl) hK
theorem kNil (h : Heap) (gap most : Int) : Ci cfg (.func (.func 10) [] []) [nilV, .int .i64 gap, .int .i64 most] h = some (.ret (.tuple [R fl0 eI (enS [] gap most), .int .i64 (erS [] gap most)]), h) :=
  Ci_K cfg rfl rfl rfl rfl (C10 [] gap most (smXs_of (by kernel_rfl)))
theorem kNilC (h : Heap) (gap most t : Int) : Ci cfg (.func (.func 12) [] []) [nilV, .int .i64 gap, .int .i64 most, .int .i64 t] h = some (.ret (.tuple [.int .i64 (clS [] gap most t).1, .int .i64 (clS [] gap most t).2]), h) :=
  Ci_K cfg rfl rfl rfl rfl (C12 [] gap most t (smXs_of (by kernel_rfl)))
theorem kNilE (h : Heap) (gap most : Int) : Ci cfg (.func (.func 18) [] []) [nilV, .int .i64 gap, .int .i64 most, nilV] h = some (.ret (.bool (decide (erS [] gap most = 0) && decide (enS [] gap most = []))), h) :=
  Ci_K cfg rfl rfl rfl rfl (C18 [] gap most [] (smXs_of (by kernel_rfl)))
theorem kNilK (h : Heap) (gap most t want : Int) : Ci cfg (.func (.func 19) [] []) [nilV, .int .i64 gap, .int .i64 most, .int .i64 t, .int .i64 want] h = some (.ret (.bool (decide ((clS [] gap most t).2 = 0) && decide (((clS [] gap most t).1 : Int) = want))), h) :=
  Ci_K cfg rfl rfl rfl rfl (C19 [] gap most t want (smXs_of (by kernel_rfl)))
theorem kOth (ts : List (Option Nat)) : Ci cfg (.func (.func 18) [] []) [.slice 0 0 2 5, .int .i64 99, .int .i64 16, R fm eI [1, 2]] ⟨[.cells (rows eW oth)], ts⟩ = some (.ret (.bool true), ⟨[.frozen (rows eW oth)], ts⟩) := by
  have hK := C18 oth 99 16 [1, 2] (smXs_of (by kernel_rfl))
  have e : (decide (erS oth 99 16 = 0) && decide (enS oth 99 16 = [1, 2])) = true := by kernel_rfl
  rw [e] at hK
  exact Ci_K2 cfg rfl rfl rfl hK
theorem kOth2 (ts : List (Option Nat)) : Ci cfg (.func (.func 18) [] []) [.slice 0 0 2 5, .int .i64 99, .int .i64 16, R fm eI [1, 2]] ⟨[.cells [.str [97], .int .i64 0, .int .i64 5, .int .i64 0, R fl0 eS [], .str [98], .int .i64 7, .int .i64 9, .int .i64 1, R fl0 eS []]], ts⟩ = some (.ret (.bool true), ⟨[.frozen [.str [97], .int .i64 0, .int .i64 5, .int .i64 0, R fl0 eS [], .str [98], .int .i64 7, .int .i64 9, .int .i64 1, R fl0 eS []]], ts⟩) := kOth ts
theorem smTwo : smXs two := smXs_of (by kernel_rfl)
theorem smYes : smXs yes := smXs_of (by kernel_rfl)
theorem e1 : erS [] 0 1 = 1 := by kernel_rfl
theorem e2 : erS [] 1 17 = 1 := by kernel_rfl
theorem e3 : clS [] 1 1 (-1) = (0, 1) := by kernel_rfl
theorem e4 : (decide (erS [] 1 1 = 0) && decide (enS [] 1 1 = [])) = true := by kernel_rfl
theorem e5 : (decide (erS two 3 2 = 0) && decide (enS two 3 2 = [2])) = true := by kernel_rfl
theorem e6 : (decide (erS two 2 2 = 0) && decide (enS two 2 2 = [1, 2])) = true := by kernel_rfl
theorem e7 : (decide (erS two 3 1 = 0) && decide (enS two 3 1 = [1, 2])) = true := by kernel_rfl
theorem e8 : (decide (erS yes 4 16 = 0) && decide (enS yes 4 16 = [1, 3])) = true := by kernel_rfl
theorem e9 : (decide ((clS [] 1 1 0).2 = 0) && decide (((clS [] 1 1 0).1 : Int) = 0)) = true := by kernel_rfl
theorem e10 : (decide ((clS yes 4 16 12).2 = 0) && decide (((clS yes 4 16 12).1 : Int) = 1)) = true := by kernel_rfl
theorem e11 : (decide ((clS yes 4 16 13).2 = 0) && decide (((clS yes 4 16 13).1 : Int) = 2)) = true := by kernel_rfl
theorem e12 : (decide ((clS yes 4 2 0).2 = 0) && decide (((clS yes 4 2 0).1 : Int) = 2)) = true := by kernel_rfl
theorem cTwo (h : Heap) (gap most : Int) (want : List Int) (b : Bool) (hb : (decide (erS two gap most = 0) && decide (enS two gap most = want)) = b) : Ci cfg (.func (.func 18) [] []) [R fm eW two, .int .i64 gap, .int .i64 most, R fm eI want] h = some (.ret (.bool b), h) := by
  have := S18 two gap most want smTwo (q1 := fm) (q2 := fm) (hh := h)
  rw [hb] at this; exact this
theorem cYes (h : Heap) (gap most : Int) (want : List Int) (b : Bool) (hb : (decide (erS yes gap most = 0) && decide (enS yes gap most = want)) = b) : Ci cfg (.func (.func 18) [] []) [R fm eW yes, .int .i64 gap, .int .i64 most, R fm eI want] h = some (.ret (.bool b), h) := by
  have := S18 yes gap most want smYes (q1 := fm) (q2 := fm) (hh := h)
  rw [hb] at this; exact this
theorem dYes (h : Heap) (gap most t want : Int) (b : Bool) (hb : (decide ((clS yes gap most t).2 = 0) && decide (((clS yes gap most t).1 : Int) = want)) = b) : Ci cfg (.func (.func 19) [] []) [R fm eW yes, .int .i64 gap, .int .i64 most, .int .i64 t, .int .i64 want] h = some (.ret (.bool b), h) := by
  have := S19 yes gap most t want smYes (q1 := fm) (hh := h)
  rw [hb] at this; exact this
theorem C8  : Kc cfg 8 [] (.ret (.bool true)) := by
  have a1 := fun h => kNil h 0 1
  have a2 := fun h => kNil h 1 17
  have a3 := fun h => kNilC h 1 1 (-1)
  have a4 := fun h => kNilE h 1 1
  have a9 := fun h => kNilK h 1 1 0 0
  rw [e1] at a1
  rw [e2] at a2
  rw [e3] at a3
  rw [e4] at a4
  rw [e9] at a9
  have a5 := fun h => cTwo h 3 2 [2] true e5
  have a6 := fun h => cTwo h 2 2 [1, 2] true e6
  have a7 := fun h => cTwo h 3 1 [1, 2] true e7
  have a8 := fun h => cYes h 4 16 [1, 3] true e8
  have a10 := fun h => dYes h 4 16 12 1 true e10
  have a11 := fun h => dYes h 4 16 13 2 true e11
  have a12 := fun h => dYes h 4 2 0 2 true e12
  have hr2 : ∀ v : V, List.replicate 2 v = [v, v] := fun _ => rfl
  refine outS_of_wp cfg (fn := Tryd.f8) Tryd.func8 rfl (by simp [Tryd.f8]) ?_
  simp (disch := first | assumption | omega | (simp; done) | (simp; omega)) [-getElem?_pos, List.getElem?_cons_zero, List.getElem?_cons_succ, Tryd.f8, emptyH]
  repeat' (first | (refine wpc_split _ (fun hc => ?_) (fun hc => ?_) <;> (try simp at hc)) | (refine ww_split _ (fun hc => ?_) (fun hc => ?_) <;> (try simp at hc)) | (refine wp_drawF (by kernel_rfl) ?_) | (refine wk_yldW _ ?_) | (refine layOwe _ (by kernel_rfl) ?_) | (refine owe ?_ (fun ho => ?_)) | (simp (config := { maxSteps := 2000000 }) (disch := first | assumption | omega | (simp; done) | (simp; omega)) [emptyH, -List.reduceReplicate, hr2, foldI1, foldI2, foldW2, foldW3, kBig, kOne, kOth2, a1, a2, a3, a4, a5, a6, a7, a8, a9, a10, a11, a12, -getElem?_pos, List.getElem?_cons_zero, List.getElem?_cons_succ]))
@[simp] theorem S8  (hh : Heap) : Ci cfg (.func (.func 8) [] []) [] hh = some (.ret (.bool true), hh) :=
  Ci_K cfg rfl rfl (by simp) (by simp) (C8 )
end Go.Ab
