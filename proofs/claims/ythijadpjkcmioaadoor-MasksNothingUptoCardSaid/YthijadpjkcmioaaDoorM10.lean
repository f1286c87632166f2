/- MasksNothing: the law's function. -/
import Derived.Test.YthijadpjkcmioaaDoorM8
set_option linter.unusedVariables false
set_option linter.unusedSimpArgs false
set_option linter.unusedSectionVars false
set_option linter.deprecated false
namespace Go.Ab
open Go.Proofs
set_option maxRecDepth 100000
set_option maxHeartbeats 4000000
theorem rowsT_text (L : List Target) (i : Nat) (t : List UInt8) (h : i < L.length) : (rows eT L).set (i * 3) (.str t) = rows eT (L.set i ⟨t, (nth L i).deps, (nth L i).term⟩) := by
  induction L generalizing i with
  | nil => simp at h
  | cons y L ih => cases i with
    | zero => rfl
    | succ i =>
      simp only [List.length_cons] at h
      have := ih i (by omega)
      simp only [rows_cons, List.set_cons_succ, nth_succ]
      rw [← this, show (i + 1) * 3 = (eT y).length + i * 3 by simp [eT]; omega, List.set_append_right _ _ (by omega), Nat.add_sub_cancel_left]
theorem handV_SR {α β : Type} {E : α → List V} {E' : β → List V} {sz n : Nat} [EncP E] [EncC E n] [EncP E'] [hE' : EncC E' sz] {h : Heap} {fl : Fl} {l : List α} {L : List β} {a : Nat} (hb : h.bs[a]? = some (.cells (rows E' L))) :
    handV h [.slice a 0 L.length sz, R fl E l] = some ([R fl0 E' L, R fl0 E l], freezeB h a) := by
  have hc : V.closed.closedL [V.slice a 0 L.length sz, R fl E l] = false := by simp [V.closed.closedL, V.closed]
  unfold handV
  rw [if_neg (by rw [hc]; decide)]
  have hr : [V.slice a 0 L.length sz, R fl E l].flatMap (reachN h 8) = [a] := by
    simp only [List.flatMap_cons, List.flatMap_nil, List.append_nil]
    have h1 : reachN h 8 (R fl E l) = [] := R_reach _ _ _
    have h2 : reachN h 8 (V.slice a 0 L.length sz) = [a] := by
      show a :: (match h.bs[a]? with | some (.cells cs) | some (.frozen cs) => cs.flatMap (reachN h 7) | _ => []) = [a]
      rw [hb]; simp only; rw [flat_reach]
    rw [h1, h2]; rfl
  rw [hr]
  have ha : a < h.bs.length := (List.getElem?_eq_some_iff.1 hb).1
  have hf : freezeAll h [a] = freezeB h a := rfl
  have hfb : (freezeB h a).bs[a]? = some (.frozen (rows E' L)) := by
    unfold freezeB; rw [hb]; simp [ha]
  rw [hf]
  have p1 : pureN (freezeB h a) 8 (R fl E l) = some (R fl0 E l) := R_pure _ _ _ _
  have p2 : pureN (freezeB h a) 8 (V.slice a 0 L.length sz) = some (R fl0 E' L) := by
    show pure1 (pureN (freezeB h a) 7) (freezeB h a) (V.slice a 0 L.length sz) = _
    rw [pure1, hfb]
    simp only [Nat.zero_add, List.drop_zero]
    rw [if_pos (by rw [rows_length]; exact Nat.le_refl _), List.take_of_length_le (by rw [rows_length]; exact Nat.le_refl _), map_pure]
    rfl
  simp [pure1.mapO, p1, p2]
theorem S10c (l : List Target) (v : List Int) (hs : l.length < 1099511627776 ∧ v.length < 1099511627776) (hl : ∀ x ∈ l, x.text.length < 1099511627776 ∧ x.deps.length < 1099511627776) (q : Fl) (h : Heap) (n : Nat) (hn : n = l.length) (hb : h.bs[0]? = some (.cells (rows eT l))) :
    Ci cfg (.func (.func 10) [] []) [.slice 0 0 n 3, R q eI v] h = some (.ret (.tuple [R fl0 eM (maskS l v).1, .int .i64 (maskS l v).2]), freezeB h 0) := by
  subst hn
  exact Ci_K2 cfg rfl rfl (handV_SR (h := h) (a := 0) hb) (C10 l v hs hl)
/-- the words with other texts, where the verdict allows it -/
def swapT (v : List Int) (x y : Target) : Prop := y.deps = x.deps ∧ y.term = x.term ∧ (y.text = x.text ∨ vd v x.deps ≠ 0 ∧ wordS y.text = true ∧ y.text.length < 1099511627776)
def swapL (v : List Int) (l L : List Target) : Prop := L.length = l.length ∧ ∀ i, i < l.length → swapT v (nth l i) (nth L i)
theorem swap_mark {v : List Int} {x y : Target} (h : swapT v x y) : markS v y = markS v x := by
  obtain ⟨h1, h2, h3⟩ := h
  unfold markS
  rw [h1]
  rcases h3 with h3 | h3
  · rw [h3]
  · rw [if_neg h3.1, if_neg h3.1]
theorem swap_map {v : List Int} {l L : List Target} (h : swapL v l L) : L.map (markS v) = l.map (markS v) := by
  apply ext_nth
  · simp [h.1]
  · intro i hi
    simp at hi
    have h1 : i < l.length := by rw [← h.1]; exact hi
    have := swap_mark (h.2 i h1)
    simpa [nth, hi, h1] using this
theorem swap_err {v : List Int} {l L : List Target} (h : swapL v l L) (he : errS l v = 0) : errS L v = 0 := by
  have h1 := errS_in he
  have ha : L.all (fun x => rightS x.text x.deps v.length) = true := by
    rw [List.all_eq_true]
    intro y hy
    obtain ⟨i, hi, rfl⟩ := List.mem_iff_getElem.1 hy
    have hil : i < l.length := by rw [← h.1]; exact hi
    obtain ⟨e1, e2, e3⟩ := h.2 i hil
    rw [nth_eq hi] at e1 e2 e3
    have hr := (h1.2.2 _ (nth_mem hil)).1
    unfold rightS at hr ⊢
    simp only [Bool.and_eq_true] at hr ⊢
    rw [e1]
    refine ⟨hr.1, ?_⟩
    rcases e3 with e3 | e3
    · rw [e3]; exact hr.2
    · exact e3.2.1
  rw [errS_short (by rw [h.1]; exact h1.1), h1.2.1, ha]; rfl
theorem swap_len {v : List Int} {l L : List Target} (h : swapL v l L) (hl : ∀ x ∈ l, x.text.length < 1099511627776 ∧ x.deps.length < 1099511627776) : ∀ x ∈ L, x.text.length < 1099511627776 ∧ x.deps.length < 1099511627776 := by
  intro y hy
  obtain ⟨i, hi, rfl⟩ := List.mem_iff_getElem.1 hy
  have hil : i < l.length := by rw [← h.1]; exact hi
  obtain ⟨e1, e2, e3⟩ := h.2 i hil
  rw [nth_eq hi] at e1 e2 e3
  have h2 := hl _ (nth_mem hil)
  rw [e1]
  refine ⟨?_, h2.2⟩
  rcases e3 with e3 | e3
  · rw [e3]; exact h2.1
  · exact e3.2.2
theorem C4 (l : List Target) (v : List Int) (other : List (List UInt8)) (hs : l.length < 1099511627776 ∧ v.length < 1099511627776) (hl : ∀ x ∈ l, x.text.length < 1099511627776 ∧ x.deps.length < 1099511627776) (ho : other.length < 1099511627776) (hol : ∀ x ∈ other, x.length < 1099511627776) : Kc cfg 4 [R fl0 eT l, R fl0 eI v, R fl0 eS other] (.ret (.bool true)) := by
  by_cases hsm : smallS l v = false
  · skip
    refine outS_of_wp cfg (fn := Tryd.f4) Tryd.func4 rfl (by simp [Tryd.f4]) ?_
    simp (disch := first | assumption | omega | (simp; done) | (simp; omega)) [-getElem?_pos, List.getElem?_cons_zero, List.getElem?_cons_succ, Tryd.f4, hsm]
    repeat' (first | (refine wpc_split _ (fun hc => ?_) (fun hc => ?_) <;> (try simp at hc)) | (refine ww_split _ (fun hc => ?_) (fun hc => ?_) <;> (try simp at hc)) | (refine wp_drawF (by kernel_rfl) ?_) | (refine wk_yldW _ ?_) | (refine layOwe _ (by kernel_rfl) ?_) | (refine owe ?_ (fun ho => ?_)) | (simp (disch := first | assumption | omega | (simp; done) | (simp; omega)) [hsm, -getElem?_pos, List.getElem?_cons_zero, List.getElem?_cons_succ]))
  have hsm : smallS l v = true := by simpa using hsm
  have hsm2 := hsm
  unfold smallS at hsm2
  simp only [Bool.and_eq_true, decide_eq_true_eq] at hsm2
  have he := hsm2.2
  have hin := errS_in he
  have hm := maskS_ok he
  have hd : ∀ x ∈ l.map (markS v), x.deps.length < 1099511627776 := by
    have := maskS_deps (v := v) hl
    rw [hm] at this; exact this
  have hv2 := hin.2.1
  by_cases hl0 : l = []
  · subst hl0
    have hm2 : maskS [] v = ([], 0) := hm
    have hnl : V.row false true [] 0 none = R (false, true, none) eT [] := rfl
    obtain ⟨b, hb1, hb2⟩ := apok_apz (P := Tryd.prog) (ts := #[22, 22]) (sz := 3) (by simp)
    have hap := fun h : Heap => appendB_R_nil (P := Tryd.prog) (h := h) (E := eT) (l := []) (fl := (false, true, none)) (fl2 := fl0) hb1 (by simp) hb2
    refine outS_of_wp cfg (fn := Tryd.f4) Tryd.func4 rfl (by simp [Tryd.f4]) ?_
    simp (disch := first | assumption | omega | (simp; done) | (simp; omega)) [-getElem?_pos, List.getElem?_cons_zero, List.getElem?_cons_succ, Tryd.f4, hsm, hm2]
    repeat' (first | (refine wpc_split _ (fun hc => ?_) (fun hc => ?_) <;> (try simp at hc)) | (refine ww_split _ (fun hc => ?_) (fun hc => ?_) <;> (try simp at hc)) | (refine wp_drawF (by kernel_rfl) ?_) | (refine wk_yldW _ ?_) | (refine layOwe _ (by kernel_rfl) ?_) | (refine owe ?_ (fun ho => ?_)) | (simp (disch := first | assumption | omega | (simp; done) | (simp; omega)) [hsm, hm2, hnl, hap, -getElem?_pos, List.getElem?_cons_zero, List.getElem?_cons_succ]))
    refine wp_unroll rfl ?_
    repeat' (first | (refine wpc_split _ (fun hc => ?_) (fun hc => ?_) <;> (try simp at hc)) | (refine ww_split _ (fun hc => ?_) (fun hc => ?_) <;> (try simp at hc)) | (refine wp_drawF (by kernel_rfl) ?_) | (refine wk_yldW _ ?_) | (refine layOwe _ (by kernel_rfl) ?_) | (refine owe ?_ (fun ho => ?_)) | (simp (disch := first | assumption | omega | (simp; done) | (simp; omega)) [hsm, hm2, hnl, hap, -getElem?_pos, List.getElem?_cons_zero, List.getElem?_cons_succ]))
  have hnil : V.row false true [] 0 none = R (false, true, none) eT [] := rfl
  refine outS_of_wp cfg (fn := Tryd.f4) Tryd.func4 rfl (by simp [Tryd.f4]) ?_
  simp (disch := first | assumption | omega | (simp; done) | (simp; omega)) [-getElem?_pos, List.getElem?_cons_zero, List.getElem?_cons_succ, Tryd.f4, hsm, hm]
  repeat' (first | (refine wpc_split _ (fun hc => ?_) (fun hc => ?_) <;> (try simp at hc)) | (refine ww_split _ (fun hc => ?_) (fun hc => ?_) <;> (try simp at hc)) | (refine wp_drawF (by kernel_rfl) ?_) | (refine wk_yldW _ ?_) | (refine layOwe _ (by kernel_rfl) ?_) | (refine owe ?_ (fun ho => ?_)) | (simp (disch := first | assumption | omega | (simp; done) | (simp; omega)) [hsm, hm, hl0, hnil, append_Bn, -getElem?_pos, List.getElem?_cons_zero, List.getElem?_cons_succ]))
  refine wp_loopE cfg rfl (fun f0 h0 m fr h => ∃ i : Nat, ∃ L : List Target, ∃ X : List Blk, fr 0 = f0 0 ∧ fr 1 = f0 1 ∧ fr 2 = f0 2 ∧ fr 7 = f0 7 ∧ fr 9 = f0 9 ∧ fr 39 = f0 39 ∧ fr 40 = f0 40 ∧ fr 41 = .int .i64 i ∧ (h.bs = Blk.cells (rows eT L) :: X) ∧ (i + m = l.length) ∧ (swapL v l L) ∧ (∀ j, i ≤ j → j < l.length → nth L j = nth l j)) (l.length) _ _ ⟨0, l, [], rfl, rfl, rfl, rfl, rfl, rfl, rfl, by first | rfl | (simp; done) | (simp [R]; done) | simp [R], by simp, by first | rfl | (simp; done) | omega, ⟨rfl, fun i _ => ⟨rfl, rfl, .inl rfl⟩⟩, fun j _ _ => rfl⟩ ?_
  rintro Am Af Ah ⟨i, L, X, A0, A1, A2, A7, A9, A39, A40, A41, hb, hmm, hsw, htl⟩ Aih
  try simp at A0 A1 A2 A7 A9 A39 A40
  by_cases hi : i < l.length
  · have hx : nth (l.map (markS v)) i = markS v (nth l i) := by simp [nth, hi]
    have hmem := nth_mem hi
    have hlx := hl _ hmem
    have hvr := vd_range hv2 (nth l i).deps (hin.2.2 _ hmem).2
    have hLl : i < L.length := by rw [hsw.1]; exact hi
    have hst : ∀ t : List UInt8, (vd v (nth l i).deps ≠ 0 ∧ wordS t = true ∧ t.length < 1099511627776) → swapL v l (L.set i ⟨t, (nth L i).deps, (nth L i).term⟩) ∧ (∀ j, i + 1 ≤ j → j < l.length → nth (L.set i ⟨t, (nth L i).deps, (nth L i).term⟩) j = nth l j) := by
      intro t ht
      have e := htl i (Nat.le_refl _) hi
      refine ⟨⟨by rw [List.length_set]; exact hsw.1, fun j hj => ?_⟩, fun j h1 h2 => ?_⟩
      · rw [nth_set hLl]
        by_cases ej : i = j
        · subst ej; rw [if_pos rfl, e]; exact ⟨rfl, rfl, .inr ht⟩
        · rw [if_neg ej]; exact hsw.2 j hj
      · rw [nth_set hLl, if_neg (by omega)]; exact htl j (by omega) h2
    have hset := fun t => rowsT_text L i t hLl
    have hLL : L.length = l.length := hsw.1
    have hrl : (rows eT L).length = l.length * 3 := by rw [rows_length, hLL]
    have hkeep : ∀ j, i + 1 ≤ j → j < l.length → nth L j = nth l j := fun j h1 h2 => htl j (by omega) h2
    have hcv : vd v (nth l i).deps = 0 ∨ vd v (nth l i).deps = 1 ∨ vd v (nth l i).deps = 2 := by omega
    have hmk : markS v (nth l i) = ⟨vd v (nth l i).deps, if vd v (nth l i).deps = 0 then (nth l i).text else if vd v (nth l i).deps = 2 then [45] else [], (nth l i).deps⟩ := rfl
    rcases hcv with c | c | c
    · rw [c] at hmk hvr
      simp at hmk
      repeat' (first | (refine wpc_split _ (fun hc => ?_) (fun hc => ?_) <;> (try simp at hc)) | (refine ww_split _ (fun hc => ?_) (fun hc => ?_) <;> (try simp at hc)) | (refine wp_drawF (by kernel_rfl) ?_) | (refine wk_yldW _ ?_) | (refine layOwe _ (by kernel_rfl) ?_) | (refine owe ?_ (fun ho => ?_)) | (simp (disch := first | assumption | omega | (simp; done) | (simp; omega)) [A0, A1, A2, A7, A9, A39, A40, A41, hb, eM, eT, hx, hmk, -getElem?_pos, List.getElem?_cons_zero, List.getElem?_cons_succ]))
      exact Aih (Am - 1) _ _ (by omega) ⟨i + 1, L, X ++ [.cells [.int .i64 0, .str (nth l i).text, R fl0 eI (nth l i).deps]], by simp [A0, A1, A2, A7, A9, A39, A40, A41, hb], by simp [A0, A1, A2, A7, A9, A39, A40, A41, hb], by simp [A0, A1, A2, A7, A9, A39, A40, A41, hb], by simp [A0, A1, A2, A7, A9, A39, A40, A41, hb], by simp [A0, A1, A2, A7, A9, A39, A40, A41, hb], by simp [A0, A1, A2, A7, A9, A39, A40, A41, hb], by simp [A0, A1, A2, A7, A9, A39, A40, A41, hb], by simp [A0, A1, A2, A7, A9, A39, A40, A41, hb], (by simp [hb]), by omega, hsw, hkeep⟩
    · rw [c] at hmk
      simp at hmk
      by_cases ho1 : i < other.length
      · have hox := hol _ (nth_mem ho1)
        cases how : wordS (nth other i) with
        | false =>
          repeat' (first | (refine wpc_split _ (fun hc => ?_) (fun hc => ?_) <;> (try simp at hc)) | (refine ww_split _ (fun hc => ?_) (fun hc => ?_) <;> (try simp at hc)) | (refine wp_drawF (by kernel_rfl) ?_) | (refine wk_yldW _ ?_) | (refine layOwe _ (by kernel_rfl) ?_) | (refine owe ?_ (fun ho => ?_)) | (simp (disch := first | assumption | omega | (simp; done) | (simp; omega)) [A0, A1, A2, A7, A9, A39, A40, A41, hb, eM, eT, eS, hx, hmk, how, -getElem?_pos, List.getElem?_cons_zero, List.getElem?_cons_succ]))
          exact Aih (Am - 1) _ _ (by omega) ⟨i + 1, L, X ++ [.cells [.int .i64 1, .str [], R fl0 eI (nth l i).deps]], by simp [A0, A1, A2, A7, A9, A39, A40, A41, hb], by simp [A0, A1, A2, A7, A9, A39, A40, A41, hb], by simp [A0, A1, A2, A7, A9, A39, A40, A41, hb], by simp [A0, A1, A2, A7, A9, A39, A40, A41, hb], by simp [A0, A1, A2, A7, A9, A39, A40, A41, hb], by simp [A0, A1, A2, A7, A9, A39, A40, A41, hb], by simp [A0, A1, A2, A7, A9, A39, A40, A41, hb], by simp [A0, A1, A2, A7, A9, A39, A40, A41, hb], (by simp [hb]), by omega, hsw, hkeep⟩
        | true =>
          obtain ⟨n1, n2⟩ := hst (nth other i) ⟨by omega, how, hox⟩
          repeat' (first | (refine wpc_split _ (fun hc => ?_) (fun hc => ?_) <;> (try simp at hc)) | (refine ww_split _ (fun hc => ?_) (fun hc => ?_) <;> (try simp at hc)) | (refine wp_drawF (by kernel_rfl) ?_) | (refine wk_yldW _ ?_) | (refine layOwe _ (by kernel_rfl) ?_) | (refine owe ?_ (fun ho => ?_)) | (simp (disch := first | assumption | omega | (simp; done) | (simp; omega)) [A0, A1, A2, A7, A9, A39, A40, A41, hb, eM, eT, eS, hx, hmk, how, hset, hrl, -getElem?_pos, List.getElem?_cons_zero, List.getElem?_cons_succ]))
          exact Aih (Am - 1) _ _ (by omega) ⟨i + 1, _, X ++ [.cells [.int .i64 1, .str [], R fl0 eI (nth l i).deps]], by simp [A0, A1, A2, A7, A9, A39, A40, A41, hb], by simp [A0, A1, A2, A7, A9, A39, A40, A41, hb], by simp [A0, A1, A2, A7, A9, A39, A40, A41, hb], by simp [A0, A1, A2, A7, A9, A39, A40, A41, hb], by simp [A0, A1, A2, A7, A9, A39, A40, A41, hb], by simp [A0, A1, A2, A7, A9, A39, A40, A41, hb], by simp [A0, A1, A2, A7, A9, A39, A40, A41, hb], by simp [A0, A1, A2, A7, A9, A39, A40, A41, hb], (by simp [hb]), by omega, n1, n2⟩
      · repeat' (first | (refine wpc_split _ (fun hc => ?_) (fun hc => ?_) <;> (try simp at hc)) | (refine ww_split _ (fun hc => ?_) (fun hc => ?_) <;> (try simp at hc)) | (refine wp_drawF (by kernel_rfl) ?_) | (refine wk_yldW _ ?_) | (refine layOwe _ (by kernel_rfl) ?_) | (refine owe ?_ (fun ho => ?_)) | (simp (disch := first | assumption | omega | (simp; done) | (simp; omega)) [A0, A1, A2, A7, A9, A39, A40, A41, hb, eM, eT, hx, hmk, -getElem?_pos, List.getElem?_cons_zero, List.getElem?_cons_succ]))
        exact Aih (Am - 1) _ _ (by omega) ⟨i + 1, L, X ++ [.cells [.int .i64 1, .str [], R fl0 eI (nth l i).deps]], by simp [A0, A1, A2, A7, A9, A39, A40, A41, hb], by simp [A0, A1, A2, A7, A9, A39, A40, A41, hb], by simp [A0, A1, A2, A7, A9, A39, A40, A41, hb], by simp [A0, A1, A2, A7, A9, A39, A40, A41, hb], by simp [A0, A1, A2, A7, A9, A39, A40, A41, hb], by simp [A0, A1, A2, A7, A9, A39, A40, A41, hb], by simp [A0, A1, A2, A7, A9, A39, A40, A41, hb], by simp [A0, A1, A2, A7, A9, A39, A40, A41, hb], (by simp [hb]), by omega, hsw, hkeep⟩
    · rw [c] at hmk
      simp at hmk
      by_cases ho1 : i < other.length
      · have hox := hol _ (nth_mem ho1)
        cases how : wordS (nth other i) with
        | false =>
          repeat' (first | (refine wpc_split _ (fun hc => ?_) (fun hc => ?_) <;> (try simp at hc)) | (refine ww_split _ (fun hc => ?_) (fun hc => ?_) <;> (try simp at hc)) | (refine wp_drawF (by kernel_rfl) ?_) | (refine wk_yldW _ ?_) | (refine layOwe _ (by kernel_rfl) ?_) | (refine owe ?_ (fun ho => ?_)) | (simp (disch := first | assumption | omega | (simp; done) | (simp; omega)) [A0, A1, A2, A7, A9, A39, A40, A41, hb, eM, eT, eS, hx, hmk, how, -getElem?_pos, List.getElem?_cons_zero, List.getElem?_cons_succ]))
          exact Aih (Am - 1) _ _ (by omega) ⟨i + 1, L, X ++ [.cells [.int .i64 2, .str [45], R fl0 eI (nth l i).deps]], by simp [A0, A1, A2, A7, A9, A39, A40, A41, hb], by simp [A0, A1, A2, A7, A9, A39, A40, A41, hb], by simp [A0, A1, A2, A7, A9, A39, A40, A41, hb], by simp [A0, A1, A2, A7, A9, A39, A40, A41, hb], by simp [A0, A1, A2, A7, A9, A39, A40, A41, hb], by simp [A0, A1, A2, A7, A9, A39, A40, A41, hb], by simp [A0, A1, A2, A7, A9, A39, A40, A41, hb], by simp [A0, A1, A2, A7, A9, A39, A40, A41, hb], (by simp [hb]), by omega, hsw, hkeep⟩
        | true =>
          obtain ⟨n1, n2⟩ := hst (nth other i) ⟨by omega, how, hox⟩
          repeat' (first | (refine wpc_split _ (fun hc => ?_) (fun hc => ?_) <;> (try simp at hc)) | (refine ww_split _ (fun hc => ?_) (fun hc => ?_) <;> (try simp at hc)) | (refine wp_drawF (by kernel_rfl) ?_) | (refine wk_yldW _ ?_) | (refine layOwe _ (by kernel_rfl) ?_) | (refine owe ?_ (fun ho => ?_)) | (simp (disch := first | assumption | omega | (simp; done) | (simp; omega)) [A0, A1, A2, A7, A9, A39, A40, A41, hb, eM, eT, eS, hx, hmk, how, hset, hrl, -getElem?_pos, List.getElem?_cons_zero, List.getElem?_cons_succ]))
          exact Aih (Am - 1) _ _ (by omega) ⟨i + 1, _, X ++ [.cells [.int .i64 2, .str [45], R fl0 eI (nth l i).deps]], by simp [A0, A1, A2, A7, A9, A39, A40, A41, hb], by simp [A0, A1, A2, A7, A9, A39, A40, A41, hb], by simp [A0, A1, A2, A7, A9, A39, A40, A41, hb], by simp [A0, A1, A2, A7, A9, A39, A40, A41, hb], by simp [A0, A1, A2, A7, A9, A39, A40, A41, hb], by simp [A0, A1, A2, A7, A9, A39, A40, A41, hb], by simp [A0, A1, A2, A7, A9, A39, A40, A41, hb], by simp [A0, A1, A2, A7, A9, A39, A40, A41, hb], (by simp [hb]), by omega, n1, n2⟩
      · repeat' (first | (refine wpc_split _ (fun hc => ?_) (fun hc => ?_) <;> (try simp at hc)) | (refine ww_split _ (fun hc => ?_) (fun hc => ?_) <;> (try simp at hc)) | (refine wp_drawF (by kernel_rfl) ?_) | (refine wk_yldW _ ?_) | (refine layOwe _ (by kernel_rfl) ?_) | (refine owe ?_ (fun ho => ?_)) | (simp (disch := first | assumption | omega | (simp; done) | (simp; omega)) [A0, A1, A2, A7, A9, A39, A40, A41, hb, eM, eT, hx, hmk, -getElem?_pos, List.getElem?_cons_zero, List.getElem?_cons_succ]))
        exact Aih (Am - 1) _ _ (by omega) ⟨i + 1, L, X ++ [.cells [.int .i64 2, .str [45], R fl0 eI (nth l i).deps]], by simp [A0, A1, A2, A7, A9, A39, A40, A41, hb], by simp [A0, A1, A2, A7, A9, A39, A40, A41, hb], by simp [A0, A1, A2, A7, A9, A39, A40, A41, hb], by simp [A0, A1, A2, A7, A9, A39, A40, A41, hb], by simp [A0, A1, A2, A7, A9, A39, A40, A41, hb], by simp [A0, A1, A2, A7, A9, A39, A40, A41, hb], by simp [A0, A1, A2, A7, A9, A39, A40, A41, hb], by simp [A0, A1, A2, A7, A9, A39, A40, A41, hb], (by simp [hb]), by omega, hsw, hkeep⟩
  · have hil : i = l.length := by omega
    have hsL : L.length < 1099511627776 ∧ v.length < 1099511627776 := by rw [hsw.1]; exact hs
    have hb0 : Ah.bs[0]? = some (.cells (rows eT L)) := by rw [hb]; rfl
    have heL := swap_err hsw he
    have hmL : maskS L v = (l.map (markS v), 0) := by rw [maskS_ok heL, swap_map hsw]
    have hCi := fun q => S10c L v hsL (swap_len hsw hl) q Ah l.length hsw.1.symm hb0
    have hn2 : (l.map (markS v)).length < 1099511627776 := by simp; exact hs.1
    repeat' (first | (refine wpc_split _ (fun hc => ?_) (fun hc => ?_) <;> (try simp at hc)) | (refine ww_split _ (fun hc => ?_) (fun hc => ?_) <;> (try simp at hc)) | (refine wp_drawF (by kernel_rfl) ?_) | (refine wk_yldW _ ?_) | (refine layOwe _ (by kernel_rfl) ?_) | (refine owe ?_ (fun ho => ?_)) | (simp (disch := first | assumption | omega | (simp; done) | (simp; omega)) [A0, A1, A2, A7, A9, A39, A40, A41, hCi, hmL, -getElem?_pos, List.getElem?_cons_zero, List.getElem?_cons_succ]))
@[simp] theorem S4 (l : List Target) (v : List Int) (other : List (List UInt8)) (hs : l.length < 1099511627776 ∧ v.length < 1099511627776) (hl : ∀ x ∈ l, x.text.length < 1099511627776 ∧ x.deps.length < 1099511627776) (ho : other.length < 1099511627776) (hol : ∀ x ∈ other, x.length < 1099511627776) (q1 q2 q3 : Fl) (hh : Heap) : Ci cfg (.func (.func 4) [] []) [R  q1 eT l, R  q2 eI v, R  q3 eS other] hh = some (.ret (.bool true), hh) :=
  Ci_K cfg rfl rfl (by simp) (by simp) (C4 l v other hs hl ho hol)
end Go.Ab
