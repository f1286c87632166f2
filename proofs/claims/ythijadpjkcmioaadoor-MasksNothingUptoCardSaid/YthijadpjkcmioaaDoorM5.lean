/- Layer 37 (masks): the program's Mask. -/
import Derived.Test.YthijadpjkcmioaaDoorM4
set_option linter.unusedVariables false
set_option linter.unusedSimpArgs false
set_option linter.unusedSectionVars false
set_option linter.deprecated false
namespace Go.Ab
open Go.Proofs
set_option maxRecDepth 100000
set_option maxHeartbeats 2000000
theorem C39 (l : List Int) (hl : ¬ l = []) (hs : l.length < 4294967296) : Kc cfg 39 [R fl0 eI l] (.ret (R fl0 eI l)) := by
  refine outS_of_wp cfg (fn := Tryd.f39) Tryd.func39 rfl (by simp [Tryd.f39]) ?_
  have hA : App (emptyH).ts 1 (false, true, none) := App.full _ _ _
  have hf : V.row false true [] 0 none = R (false, true, none) eI [] := rfl
  simp (disch := first | assumption | omega | (simp; done) | (simp; omega)) [-getElem?_pos, List.getElem?_cons_zero, List.getElem?_cons_succ, Tryd.f39, eqV_Rn, hl]
  repeat' (first | (refine wpc_split _ (fun hc => ?_) (fun hc => ?_) <;> (try simp at hc)) | (refine ww_split _ (fun hc => ?_) (fun hc => ?_) <;> (try simp at hc)) | (refine wp_drawF (by kernel_rfl) ?_) | (refine wk_yldW _ ?_) | (refine layOwe _ (by kernel_rfl) ?_) | (refine owe ?_ (fun ho => ?_)) | (simp (disch := first | assumption | omega | (simp; done) | (simp; omega)) [eqV_Rn, hl, append_Rn, hf, hA, -getElem?_pos, List.getElem?_cons_zero, List.getElem?_cons_succ]))
@[simp] theorem S39 (l : List Int) (hs : l.length < 4294967296) (q : Fl) (h : Heap) : Ci cfg (.func (.func 39) [] []) [R q eI l] h = some (.ret (R fl0 eI l), h) := by
  by_cases hl : l = []
  · subst hl
    rw [Ci_eq]
    have : cfg.ext 39 [.row false false [] 0 none] = some (.ret (.row false false [] 0 none)) := rfl
    simp only [callS]
    rw [if_pos (by rfl)]
    have hh : handV h ([] ++ [R q eI []] ++ []) = some ([V.row false false [] 0 none], h) := by simp [handV]; rfl
    rw [hh]
    simp only [this]
    rfl
  · exact Ci_K cfg rfl (by
      show extE 39 [R fl0 eI l] = none
      cases l with
      | nil => exact absurd rfl hl
      | cons x r => rfl) (by simp) (by simp) (C39 l hl hs)
theorem asc_len {many : Int} : ∀ (d : List Int) (last : Int), asc many last d = true → last < many → (d.length : Int) ≤ many - 1 - last
  | [], _, _, _ => by simp; omega
  | x :: r, last, h, hl => by
    simp only [asc, Bool.and_eq_true, decide_eq_true_eq] at h
    have := asc_len r x h.2 (by omega)
    simp only [List.length_cons]
    omega
theorem rightS_len {t : List UInt8} {d : List Int} {n : Nat} (h : rightS t d n = true) (hn : n ≤ 4096) : d.length ≤ 4096 := by
  unfold rightS at h
  simp only [Bool.and_eq_true] at h
  have := asc_len d (-1) h.1 (by omega)
  omega
theorem vd_range {v : List Int} (hv : verdictsS v = true) : ∀ (d : List Int), inB d v.length → 0 ≤ vd v d ∧ vd v d ≤ 2 := by
  have key : ∀ (d : List Int) (n : Int), inB d v.length → 0 ≤ n ∧ n ≤ 2 → 0 ≤ d.foldl (fun n i => max n (nth v i.toNat)) n ∧ d.foldl (fun n i => max n (nth v i.toNat)) n ≤ 2 := by
    intro d
    induction d with
    | nil => intro n _ h; exact h
    | cons x r ih =>
      intro n hd hn
      rw [List.foldl_cons]
      refine ih _ (fun y hy => hd y (List.mem_cons_of_mem _ hy)) ?_
      have hx := hd x (by simp)
      have : x.toNat < v.length := by omega
      unfold verdictsS at hv
      rw [List.all_eq_true] at hv
      have := hv _ (nth_mem this)
      simp only [decide_eq_true_eq] at this
      omega
  intro d hd
  exact key d 0 hd (by omega)
theorem C10 (l : List Target) (v : List Int) (hs : l.length < 1099511627776 ∧ v.length < 1099511627776) (hl : ∀ x ∈ l, x.text.length < 1099511627776 ∧ x.deps.length < 1099511627776) : Kc cfg 10 [R fl0 eT l, R fl0 eI v] (.ret (.tuple [R fl0 eM (maskS l v).1, .int .i64 (maskS l v).2])) := by
  refine outS_of_wp cfg (fn := Tryd.f10) Tryd.func10 rfl (by simp [Tryd.f10]) ?_
  simp (disch := first | assumption | omega | (simp; done) | (simp; omega)) [-getElem?_pos, List.getElem?_cons_zero, List.getElem?_cons_succ, Tryd.f10]
  repeat' (first | (refine wpc_split _ (fun hc => ?_) (fun hc => ?_) <;> (try simp at hc)) | (refine ww_split _ (fun hc => ?_) (fun hc => ?_) <;> (try simp at hc)) | (refine wp_drawF (by kernel_rfl) ?_) | (refine wk_yldW _ ?_) | (refine layOwe _ (by kernel_rfl) ?_) | (refine owe ?_ (fun ho => ?_)) | (simp (disch := first | assumption | omega | (simp; done) | (simp; omega)) [-getElem?_pos, List.getElem?_cons_zero, List.getElem?_cons_succ]))
  · have hm : maskS l v = ([], 2) := by unfold maskS; rw [errS_long (by omega)]; rfl
    rw [hm]; exact ⟨rfl, rfl⟩
  have hshort : l.length ≤ 4096 ∧ v.length ≤ 4096 := by omega
  have he := errS_short hshort
  repeat' (first | (refine wpc_split _ (fun hc => ?_) (fun hc => ?_) <;> (try simp at hc)) | (refine ww_split _ (fun hc => ?_) (fun hc => ?_) <;> (try simp at hc)) | (refine wp_drawF (by kernel_rfl) ?_) | (refine wk_yldW _ ?_) | (refine layOwe _ (by kernel_rfl) ?_) | (refine owe ?_ (fun ho => ?_)) | (simp (disch := first | assumption | omega | (simp; done) | (simp; omega)) [Tryd.f18, Tryd.f22, Tryd.f35, mapUpdV, keyOk, findK, eqKey, -getElem?_pos, List.getElem?_cons_zero, List.getElem?_cons_succ]))
  refine wp_loopE cfg rfl (fun f0 h0 m f h => ∃ (i : Nat) (X : List Blk), f 0 = f0 0 ∧ f 1 = f0 1 ∧ f 7 = f0 7 ∧ f 8 = .int .i64 i ∧ h.bs = h0.bs ++ X ∧ i + m = v.length ∧ (v.take i).all (fun x => decide (0 ≤ x ∧ x ≤ 2)) = true) v.length _ _ ⟨0, [], rfl, rfl, rfl, by simp, by simp, by simp, by simp⟩ ?_
  rintro m f h ⟨i, X, f0, f1, f7, f8, hb, hm, ht⟩ ih
  simp at f0 f1 f7 hb
  have hc19 : ∀ n : Int, Ci cfg (.func (.func 19) [] [.ptr 2 0]) [.int .i64 n] h = some (.ret (.bool !decide (0 ≤ n ∧ n ≤ 2)), newB h (.cells [kindV n])) := fun n => C19 n h (by rw [hb]; rfl) (by rw [hb]; rfl)
  repeat' (first | (refine wpc_split _ (fun hc => ?_) (fun hc => ?_) <;> (try simp at hc)) | (refine ww_split _ (fun hc => ?_) (fun hc => ?_) <;> (try simp at hc)) | (refine wp_drawF (by kernel_rfl) ?_) | (refine wk_yldW _ ?_) | (refine layOwe _ (by kernel_rfl) ?_) | (refine owe ?_ (fun ho => ?_)) | (simp (disch := first | assumption | omega | (simp; done) | (simp; omega)) [f0, f1, f7, f8, eI, hc19, -getElem?_pos, List.getElem?_cons_zero, List.getElem?_cons_succ]))
  · have hv : verdictsS v = false := all_nth_false (p := fun x => decide (0 ≤ x ∧ x ≤ 2)) (by omega : i < v.length) (by simp; omega)
    have hm : maskS l v = ([], 370) := by unfold maskS; rw [he, hv]; rfl
    rw [hm]; exact ⟨rfl, rfl⟩
  · exact ih (m - 1) _ _ (by omega) ⟨i + 1, X ++ [.cells [kindV (nth v i)]], by simp [f0], by simp [f1], by simp [f7], by simp, by simp [hb], by omega, all_take_next (p := fun x => decide (0 ≤ x ∧ x ≤ 2)) (by omega : i < v.length) ht (by simp; omega)⟩
  clear ih hc19
  have hv : verdictsS v = true := by
    rw [List.take_of_length_le (by omega)] at ht
    exact ht
  repeat' (first | (refine wpc_split _ (fun hc => ?_) (fun hc => ?_) <;> (try simp at hc)) | (refine ww_split _ (fun hc => ?_) (fun hc => ?_) <;> (try simp at hc)) | (refine wp_drawF (by kernel_rfl) ?_) | (refine wk_yldW _ ?_) | (refine layOwe _ (by kernel_rfl) ?_) | (refine owe ?_ (fun ho => ?_)) | (simp (disch := first | assumption | omega | (simp; done) | (simp; omega)) [Tryd.f23, Tryd.f36, -getElem?_pos, List.getElem?_cons_zero, List.getElem?_cons_succ]))
  clear f0 f1 f7 f8
  refine wp_loopE cfg rfl (fun f0 h0 m f h => ∃ (i : Nat) (X : List Blk), f 0 = f0 0 ∧ f 1 = f0 1 ∧ f 7 = f0 7 ∧ f 8 = .int .i64 i ∧ h.bs = h0.bs ++ X ∧ i + m = l.length ∧ (l.take i).all (fun x => rightS x.text x.deps v.length) = true) l.length _ _ ⟨0, [], rfl, rfl, rfl, by simp, by simp, by simp, by simp⟩ ?_
  rintro m' f' h' ⟨i', X', f0, f1, f7, f8, hb', hm', ht'⟩ ih
  rw [hb] at hb'
  simp at f0 f1 f7 hb'
  have hc20 : ∀ (t : List UInt8) (d : List Int) (n : Int), d.length < 1099511627776 → t.length < 1099511627776 → Ci cfg (.func (.func 20) [] [.ptr 0 0]) [.agg [.str t, R fl0 eI d, .int .i64 n]] h' = some (.ret (.bool !rightS t d v.length), newB h' (.cells [.str t, R fl0 eI d, .int .i64 n])) := fun t d n a b => C20 t d v n h' fl0 (by rw [hb']; rfl) a b
  by_cases hi : i' < l.length
  · have hx := hl _ (nth_mem hi)
    repeat' (first | (refine wpc_split _ (fun hc => ?_) (fun hc => ?_) <;> (try simp at hc)) | (refine ww_split _ (fun hc => ?_) (fun hc => ?_) <;> (try simp at hc)) | (refine wp_drawF (by kernel_rfl) ?_) | (refine wk_yldW _ ?_) | (refine layOwe _ (by kernel_rfl) ?_) | (refine owe ?_ (fun ho => ?_)) | (simp (disch := first | assumption | omega | (simp; done) | (simp; omega)) [f0, f1, f7, f8, eT, hc20, hx.1, hx.2, -getElem?_pos, List.getElem?_cons_zero, List.getElem?_cons_succ]))
    · have hm : maskS l v = ([], 370) := by unfold maskS; rw [he, hv, all_nth_false (p := fun x => rightS x.text x.deps v.length) hi hc]; rfl
      rw [hm]; exact ⟨rfl, rfl⟩
    · exact ih (m' - 1) _ _ (by omega) ⟨i' + 1, X' ++ [.cells (eT (nth l i'))], by simp [f0], by simp [f1], by simp [f7], by simp, by simp [hb, hb', eT], by omega, all_take_next (p := fun x => rightS x.text x.deps v.length) hi ht' hc⟩
  clear ih hc20
  rw [List.take_of_length_le (by omega)] at ht'
  have he0 : errS l v = 0 := by rw [he, hv, ht']; rfl
  have hin := errS_in he0
  have hq0 : h'.bs[0]? = some (.cells [R fl0 eI v]) := by rw [hb']; rfl
  have hq1 : h'.bs[1]? = some kindsB := by rw [hb']; rfl
  have hq2 : h'.bs[2]? = some (.cells [.map 1]) := by rw [hb']; rfl
  have hq3 : 3 ≤ h'.bs.length := by rw [hb']; simp
  clear hb' hb
  repeat' (first | (refine wpc_split _ (fun hc => ?_) (fun hc => ?_) <;> (try simp at hc)) | (refine ww_split _ (fun hc => ?_) (fun hc => ?_) <;> (try simp at hc)) | (refine wp_drawF (by kernel_rfl) ?_) | (refine wk_yldW _ ?_) | (refine layOwe _ (by kernel_rfl) ?_) | (refine owe ?_ (fun ho => ?_)) | (simp (disch := first | assumption | omega | (simp; done) | (simp; omega)) [f0, f1, f7, f8, hq0, hq1, hq2, bs_left, app_at, app_at0, app_set, app_set0, Tryd.f25, Tryd.f24, Tryd.f37, Tryd.f38, -getElem?_pos, List.getElem?_cons_zero, List.getElem?_cons_succ]))
  refine wp_loopE cfg rfl (fun f0 h0 m f h => ∃ (i : Nat) (fl : Fl), f 0 = f0 0 ∧ f 1 = f0 1 ∧ f 2 = f0 2 ∧ f 3 = f0 3 ∧ f 10 = f0 10 ∧ f 11 = f0 11 ∧ f 12 = .int .i64 i ∧ (∀ j, j < h'.bs.length + 6 → j ≠ h'.bs.length + 3 → h.bs[j]? = h0.bs[j]?) ∧ h.bs[h'.bs.length + 3]? = some (.cells [R fl eM ((l.take i).map (markS v))]) ∧ h'.bs.length + 6 ≤ h.bs.length ∧ App h.ts 3 fl ∧ i + m = l.length) l.length _ _ ⟨0, (true, true, none), rfl, rfl, rfl, rfl, rfl, rfl, by simp, fun _ _ _ => rfl, by simp [app_at, R], by simp, App.nil _ _ _, by simp⟩ ?_
  rintro mm g H ⟨k, fl, e0, e1, e2, e3, e10, e11, e12, hF, hO, hN, hA, hmm⟩ ih
  have p0 := hF h'.bs.length (by omega) (by omega)
  have p1 := hF (h'.bs.length + 1) (by omega) (by omega)
  have p2 := hF (h'.bs.length + 2) (by omega) (by omega)
  have p4 := hF (h'.bs.length + 4) (by omega) (by omega)
  have p5 := hF (h'.bs.length + 5) (by omega) (by omega)
  have p6 := hF 1 (by omega) (by omega)
  simp [app_at, app_at0] at e0 e1 e2 e3 e10 e11 p0 p1 p2 p4 p5
  simp (disch := first | assumption | omega | (simp; done) | (simp; omega)) [-getElem?_pos, List.getElem?_cons_zero, List.getElem?_cons_succ, bs_left, hq1] at p6
  by_cases hk : k < l.length
  · have hx := hl _ (nth_mem hk)
    have hx2 := (hin.2.2 _ (nth_mem hk)).2
    have hx3 := rightS_len (hin.2.2 _ (nth_mem hk)).1 hshort.2
    repeat' (first | (refine wpc_split _ (fun hc => ?_) (fun hc => ?_) <;> (try simp at hc)) | (refine ww_split _ (fun hc => ?_) (fun hc => ?_) <;> (try simp at hc)) | (refine wp_drawF (by kernel_rfl) ?_) | (refine wk_yldW _ ?_) | (refine layOwe _ (by kernel_rfl) ?_) | (refine owe ?_ (fun ho => ?_)) | (simp (disch := first | assumption | omega | (simp; done) | (simp; omega)) [e0, e1, e2, e3, e10, e11, e12, p0, p1, p2, p4, p5, p6, hO, hx.1, hx.2, bs_left, app_at, app_at0, app_set, app_set0, eT, -getElem?_pos, List.getElem?_cons_zero, List.getElem?_cons_succ]))
    refine wp_loopE cfg rfl (fun f0 h0 m f h => ∃ (i : Nat), f 0 = f0 0 ∧ f 1 = f0 1 ∧ f 2 = f0 2 ∧ f 3 = f0 3 ∧ f 6 = f0 6 ∧ f 7 = f0 7 ∧ f 10 = f0 10 ∧ f 11 = f0 11 ∧ f 12 = f0 12 ∧ f 21 = f0 21 ∧ f 22 = f0 22 ∧ f 23 = .int .i64 i ∧ h = ⟨h0.bs.set (H.bs.length + 1) (.cells [.int .i64 (vd v ((nth l k).deps.take i)), .str [], R fl0 eI (nth l k).deps]), h0.ts⟩ ∧ i + m = (nth l k).deps.length) (nth l k).deps.length _ _ ⟨0, rfl, rfl, rfl, rfl, rfl, rfl, rfl, rfl, rfl, rfl, rfl, by simp, by simp [app_set, vd], by simp⟩ ?_
    rintro m2 g2 H2 ⟨k2, u0, u1, u2, u3, u6, u7, u10, u11, u12, u21, u22, u23, uH, um⟩ ih2
    simp [app_set, e0, e1, e2, e3, e10, e11, e12] at u0 u1 u2 u3 u6 u7 u10 u11 u12 u21 u22 uH
    subst uH
    by_cases hk2 : k2 < (nth l k).deps.length
    · have hy := hx2 _ (nth_mem hk2)
      repeat' (first | (refine wpc_split _ (fun hc => ?_) (fun hc => ?_) <;> (try simp at hc)) | (refine ww_split _ (fun hc => ?_) (fun hc => ?_) <;> (try simp at hc)) | (refine wp_drawF (by kernel_rfl) ?_) | (refine wk_yldW _ ?_) | (refine layOwe _ (by kernel_rfl) ?_) | (refine owe ?_ (fun ho => ?_)) | (simp (disch := first | assumption | omega | (simp; done) | (simp; omega)) [u0, u1, u2, u3, u6, u7, u10, u11, u12, u21, u22, u23, p0, p1, p2, p4, p5, p6, hO, bs_left, app_at, app_at0, app_set, app_set0, eI, -getElem?_pos, List.getElem?_cons_zero, List.getElem?_cons_succ]))
      exact ih2 (m2 - 1) _ _ (by omega) ⟨k2 + 1, by simp [u0, e0], by simp [u1, e1], by simp [u2, e2], by simp [u3, e3], by simp [u6], by simp [u7], by simp [u10, e10], by simp [u11, e11], by simp [u12, e12], by simp [u21], by simp [u22], by simp, by simp [app_set, vd_take hk2], by omega⟩
    · clear ih2
      rw [List.take_of_length_le (by omega)]
      have hvr := vd_range hv _ hx2
      generalize hz0 : vd v (nth l k).deps = z at hvr
      by_cases z0 : z = 0
      · have hz : z = 0 := z0
        repeat' (first | (refine wpc_split _ (fun hc => ?_) (fun hc => ?_) <;> (try simp at hc)) | (refine ww_split _ (fun hc => ?_) (fun hc => ?_) <;> (try simp at hc)) | (refine wp_drawF (by kernel_rfl) ?_) | (refine wk_yldW _ ?_) | (refine layOwe _ (by kernel_rfl) ?_) | (refine owe ?_ (fun ho => ?_)) | (simp (disch := first | assumption | omega | (simp; done) | (simp; omega)) [u0, u1, u2, u3, u6, u7, u10, u11, u12, u21, u22, u23, p0, p1, p2, p4, p5, p6, hO, bs_left, app_at, app_at0, app_set, app_set0, app_at', app_at0', app_set', app_set0', set_left, set_at, set_ne, hz, kindsB, lookupV, keyOk, findK, eqKey, fold_M1, hA, Tryd.f30, Tryd.f31, Tryd.f32, -getElem?_pos, List.getElem?_cons_zero, List.getElem?_cons_succ]))
        refine ih (mm - 1) _ _ (by omega) ⟨k + 1, (false, false, some H.ts.length), by simp [u0], by simp [u1], by simp [u2], by simp [u3], by simp [u10], by simp [u11], by simp, ?_, ?_, by simp; omega, App.new _ _ _, by omega⟩
        · intro j hj hj3
          rw [← hF j hj hj3]
          show (_ ++ _ : List Blk)[j]? = _
          rw [bs_left (by simp; omega)]
          by_cases hj5 : h'.bs.length + 4 + 1 = j
          · subst hj5
            rw [set_at (by simp; omega)]
            exact p5.symm
          · rw [set_ne hj5, set_ne (by omega), set_ne hj5]
        · show (_ ++ _ : List Blk)[h'.bs.length + 3]? = _
          rw [bs_left (by simp; omega), set_ne (by omega), set_at (by simp; omega), nth_take hk, List.map_append]
          simp [markS, hz0, hz]
      by_cases z1 : z = 1
      · have hz : z = 1 := z1
        repeat' (first | (refine wpc_split _ (fun hc => ?_) (fun hc => ?_) <;> (try simp at hc)) | (refine ww_split _ (fun hc => ?_) (fun hc => ?_) <;> (try simp at hc)) | (refine wp_drawF (by kernel_rfl) ?_) | (refine wk_yldW _ ?_) | (refine layOwe _ (by kernel_rfl) ?_) | (refine owe ?_ (fun ho => ?_)) | (simp (disch := first | assumption | omega | (simp; done) | (simp; omega)) [u0, u1, u2, u3, u6, u7, u10, u11, u12, u21, u22, u23, p0, p1, p2, p4, p5, p6, hO, bs_left, app_at, app_at0, app_set, app_set0, app_at', app_at0', app_set', app_set0', set_left, set_at, set_ne, hz, kindsB, lookupV, keyOk, findK, eqKey, fold_M1, hA, Tryd.f30, Tryd.f31, Tryd.f32, -getElem?_pos, List.getElem?_cons_zero, List.getElem?_cons_succ]))
        refine ih (mm - 1) _ _ (by omega) ⟨k + 1, (false, false, some H.ts.length), by simp [u0], by simp [u1], by simp [u2], by simp [u3], by simp [u10], by simp [u11], by simp, ?_, ?_, by simp; omega, App.new _ _ _, by omega⟩
        · intro j hj hj3
          rw [← hF j hj hj3]
          show (_ ++ _ : List Blk)[j]? = _
          rw [bs_left (by simp; omega)]
          by_cases hj5 : h'.bs.length + 4 + 1 = j
          · subst hj5
            rw [set_at (by simp; omega)]
            exact p5.symm
          · rw [set_ne hj5, set_ne (by omega), set_ne hj5]
        · show (_ ++ _ : List Blk)[h'.bs.length + 3]? = _
          rw [bs_left (by simp; omega), set_ne (by omega), set_at (by simp; omega), nth_take hk, List.map_append]
          simp [markS, hz0, hz]
      · have hz : z = 2 := by omega
        repeat' (first | (refine wpc_split _ (fun hc => ?_) (fun hc => ?_) <;> (try simp at hc)) | (refine ww_split _ (fun hc => ?_) (fun hc => ?_) <;> (try simp at hc)) | (refine wp_drawF (by kernel_rfl) ?_) | (refine wk_yldW _ ?_) | (refine layOwe _ (by kernel_rfl) ?_) | (refine owe ?_ (fun ho => ?_)) | (simp (disch := first | assumption | omega | (simp; done) | (simp; omega)) [u0, u1, u2, u3, u6, u7, u10, u11, u12, u21, u22, u23, p0, p1, p2, p4, p5, p6, hO, bs_left, app_at, app_at0, app_set, app_set0, app_at', app_at0', app_set', app_set0', set_left, set_at, set_ne, hz, kindsB, lookupV, keyOk, findK, eqKey, fold_M1, hA, Tryd.f30, Tryd.f31, Tryd.f32, -getElem?_pos, List.getElem?_cons_zero, List.getElem?_cons_succ]))
        refine ih (mm - 1) _ _ (by omega) ⟨k + 1, (false, false, some H.ts.length), by simp [u0], by simp [u1], by simp [u2], by simp [u3], by simp [u10], by simp [u11], by simp, ?_, ?_, by simp; omega, App.new _ _ _, by omega⟩
        · intro j hj hj3
          rw [← hF j hj hj3]
          show (_ ++ _ : List Blk)[j]? = _
          rw [bs_left (by simp; omega)]
          by_cases hj5 : h'.bs.length + 4 + 1 = j
          · subst hj5
            rw [set_at (by simp; omega)]
            exact p5.symm
          · rw [set_ne hj5, set_ne (by omega), set_ne hj5]
        · show (_ ++ _ : List Blk)[h'.bs.length + 3]? = _
          rw [bs_left (by simp; omega), set_ne (by omega), set_at (by simp; omega), nth_take hk, List.map_append]
          simp [markS, hz0, hz]
  · repeat' (first | (refine wpc_split _ (fun hc => ?_) (fun hc => ?_) <;> (try simp at hc)) | (refine ww_split _ (fun hc => ?_) (fun hc => ?_) <;> (try simp at hc)) | (refine wp_drawF (by kernel_rfl) ?_) | (refine wk_yldW _ ?_) | (refine layOwe _ (by kernel_rfl) ?_) | (refine owe ?_ (fun ho => ?_)) | (simp (disch := first | assumption | omega | (simp; done) | (simp; omega)) [e0, e1, e2, e3, e10, e11, e12, p0, p1, p2, p4, p5, p6, hO, bs_left, app_at, app_at0, app_set, app_set0, set_at, set_ne, -getElem?_pos, List.getElem?_cons_zero, List.getElem?_cons_succ]))
    have hm : maskS l v = (l.map (markS v), 0) := by unfold maskS; rw [if_pos he0]
    rw [hm, List.take_of_length_le (by simp; omega)]
    exact ⟨rfl, rfl⟩
@[simp] theorem S10 (l : List Target) (v : List Int) (hs : l.length < 1099511627776 ∧ v.length < 1099511627776) (hl : ∀ x ∈ l, x.text.length < 1099511627776 ∧ x.deps.length < 1099511627776) (q1 q2 : Fl) (hh : Heap) : Ci cfg (.func (.func 10) [] []) [R  q1 eT l, R  q2 eI v] hh = some (.ret (.tuple [R fl0 eM (maskS l v).1, .int .i64 (maskS l v).2]), hh) :=
  Ci_K cfg rfl rfl (by simp) (by simp) (C10 l v hs hl)
end Go.Ab
