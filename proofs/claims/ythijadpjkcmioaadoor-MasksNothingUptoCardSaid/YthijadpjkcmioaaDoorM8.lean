/- MasksShown: the law's function; made slices handed to calls with data alone. -/
import Derived.Test.YthijadpjkcmioaaDoorM7
set_option linter.unusedVariables false
set_option linter.unusedSimpArgs false
set_option linter.unusedSectionVars false
set_option linter.deprecated false
namespace Go.Ab
open Go.Proofs
set_option maxRecDepth 100000
set_option maxHeartbeats 4000000
instance : EncP eT := ⟨fun x g => by simp [eT, reach1.reach1L, reach1], fun x g h => by simp [eT, pure1.pure1L, pure1]⟩
theorem mkInts {h : Heap} {n : Nat} (hn : n ≤ 4294967296) : makeSliceV Tryd.prog h 23 false (.int .i64 n) (.int .i64 n) = some (.slice h.bs.length 0 n 1, newB h (.cells (rows eI (List.replicate n 0)))) := by
  unfold makeSliceV
  have h1 : szO Tryd.prog 3 = some 1 := by simp
  have h2 : bytesO Tryd.prog 3 = some 8 := by simp
  have h3 : elemOfSlice Tryd.prog 23 = some 3 := by simp
  have h4 : zeroCs Tryd.prog 3 = some [.int .i64 0] := by simp
  simp only [intOf?, h3, h4]
  cases hi : Tryd.prog.info? 3 with
  | none => simp [szO, hi] at h1
  | some i =>
    simp only [szO, hi, Option.map_some, Option.some.injEq] at h1
    simp only [bytesO, hi, Option.map_some, Option.some.injEq] at h2
    simp only [h1, h2]
    rw [if_pos (by simp [smallRow]; omega)]
    simp only [Bool.false_eq_true, if_false, if_true, Int.toNat_natCast]
    have hr : rows eI (List.replicate n 0) = (List.replicate n [V.int .i64 0]).flatten := by
      unfold rows
      rw [List.flatMap_def, List.map_replicate]; rfl
    rw [hr]
theorem vd_all {n : Int} (hn : 0 ≤ n) {len : Nat} (d : List Int) (hd : inB d len) : vd (List.replicate len n) d = if d = [] then 0 else n := by
  have hnth : ∀ x ∈ d, nth (List.replicate len n) x.toNat = n := by
    intro x hx
    have := hd x hx
    unfold nth
    rw [List.getD_eq_getElem?_getD, List.getElem?_replicate, if_pos (by omega)]; rfl
  by_cases he : d = []
  · subst he; simp [vd]
  · rw [if_neg he]
    rcases vd_met (v := List.replicate len n) d with h | ⟨x, hx, h⟩
    · cases d with
      | nil => exact absurd rfl he
      | cons y r =>
        have h1 := vd_ge (v := List.replicate len n) (y :: r) y (by simp)
        rw [hnth y (by simp)] at h1
        omega
    · rw [← h, hnth x hx]
@[simp] theorem S10b (l : List Target) (v : List Int) (hs : l.length < 1099511627776 ∧ v.length < 1099511627776) (hl : ∀ x ∈ l, x.text.length < 1099511627776 ∧ x.deps.length < 1099511627776) (q : Fl) (ts : List (Option Nat)) (n : Nat) (hn : n = v.length) :
    Ci cfg (.func (.func 10) [] []) [R q eT l, .slice 0 0 n 1] ⟨[.cells (rows eI v)], ts⟩ = some (.ret (.tuple [R fl0 eM (maskS l v).1, .int .i64 (maskS l v).2]), ⟨[.frozen (rows eI v)], ts⟩) := by
  subst hn
  exact Ci_K2 cfg rfl rfl (handV_RS (h := ⟨[.cells (rows eI v)], ts⟩) (a := 0) rfl) (C10 l v hs hl)
theorem errS_shown {l : List Target} {v : List Int} {n : Int} (h : errS l v = 0) (hn : 0 ≤ n ∧ n ≤ 2) : errS l (List.replicate v.length n) = 0 := by
  have h1 := errS_in h
  have hv : verdictsS (List.replicate v.length n) = true := by
    unfold verdictsS; rw [List.all_eq_true]
    intro x hx
    rw [(List.mem_replicate.1 hx).2]; exact decide_eq_true hn
  have ha : l.all (fun x => rightS x.text x.deps (List.replicate v.length n).length) = true := by
    rw [List.all_eq_true]; intro x hx; rw [List.length_replicate]; exact (h1.2.2 x hx).1
  rw [errS_short (by simp; omega), hv, ha]; rfl
theorem C7 (l : List Target) (v : List Int) (to : Int) (hs : l.length < 1099511627776 ∧ v.length < 1099511627776) (hl : ∀ x ∈ l, x.text.length < 1099511627776 ∧ x.deps.length < 1099511627776) (hto : 0 ≤ to ∧ to ≤ 255) : Kc cfg 7 [R fl0 eT l, R fl0 eI v, .int .u8 to] (.ret (.bool true)) := by
  by_cases hsm : smallS l v = false
  · skip
    refine outS_of_wp cfg (fn := Tryd.f7) Tryd.func7 rfl (by simp [Tryd.f7]) ?_
    simp (disch := first | assumption | omega | (simp; done) | (simp; omega)) [-getElem?_pos, List.getElem?_cons_zero, List.getElem?_cons_succ, Tryd.f7, hsm]
    repeat' (first | (refine wpc_split _ (fun hc => ?_) (fun hc => ?_) <;> (try simp at hc)) | (refine ww_split _ (fun hc => ?_) (fun hc => ?_) <;> (try simp at hc)) | (refine wp_drawF (by kernel_rfl) ?_) | (refine wk_yldW _ ?_) | (refine layOwe _ (by kernel_rfl) ?_) | (refine owe ?_ (fun ho => ?_)) | (simp (disch := first | assumption | omega | (simp; done) | (simp; omega)) [hsm, -getElem?_pos, List.getElem?_cons_zero, List.getElem?_cons_succ]))
  have hsm : smallS l v = true := by simpa using hsm
  have hsm2 := hsm
  unfold smallS at hsm2
  simp only [Bool.and_eq_true, decide_eq_true_eq] at hsm2
  have he := hsm2.2
  have hin := errS_in he
  have hv := hin.1.2
  obtain ⟨n, hn, hn2⟩ : ∃ n : Int, to % 3 = n ∧ 0 ≤ n ∧ n ≤ 2 := ⟨_, rfl, by omega, by omega⟩
  refine outS_of_wp cfg (fn := Tryd.f7) Tryd.func7 rfl (by simp [Tryd.f7]) ?_
  simp (disch := first | assumption | omega | (simp; done) | (simp; omega)) [-getElem?_pos, List.getElem?_cons_zero, List.getElem?_cons_succ, Tryd.f7, hsm, hn, mkInts, hv]
  repeat' (first | (refine wpc_split _ (fun hc => ?_) (fun hc => ?_) <;> (try simp at hc)) | (refine ww_split _ (fun hc => ?_) (fun hc => ?_) <;> (try simp at hc)) | (refine wp_drawF (by kernel_rfl) ?_) | (refine wk_yldW _ ?_) | (refine layOwe _ (by kernel_rfl) ?_) | (refine owe ?_ (fun ho => ?_)) | (simp (disch := first | assumption | omega | (simp; done) | (simp; omega)) [hsm, hn, mkInts, hv, -getElem?_pos, List.getElem?_cons_zero, List.getElem?_cons_succ]))
  refine wp_loopE cfg rfl (fun f0 h0 m f h => ∃ (i : Nat) (L : List Int), f 0 = f0 0 ∧ f 7 = f0 7 ∧ f 8 = f0 8 ∧ f 28 = f0 28 ∧ f 29 = .int .i64 i ∧ h = ⟨[.cells (rows eI L)], h0.ts⟩ ∧ i + m = v.length ∧ L.length = v.length ∧ L.take i = List.replicate i n) v.length _ _ ⟨0, List.replicate v.length 0, rfl, rfl, rfl, rfl, by simp, by simp only [rowsI_rep]; rfl, by simp, by simp, by simp⟩ ?_
  rintro m f h ⟨i, L, u0, u7, u8, u28, u29, uh, hmm, hlen, htk⟩ ih
  simp at u0 u7 u8 u28 uh
  subst uh
  by_cases hi : i < v.length
  · repeat' (first | (refine wpc_split _ (fun hc => ?_) (fun hc => ?_) <;> (try simp at hc)) | (refine ww_split _ (fun hc => ?_) (fun hc => ?_) <;> (try simp at hc)) | (refine wp_drawF (by kernel_rfl) ?_) | (refine wk_yldW _ ?_) | (refine layOwe _ (by kernel_rfl) ?_) | (refine owe ?_ (fun ho => ?_)) | (simp (disch := first | assumption | omega | (simp; done) | (simp; omega)) [u0, u7, u8, u28, u29, rowsI_set, rows_length, hlen, -getElem?_pos, List.getElem?_cons_zero, List.getElem?_cons_succ]))
    exact ih (m - 1) _ _ (by omega) ⟨i + 1, L.set i n, by simp [u0], by simp [u7], by simp [u8], by simp [u28], by simp, by simp, by omega, by simp [hlen], by
      rw [nth_take (by simp; omega), nth_set (by omega), if_pos rfl, List.take_set_of_le (by omega), htk, List.replicate_succ']⟩
  · clear ih
    have hL : L = List.replicate v.length n := by
      rw [List.take_of_length_le (by omega)] at htk
      rw [htk]; congr 1; omega
    subst hL
    have hmk := maskS_ok (errS_shown (n := n) he hn2)
    repeat' (first | (refine wpc_split _ (fun hc => ?_) (fun hc => ?_) <;> (try simp at hc)) | (refine ww_split _ (fun hc => ?_) (fun hc => ?_) <;> (try simp at hc)) | (refine wp_drawF (by kernel_rfl) ?_) | (refine wk_yldW _ ?_) | (refine layOwe _ (by kernel_rfl) ?_) | (refine owe ?_ (fun ho => ?_)) | (simp (disch := first | assumption | omega | (simp; done) | (simp; omega)) [u0, u7, u8, u28, u29, hmk, -getElem?_pos, List.getElem?_cons_zero, List.getElem?_cons_succ]))
    refine wp_loopE cfg rfl (fun f0 h0 m f h => ∃ (j : Nat), f 0 = f0 0 ∧ f 7 = f0 7 ∧ f 52 = f0 52 ∧ f 53 = f0 53 ∧ f 54 = .int .i64 j ∧ j + m = l.length) l.length _ _ ⟨0, rfl, rfl, rfl, rfl, by simp, by simp⟩ ?_
    rintro m2 g H ⟨j, w0, w7, w52, w53, w54, wm⟩ ih
    simp [u0, u7] at w0 w7 w52 w53
    by_cases hj : j < l.length
    · have hnm : nth (l.map (markS (List.replicate v.length n))) j = markS (List.replicate v.length n) (nth l j) := by simp [nth, hj]
      have hx2 := (hin.2.2 _ (nth_mem hj)).2
      have hva := vd_all hn2.1 (len := v.length) (nth l j).deps hx2
      have hlst : ∀ b : Blk, (H.bs ++ [b])[H.bs.length]? = some b := fun b => by simp
      by_cases hd0 : (nth l j).deps = []
      · rw [if_pos hd0] at hva
        have hms : markS (List.replicate v.length n) (nth l j) = ⟨0, (nth l j).text, []⟩ := by simp [markS, hd0, vd]
        repeat' (first | (refine wpc_split _ (fun hc => ?_) (fun hc => ?_) <;> (try simp at hc)) | (refine ww_split _ (fun hc => ?_) (fun hc => ?_) <;> (try simp at hc)) | (refine wp_drawF (by kernel_rfl) ?_) | (refine wk_yldW _ ?_) | (refine layOwe _ (by kernel_rfl) ?_) | (refine owe ?_ (fun ho => ?_)) | (simp (disch := first | assumption | omega | (simp; done) | (simp; omega)) [w0, w7, w52, w53, w54, hnm, hms, hlst, eT, eM, hd0, -getElem?_pos, List.getElem?_cons_zero, List.getElem?_cons_succ]))
        all_goals exact ih (m2 - 1) _ _ (by omega) ⟨j + 1, by simp [w0, u0], by simp [w7, u7], by simp [w52], by simp [w53], by simp, by omega⟩
      · rw [if_neg hd0] at hva
        have hms : markS (List.replicate v.length n) (nth l j) = ⟨n, if n = 0 then (nth l j).text else if n = 2 then [45] else [], (nth l j).deps⟩ := by simp [markS, hva]
        have hdl : ¬ (nth l j).deps.length = 0 := by simpa using hd0
        by_cases hn0 : n = 0
        · subst hn0
          repeat' (first | (refine wpc_split _ (fun hc => ?_) (fun hc => ?_) <;> (try simp at hc)) | (refine ww_split _ (fun hc => ?_) (fun hc => ?_) <;> (try simp at hc)) | (refine wp_drawF (by kernel_rfl) ?_) | (refine wk_yldW _ ?_) | (refine layOwe _ (by kernel_rfl) ?_) | (refine owe ?_ (fun ho => ?_)) | (simp (disch := first | assumption | omega | (simp; done) | (simp; omega)) [w0, w7, w52, w53, w54, hnm, hms, hlst, eT, eM, hd0, hdl, -getElem?_pos, List.getElem?_cons_zero, List.getElem?_cons_succ]))
          all_goals exact ih (m2 - 1) _ _ (by omega) ⟨j + 1, by simp [w0, u0], by simp [w7, u7], by simp [w52], by simp [w53], by simp, by omega⟩
        · repeat' (first | (refine wpc_split _ (fun hc => ?_) (fun hc => ?_) <;> (try simp at hc)) | (refine ww_split _ (fun hc => ?_) (fun hc => ?_) <;> (try simp at hc)) | (refine wp_drawF (by kernel_rfl) ?_) | (refine wk_yldW _ ?_) | (refine layOwe _ (by kernel_rfl) ?_) | (refine owe ?_ (fun ho => ?_)) | (simp (disch := first | assumption | omega | (simp; done) | (simp; omega)) [w0, w7, w52, w53, w54, hnm, hms, hlst, eT, eM, hd0, hdl, hn0, -getElem?_pos, List.getElem?_cons_zero, List.getElem?_cons_succ]))
          all_goals exact ih (m2 - 1) _ _ (by omega) ⟨j + 1, by simp [w0, u0], by simp [w7, u7], by simp [w52], by simp [w53], by simp, by omega⟩
    · repeat' (first | (refine wpc_split _ (fun hc => ?_) (fun hc => ?_) <;> (try simp at hc)) | (refine ww_split _ (fun hc => ?_) (fun hc => ?_) <;> (try simp at hc)) | (refine wp_drawF (by kernel_rfl) ?_) | (refine wk_yldW _ ?_) | (refine layOwe _ (by kernel_rfl) ?_) | (refine owe ?_ (fun ho => ?_)) | (simp (disch := first | assumption | omega | (simp; done) | (simp; omega)) [w0, w7, w52, w53, w54, -getElem?_pos, List.getElem?_cons_zero, List.getElem?_cons_succ]))
@[simp] theorem S7 (l : List Target) (v : List Int) (to : Int) (hs : l.length < 1099511627776 ∧ v.length < 1099511627776) (hl : ∀ x ∈ l, x.text.length < 1099511627776 ∧ x.deps.length < 1099511627776) (hto : 0 ≤ to ∧ to ≤ 255) (q1 q2 : Fl) (hh : Heap) : Ci cfg (.func (.func 7) [] []) [R  q1 eT l, R  q2 eI v, .int .u8 to] hh = some (.ret (.bool true), hh) :=
  Ci_K cfg rfl rfl (by simp) (by simp) (C7 l v to hs hl hto)
end Go.Ab
