/- MasksEach: the law's function. -/
import Derived.Test.YthijadpjkcmioaaDoorM6
set_option linter.unusedVariables false
set_option linter.unusedSimpArgs false
set_option linter.unusedSectionVars false
set_option linter.deprecated false
namespace Go.Ab
open Go.Proofs
set_option maxRecDepth 100000
set_option maxHeartbeats 4000000
theorem vd_ge {v : List Int} : ∀ (d : List Int) (x : Int), x ∈ d → nth v x.toNat ≤ vd v d := by
  have key : ∀ (d : List Int) (n : Int), n ≤ d.foldl (fun n i => max n (nth v i.toNat)) n ∧ ∀ x ∈ d, nth v x.toNat ≤ d.foldl (fun n i => max n (nth v i.toNat)) n := by
    intro d
    induction d with
    | nil => intro n; simp
    | cons y r ih =>
      intro n
      rw [List.foldl_cons]
      obtain ⟨h1, h2⟩ := ih (max n (nth v y.toNat))
      refine ⟨by omega, fun x hx => ?_⟩
      rcases List.mem_cons.1 hx with rfl | hx
      · omega
      · exact h2 x hx
  exact fun d => (key d 0).2
theorem vd_met {v : List Int} (d : List Int) : vd v d = 0 ∨ ∃ x ∈ d, nth v x.toNat = vd v d := by
  have key : ∀ (d : List Int) (n : Int), d.foldl (fun n i => max n (nth v i.toNat)) n = n ∨ ∃ x ∈ d, nth v x.toNat = d.foldl (fun n i => max n (nth v i.toNat)) n := by
    intro d
    induction d with
    | nil => intro n; simp
    | cons y r ih =>
      intro n
      rw [List.foldl_cons]
      rcases ih (max n (nth v y.toNat)) with h | ⟨x, hx, h⟩
      · rw [h]
        by_cases hm : n ≤ nth v y.toNat
        · right; exact ⟨y, by simp, by omega⟩
        · left; omega
      · right; exact ⟨x, List.mem_cons_of_mem _ hx, h⟩
  exact key d 0
theorem errS_part {l : List Target} {v : List Int} {k : Nat} (h : errS l v = 0) : errS (l.take k) v = 0 ∧ errS (l.drop k) v = 0 := by
  have h1 := errS_in h
  have ha : l.all (fun x => rightS x.text x.deps v.length) = true := by
    rw [List.all_eq_true]; exact fun x hx => (h1.2.2 x hx).1
  constructor
  · rw [errS_short (by simp; omega), h1.2.1]
    have : (l.take k).all (fun x => rightS x.text x.deps v.length) = true := by
      rw [List.all_eq_true] at ha ⊢; exact fun x hx => ha x (List.mem_of_mem_take hx)
    rw [this]; rfl
  · rw [errS_short (by simp; omega), h1.2.1]
    have : (l.drop k).all (fun x => rightS x.text x.deps v.length) = true := by
      rw [List.all_eq_true] at ha ⊢; exact fun x hx => ha x (List.mem_of_mem_drop hx)
    rw [this]; rfl
theorem maskS_ok {l : List Target} {v : List Int} (h : errS l v = 0) : maskS l v = (l.map (markS v), 0) := by unfold maskS; rw [if_pos h]
theorem C5 (l : List Target) (v : List Int) (ka : Int) (hs : l.length < 1099511627776 ∧ v.length < 1099511627776) (hl : ∀ x ∈ l, x.text.length < 1099511627776 ∧ x.deps.length < 1099511627776) (hat : 0 ≤ ka ∧ ka ≤ 255) : Kc cfg 5 [R fl0 eT l, R fl0 eI v, .int .u8 ka] (.ret (.bool true)) := by
  by_cases hsm : smallS l v = false
  · skip
    refine outS_of_wp cfg (fn := Tryd.f5) Tryd.func5 rfl (by simp [Tryd.f5]) ?_
    simp (disch := first | assumption | omega | (simp; done) | (simp; omega)) [-getElem?_pos, List.getElem?_cons_zero, List.getElem?_cons_succ, Tryd.f5, hsm]
    repeat' (first | (refine wpc_split _ (fun hc => ?_) (fun hc => ?_) <;> (try simp at hc)) | (refine ww_split _ (fun hc => ?_) (fun hc => ?_) <;> (try simp at hc)) | (refine wp_drawF (by kernel_rfl) ?_) | (refine wk_yldW _ ?_) | (refine layOwe _ (by kernel_rfl) ?_) | (refine owe ?_ (fun ho => ?_)) | (simp (disch := first | assumption | omega | (simp; done) | (simp; omega)) [hsm, -getElem?_pos, List.getElem?_cons_zero, List.getElem?_cons_succ]))
  have hsm : smallS l v = true := by simpa using hsm
  have hsm2 := hsm
  unfold smallS at hsm2
  simp only [Bool.and_eq_true, decide_eq_true_eq] at hsm2
  have he := hsm2.2
  have hin := errS_in he
  have hm := maskS_ok he
  obtain ⟨k, hk⟩ : ∃ k : Nat, (k : Int) = ka % ((l.length : Int) + 1) ∧ k ≤ l.length := by
    refine ⟨(ka % ((l.length : Int) + 1)).toNat, ?_, ?_⟩
    · have := Int.emod_nonneg ka (b := (l.length : Int) + 1) (by omega); omega
    · have := Int.emod_lt_of_pos ka (b := (l.length : Int) + 1) (by omega); omega
  have hm1 := maskS_ok (errS_part (k := k) he).1
  have hm2 := maskS_ok (errS_part (k := k) he).2
  have hl1 : ∀ x ∈ l.take k, x.text.length < 1099511627776 ∧ x.deps.length < 1099511627776 := fun x hx => hl x (List.mem_of_mem_take hx)
  have hl2 : ∀ x ∈ l.drop k, x.text.length < 1099511627776 ∧ x.deps.length < 1099511627776 := fun x hx => hl x (List.mem_of_mem_drop hx)
  have hd : ∀ x ∈ l.map (markS v), x.deps.length < 1099511627776 := by
    have := maskS_deps (v := v) hl
    rw [hm] at this; exact this
  have hkm : ka % ((l.length : Int) + 1) = (k : Int) := hk.1.symm
  have hk2 := hk.2
  have hnil : V.row false true [] 0 none = R (false, true, none) eM [] := rfl
  obtain ⟨fl1, h1, q1, A1, b1, _⟩ := append_Rm (P := Tryd.prog) (h := emptyH) (fl := (false, true, none)) (fl2 := fl0) (l := []) (m := (l.take k).map (markS v)) (E := eM) (sz := 3) (ts := #[26, 26]) (by simp) (App.full _ _ _) (by simp; omega)
  obtain ⟨fl2, h2, q2, A2, b2, _⟩ := append_Rm (P := Tryd.prog) (h := h1) (fl := fl1) (fl2 := fl0) (l := [] ++ (l.take k).map (markS v)) (m := (l.drop k).map (markS v)) (E := eM) (sz := 3) (ts := #[26, 26]) (by simp) A1 (by simp; omega)
  have hjoin : (l.take k).map (markS v) ++ (l.drop k).map (markS v) = l.map (markS v) := by rw [← List.map_append, List.take_append_drop]
  simp only [List.nil_append, List.map_take, List.map_drop, List.take_append_drop] at q1 q2
  refine outS_of_wp cfg (fn := Tryd.f5) Tryd.func5 rfl (by simp [Tryd.f5]) ?_
  simp (disch := first | assumption | omega | (simp; done) | (simp; omega)) [-getElem?_pos, List.getElem?_cons_zero, List.getElem?_cons_succ, Tryd.f5, hsm, hkm, hm, hm1, hm2]
  repeat' (first | (refine wpc_split _ (fun hc => ?_) (fun hc => ?_) <;> (try simp at hc)) | (refine ww_split _ (fun hc => ?_) (fun hc => ?_) <;> (try simp at hc)) | (refine wp_drawF (by kernel_rfl) ?_) | (refine wk_yldW _ ?_) | (refine layOwe _ (by kernel_rfl) ?_) | (refine owe ?_ (fun ho => ?_)) | (simp (disch := first | assumption | omega | (simp; done) | (simp; omega)) [hsm, hkm, hm, hm1, hm2, hnil, q1, q2, -getElem?_pos, List.getElem?_cons_zero, List.getElem?_cons_succ]))
  refine wp_loopE cfg rfl (fun f0 h0 m f h => ∃ (i : Nat) (X : List Blk), f 1 = f0 1 ∧ f 8 = f0 8 ∧ f 80 = f0 80 ∧ f 81 = f0 81 ∧ f 82 = .int .i64 i ∧ i + m = l.length) l.length _ _ ⟨0, [], rfl, rfl, rfl, rfl, by simp, by simp⟩ ?_
  rintro m f h ⟨i, X, u1, u8, u80, u81, u82, hmm⟩ ih
  simp at u1 u8 u80 u81
  by_cases hi : i < l.length
  · have hn : nth (l.map (markS v)) i = markS v (nth l i) := by simp [nth, hi]
    have hx2 := (hin.2.2 _ (nth_mem hi)).2
    have hx3 := rightS_len (hin.2.2 _ (nth_mem hi)).1 hin.1.2
    have hlst : ∀ b : Blk, (h.bs ++ [b])[h.bs.length]? = some b := fun b => by simp
    have hmk : (markS v (nth l i)).verdict = vd v (nth l i).deps := rfl
    repeat' (first | (refine wpc_split _ (fun hc => ?_) (fun hc => ?_) <;> (try simp at hc)) | (refine ww_split _ (fun hc => ?_) (fun hc => ?_) <;> (try simp at hc)) | (refine wp_drawF (by kernel_rfl) ?_) | (refine wk_yldW _ ?_) | (refine layOwe _ (by kernel_rfl) ?_) | (refine owe ?_ (fun ho => ?_)) | (simp (disch := first | assumption | omega | (simp; done) | (simp; omega)) [u1, u8, u80, u81, u82, hn, eT, eM, hlst, -getElem?_pos, List.getElem?_cons_zero, List.getElem?_cons_succ]))
    have hD : ∀ x ∈ (nth l i).deps, nth v x.toNat ≤ vd v (nth l i).deps := vd_ge _
    have hM := vd_met (v := v) (nth l i).deps
    refine wp_loopE cfg rfl (fun f0 h0 m f h => ∃ (j : Nat), f 1 = f0 1 ∧ f 8 = f0 8 ∧ f 14 = f0 14 ∧ f 80 = f0 80 ∧ f 81 = f0 81 ∧ f 82 = f0 82 ∧ f 94 = f0 94 ∧ f 95 = f0 95 ∧ f 96 = .int .i64 j ∧ f 16 = .bool (decide (vd v (nth l i).deps = 0 ∨ ∃ x ∈ (nth l i).deps.take j, nth v x.toNat = vd v (nth l i).deps)) ∧ j + m = (nth l i).deps.length) (nth l i).deps.length _ _ ⟨0, rfl, rfl, rfl, rfl, rfl, rfl, rfl, rfl, by simp, by simp [hmk]; rfl, by simp⟩ ?_
    rintro m2 g2 H2 ⟨j, w1, w8, w14, w80, w81, w82, w94, w95, w96, w16, wm⟩ ih2
    simp [u1, u8, u80, u81, u82] at w1 w8 w14 w80 w81 w82 w94 w95
    by_cases hj : j < (nth l i).deps.length
    · have hy := hx2 _ (nth_mem hj)
      have hz := hD _ (nth_mem hj)
      have htk : (nth l i).deps.take (j + 1) = (nth l i).deps.take j ++ [nth (nth l i).deps j] := nth_take hj
      by_cases hb : vd v (nth l i).deps = 0 ∨ ∃ x ∈ (nth l i).deps.take j, nth v x.toNat = vd v (nth l i).deps
      · rw [decide_eq_true hb] at w16
        repeat' (first | (refine wpc_split _ (fun hc => ?_) (fun hc => ?_) <;> (try simp at hc)) | (refine ww_split _ (fun hc => ?_) (fun hc => ?_) <;> (try simp at hc)) | (refine wp_drawF (by kernel_rfl) ?_) | (refine wk_yldW _ ?_) | (refine layOwe _ (by kernel_rfl) ?_) | (refine owe ?_ (fun ho => ?_)) | (simp (disch := first | assumption | omega | (simp; done) | (simp; omega)) [w1, w8, w14, w80, w81, w82, w94, w95, w96, w16, hn, eI, eM, hmk, -getElem?_pos, List.getElem?_cons_zero, List.getElem?_cons_succ]))
        exact ih2 (m2 - 1) _ _ (by omega) ⟨j + 1, by simp [w1, u1], by simp [w8, u8], by simp [w14], by simp [w80, u80], by simp [w81, u81], by simp [w82, u82], by simp [w94], by simp [w95], by simp, by
          have : vd v (nth l i).deps = 0 ∨ ∃ x ∈ (nth l i).deps.take (j + 1), nth v x.toNat = vd v (nth l i).deps := by
            rcases hb with h | ⟨x, hx, h⟩
            · exact .inl h
            · exact .inr ⟨x, by rw [htk]; simp [hx], h⟩
          rw [decide_eq_true this]; simp, by omega⟩
      · rw [decide_eq_false hb] at w16
        have hiff : (vd v (nth l i).deps = 0 ∨ ∃ x ∈ (nth l i).deps.take (j + 1), nth v x.toNat = vd v (nth l i).deps) ↔ nth v (nth (nth l i).deps j).toNat = vd v (nth l i).deps := by
          rw [htk]
          constructor
          · rintro (h | ⟨x, hx, h⟩)
            · exact absurd (.inl h) hb
            · rcases List.mem_append.1 hx with hx | hx
              · exact absurd (.inr ⟨x, hx, h⟩) hb
              · simp only [List.mem_singleton] at hx; rw [← hx]; exact h
          · intro h; exact .inr ⟨_, by simp, h⟩
        repeat' (first | (refine wpc_split _ (fun hc => ?_) (fun hc => ?_) <;> (try simp at hc)) | (refine ww_split _ (fun hc => ?_) (fun hc => ?_) <;> (try simp at hc)) | (refine wp_drawF (by kernel_rfl) ?_) | (refine wk_yldW _ ?_) | (refine layOwe _ (by kernel_rfl) ?_) | (refine owe ?_ (fun ho => ?_)) | (simp (disch := first | assumption | omega | (simp; done) | (simp; omega)) [w1, w8, w14, w80, w81, w82, w94, w95, w96, w16, hn, eI, eM, hmk, -getElem?_pos, List.getElem?_cons_zero, List.getElem?_cons_succ]))
        exact ih2 (m2 - 1) _ _ (by omega) ⟨j + 1, by simp [w1, u1], by simp [w8, u8], by simp [w14], by simp [w80, u80], by simp [w81, u81], by simp [w82, u82], by simp [w94], by simp [w95], by simp, by
          simp only [hiff]; simp; rfl, by omega⟩
    · clear ih2
      rw [List.take_of_length_le (by omega), decide_eq_true hM] at w16
      repeat' (first | (refine wpc_split _ (fun hc => ?_) (fun hc => ?_) <;> (try simp at hc)) | (refine ww_split _ (fun hc => ?_) (fun hc => ?_) <;> (try simp at hc)) | (refine wp_drawF (by kernel_rfl) ?_) | (refine wk_yldW _ ?_) | (refine layOwe _ (by kernel_rfl) ?_) | (refine owe ?_ (fun ho => ?_)) | (simp (disch := first | assumption | omega | (simp; done) | (simp; omega)) [w1, w8, w14, w80, w81, w82, w94, w95, w96, w16, hn, eI, eM, hmk, -getElem?_pos, List.getElem?_cons_zero, List.getElem?_cons_succ]))
      exact ih (m - 1) _ _ (by omega) ⟨i + 1, [], by simp [w1], by simp [w8], by simp [w80], by simp [w81], by simp, by omega⟩
  · repeat' (first | (refine wpc_split _ (fun hc => ?_) (fun hc => ?_) <;> (try simp at hc)) | (refine ww_split _ (fun hc => ?_) (fun hc => ?_) <;> (try simp at hc)) | (refine wp_drawF (by kernel_rfl) ?_) | (refine wk_yldW _ ?_) | (refine layOwe _ (by kernel_rfl) ?_) | (refine owe ?_ (fun ho => ?_)) | (simp (disch := first | assumption | omega | (simp; done) | (simp; omega)) [u1, u8, u80, u81, u82, -getElem?_pos, List.getElem?_cons_zero, List.getElem?_cons_succ]))
@[simp] theorem S5 (l : List Target) (v : List Int) (ka : Int) (hs : l.length < 1099511627776 ∧ v.length < 1099511627776) (hl : ∀ x ∈ l, x.text.length < 1099511627776 ∧ x.deps.length < 1099511627776) (hat : 0 ≤ ka ∧ ka ≤ 255) (q1 q2 : Fl) (hh : Heap) : Ci cfg (.func (.func 5) [] []) [R  q1 eT l, R  q2 eI v, .int .u8 ka] hh = some (.ret (.bool true), hh) :=
  Ci_K cfg rfl rfl (by simp) (by simp) (C5 l v ka hs hl hat)
end Go.Ab
