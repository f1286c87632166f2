/- SentencesRest: the law. -/
import Derived.Test.YtfgkjpfdpcjciaaDoorD32Later
import Derived.Test.YtfgkjpfdpcjciaaDoorP32c
set_option linter.unusedVariables false
set_option linter.unusedSimpArgs false
set_option linter.unusedSectionVars false
set_option linter.deprecated false
namespace Go.Ab
open Go.Proofs
set_option maxRecDepth 100000
set_option maxHeartbeats 4000000
theorem C6 (w : List Wrd) (gap most t b : Int) (hs : smXs w) (hb : 0 ≤ b ∧ b ≤ 255) : Kc cfg 6 [R fl0 eW w, .int .i64 gap, .int .i64 most, .int .i64 t, .int .u8 b] (.ret (.bool true)) := by
  have hs1 := hs.1
  cases hr : rgW w gap most with
  | false =>
    refine outS_of_wp cfg (fn := Tryd.f6) Tryd.func6 rfl (by simp [Tryd.f6]) ?_
    simp (disch := first | assumption | omega | (simp; done) | (simp; omega)) [-getElem?_pos, List.getElem?_cons_zero, List.getElem?_cons_succ, Tryd.f6, hs, hr, emptyH]
    repeat' (first | (refine wpc_split _ (fun hc => ?_) (fun hc => ?_) <;> (try simp at hc)) | (refine ww_split _ (fun hc => ?_) (fun hc => ?_) <;> (try simp at hc)) | (refine wp_drawF (by kernel_rfl) ?_) | (refine wk_yldW _ ?_) | (refine layOwe _ (by kernel_rfl) ?_) | (refine owe ?_ (fun ho => ?_)) | (simp (disch := first | assumption | omega | (simp; done) | (simp; omega)) [hs, hr, emptyH, -getElem?_pos, List.getElem?_cons_zero, List.getElem?_cons_succ]))
    all_goals first | rfl | (exfalso; omega)
  | true =>
    obtain ⟨h60, he⟩ := rgW_of hr
    by_cases ht : 0 ≤ t ∧ t < 1099511627776
    · obtain ⟨t1, t2⟩ := ht
      have hc := clS_ok he ⟨t1, t2⟩
      have hen := enS_ok he
      by_cases h0 : w.length = 0
      · have hw0 : w = [] := List.length_eq_zero_iff.1 h0
        subst hw0
        have c1 : cntF [] gap most t ([] : List Wrd).length = 0 := rfl
        rw [c1] at hc
        have hen0 : enS [] gap most = [] := by rw [hen]; rfl
        refine outS_of_wp cfg (fn := Tryd.f6) Tryd.func6 rfl (by simp [Tryd.f6]) ?_
        simp (disch := first | assumption | omega | (simp; done) | (simp; omega)) [-getElem?_pos, List.getElem?_cons_zero, List.getElem?_cons_succ, Tryd.f6, hs, hr, emptyH, t1, t2, hc, hen0, he]
        repeat' (first | (refine wpc_split _ (fun hc => ?_) (fun hc => ?_) <;> (try simp at hc)) | (refine ww_split _ (fun hc => ?_) (fun hc => ?_) <;> (try simp at hc)) | (refine wp_drawF (by kernel_rfl) ?_) | (refine wk_yldW _ ?_) | (refine layOwe _ (by kernel_rfl) ?_) | (refine owe ?_ (fun ho => ?_)) | (simp (disch := first | assumption | omega | (simp; done) | (simp; omega)) [hs, hr, emptyH, t1, t2, hc, hen0, he, -getElem?_pos, List.getElem?_cons_zero, List.getElem?_cons_succ]))
        all_goals first | rfl | (exfalso; omega)
      · obtain ⟨j, hj⟩ : ∃ j, w.length = j + 1 := ⟨w.length - 1, by omega⟩
        have hee := endsW_end (gap := gap) (most := most) hj
        have hel := endsW_len w gap most w.length
        have hpos : 0 < (endsW w gap most w.length).length := by rw [hee]; simp
        obtain ⟨k, hk⟩ : ∃ k : Nat, k = b.toNat % (endsW w gap most w.length).length := ⟨_, rfl⟩
        have hkl : k < (endsW w gap most w.length).length := by rw [hk]; exact Nat.mod_lt _ hpos
        obtain ⟨e, r1, r2, r3, r4, r5, r6⟩ := rest_of (t := t) hkl
        have hed := erS_drop he e
        have hcd := clS_ok hed ⟨t1, t2⟩
        have hendd := enS_ok hed
        have hsd : smXs (w.drop e) := ⟨by rw [List.length_drop]; omega, fun x hx => hs.2 x (List.mem_of_mem_drop hx)⟩
        have hnl := cntF_le w gap most t w.length
        have hml := cntF_le (w.drop e) gap most t (w.drop e).length
        have hfl := endsW_len (w.drop e) gap most (w.drop e).length
        generalize hF : endsW (w.drop e) gap most (w.drop e).length = F at *
        generalize hE : endsW w gap most w.length = E at *
        generalize hG : endsW w gap most e = G at *
        have hEl : E.length = k + 1 + F.length := by rw [r4, List.length_append, r5, List.length_map]
        have hnx : ∀ i, i < F.length → nth E (k + 1 + i) = nth F i + e := fun i hi => by
          rw [r4]
          unfold nth
          rw [List.getD_eq_getElem?_getD, List.getElem?_append_right (by omega), r5, Nat.add_sub_cancel_left]
          simp [List.getD_eq_getElem?_getD, hi]
        have hrem : b % (E.length : Int) = (k : Int) := by
          rw [hk]
          have : b = (b.toNat : Int) := by omega
          rw [this]; simp
        have hrem2 : b % ((k : Int) + 1 + (F.length : Int)) = (k : Int) := by
          have e1 : ((E.length : Nat) : Int) = (k : Int) + 1 + (F.length : Int) := by omega
          rw [e1] at hrem; exact hrem
        have hFb : ∀ i, i < F.length → 0 ≤ nth F i ∧ nth F i ≤ 60 := fun i hi => by
          have h1 : i < (endsW (w.drop e) gap most (w.drop e).length).length := by rw [hF]; exact hi
          obtain ⟨q, q1, q2, _, _⟩ := end_at h1
          rw [hF] at q2
          rw [q2]
          rw [List.length_drop] at q1
          omega
        have hE60 : E.length ≤ 60 := by omega
        generalize hN : cntF w gap most t w.length = n at *
        generalize hM : cntF (w.drop e) gap most t (w.drop e).length = m at *
        have hE0 : ¬ E = [] := fun x => by rw [x] at hpos; simp at hpos
        refine outS_of_wp cfg (fn := Tryd.f6) Tryd.func6 rfl (by simp [Tryd.f6]) ?_
        simp (disch := first | assumption | omega | (simp; done) | (simp; omega)) [-getElem?_pos, List.getElem?_cons_zero, List.getElem?_cons_succ, Tryd.f6, hs, hr, emptyH, t1, t2, hc, hen, he]
        repeat' (first | (refine wpc_split _ (fun hc => ?_) (fun hc => ?_) <;> (try simp at hc)) | (refine ww_split _ (fun hc => ?_) (fun hc => ?_) <;> (try simp at hc)) | (refine wp_drawF (by kernel_rfl) ?_) | (refine wk_yldW _ ?_) | (refine layOwe _ (by kernel_rfl) ?_) | (refine owe ?_ (fun ho => ?_)) | (simp (disch := first | assumption | omega | (simp; done) | (simp; omega)) [hs, hr, emptyH, t1, t2, hc, hen, he, hE0, hrem, hrem2, hkl, r3, r2, eI, hsd, hed, hcd, hendd, hEl, -getElem?_pos, List.getElem?_cons_zero, List.getElem?_cons_succ]))
        all_goals try (exfalso; omega)
        refine wp_loopE cfg rfl (fun f0 h0 m fr h => ∃ i : Nat, fr 11 = f0 11 ∧ fr 13 = f0 13 ∧ fr 15 = f0 15 ∧ fr 16 = f0 16 ∧ fr 18 = f0 18 ∧ fr 123 = f0 123 ∧ fr 124 = f0 124 ∧ fr 125 = .int .i64 i ∧ (i + m = F.length)) (F.length) _ _ ⟨0, rfl, rfl, rfl, rfl, rfl, rfl, rfl, by first | rfl | (simp; done) | (simp [R]; done) | simp [R], by first | rfl | (simp; done) | omega⟩ ?_
        rintro Am Af Ah ⟨i, A11, A13, A15, A16, A18, A123, A124, A125, hm⟩ Aih
        try simp at A11 A13 A15 A16 A18 A123 A124
        by_cases hi : i < F.length
        · have q1 := hnx i hi
          obtain ⟨q2, q3⟩ := hFb i hi
          have q4 : k + 1 + i < E.length := by omega
          have qt : ((k : Int) + 1 + i).toNat = k + 1 + i := by omega
          repeat' (first | (refine wpc_split _ (fun hc => ?_) (fun hc => ?_) <;> (try simp at hc)) | (refine ww_split _ (fun hc => ?_) (fun hc => ?_) <;> (try simp at hc)) | (refine wp_drawF (by kernel_rfl) ?_) | (refine wk_yldW _ ?_) | (refine layOwe _ (by kernel_rfl) ?_) | (refine owe ?_ (fun ho => ?_)) | (simp (disch := first | assumption | omega | (simp; done) | (simp; omega)) [A11, A13, A15, A16, A18, A123, A124, A125, eI, hi, hkl, q1, q4, qt, r3, r2, hEl, -getElem?_pos, List.getElem?_cons_zero, List.getElem?_cons_succ]))
          all_goals try (exfalso; omega)
          exact Aih (Am - 1) _ _ (by omega) ⟨i + 1, by simp [A11, A13, A15, A16, A18, A123, A124, A125], by simp [A11, A13, A15, A16, A18, A123, A124, A125], by simp [A11, A13, A15, A16, A18, A123, A124, A125], by simp [A11, A13, A15, A16, A18, A123, A124, A125], by simp [A11, A13, A15, A16, A18, A123, A124, A125], by simp [A11, A13, A15, A16, A18, A123, A124, A125], by simp [A11, A13, A15, A16, A18, A123, A124, A125], by simp [A11, A13, A15, A16, A18, A123, A124, A125], by omega⟩
        · by_cases hF0 : F = []
          · subst hF0
            repeat' (first | (refine wpc_split _ (fun hc => ?_) (fun hc => ?_) <;> (try simp at hc)) | (refine ww_split _ (fun hc => ?_) (fun hc => ?_) <;> (try simp at hc)) | (refine wp_drawF (by kernel_rfl) ?_) | (refine wk_yldW _ ?_) | (refine layOwe _ (by kernel_rfl) ?_) | (refine owe ?_ (fun ho => ?_)) | (simp (disch := first | assumption | omega | (simp; done) | (simp; omega)) [A11, A13, A15, A16, A18, A123, A124, A125, -getElem?_pos, List.getElem?_cons_zero, List.getElem?_cons_succ]))
            all_goals first | rfl | (exfalso; omega) | omega
          · have hnm := r6 hF0
            repeat' (first | (refine wpc_split _ (fun hc => ?_) (fun hc => ?_) <;> (try simp at hc)) | (refine ww_split _ (fun hc => ?_) (fun hc => ?_) <;> (try simp at hc)) | (refine wp_drawF (by kernel_rfl) ?_) | (refine wk_yldW _ ?_) | (refine layOwe _ (by kernel_rfl) ?_) | (refine owe ?_ (fun ho => ?_)) | (simp (disch := first | assumption | omega | (simp; done) | (simp; omega)) [A11, A13, A15, A16, A18, A123, A124, A125, hF0, -getElem?_pos, List.getElem?_cons_zero, List.getElem?_cons_succ]))
            all_goals first | rfl | (exfalso; omega) | omega
    · skip
      refine outS_of_wp cfg (fn := Tryd.f6) Tryd.func6 rfl (by simp [Tryd.f6]) ?_
      simp (disch := first | assumption | omega | (simp; done) | (simp; omega)) [-getElem?_pos, List.getElem?_cons_zero, List.getElem?_cons_succ, Tryd.f6, hs, hr, emptyH]
      repeat' (first | (refine wpc_split _ (fun hc => ?_) (fun hc => ?_) <;> (try simp at hc)) | (refine ww_split _ (fun hc => ?_) (fun hc => ?_) <;> (try simp at hc)) | (refine wp_drawF (by kernel_rfl) ?_) | (refine wk_yldW _ ?_) | (refine layOwe _ (by kernel_rfl) ?_) | (refine owe ?_ (fun ho => ?_)) | (simp (disch := first | assumption | omega | (simp; done) | (simp; omega)) [hs, hr, emptyH, -getElem?_pos, List.getElem?_cons_zero, List.getElem?_cons_succ]))
      all_goals first | rfl | (exfalso; omega)
@[simp] theorem S6 (w : List Wrd) (gap most t b : Int) (hs : smXs w) (hb : 0 ≤ b ∧ b ≤ 255) (q1 : Fl) (hh : Heap) : Ci cfg (.func (.func 6) [] []) [R  q1 eW w, .int .i64 gap, .int .i64 most, .int .i64 t, .int .u8 b] hh = some (.ret (.bool true), hh) :=
  Ci_K cfg rfl rfl (by simp) (by simp) (C6 w gap most t b hs hb)
end Go.Ab
