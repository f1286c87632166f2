/- SentencesClosed: the law. -/
import Derived.Test.YtfgkjpfdpcjciaaDoorD32Later
import Derived.Test.YtfgkjpfdpcjciaaDoorP32b
set_option linter.unusedVariables false
set_option linter.unusedSimpArgs false
set_option linter.unusedSectionVars false
set_option linter.deprecated false
namespace Go.Ab
open Go.Proofs
set_option maxRecDepth 100000
set_option maxHeartbeats 4000000
theorem C4 (w more : List Wrd) (gap most t : Int) (hs : smXs w) (hm : smXs more) (hb : w.length ≤ 1048576 ∧ more.length ≤ 1048576) : Kc cfg 4 [R fl0 eW w, R fl0 eW more, .int .i64 gap, .int .i64 most, .int .i64 t] (.ret (.bool true)) := by
  have hs1 := hs.1
  have hm1 := hm.1
  have ha : smXs (w ++ more) := ⟨by rw [List.length_append]; omega, fun x hx => by
    rcases List.mem_append.1 hx with h | h
    · exact hs.2 x h
    · exact hm.2 x h⟩
  have hal : (w ++ more).length = w.length + more.length := List.length_append
  obtain ⟨bz, bz1, bz2⟩ := apok_apz (P := Tryd.prog) (ts := #[22, 22]) (sz := 5) (by simp)
  obtain ⟨f1, h1, ap1, hp1, hbs1, _⟩ := append_R_any (P := Tryd.prog) (E := eW) (h := ⟨[], []⟩) (fl := (false, true, none)) (l := []) (fl2 := fl0) (m := w) bz1 (App.full _ _ _) (by simp; omega) bz2
  obtain ⟨f2, h2, ap2, hp2, hbs2, _⟩ := append_R_any (P := Tryd.prog) (E := eW) (h := h1) (fl := f1) (l := w) (fl2 := fl0) (m := more) bz1 hp1 (by omega) bz2
  have ap1' : appendV Tryd.prog ⟨[], []⟩ false #[22, 22] (.row false true [] 0 none) (R fl0 eW w) = some (R f1 eW w, h1) := ap1
  generalize hA : w ++ more = A at *
  cases hr1 : rgW A gap most with
  | false =>
    refine outS_of_wp cfg (fn := Tryd.f4) Tryd.func4 rfl (by simp [Tryd.f4]) ?_
    simp (disch := first | assumption | omega | (simp; done) | (simp; omega)) [-getElem?_pos, List.getElem?_cons_zero, List.getElem?_cons_succ, Tryd.f4, hs, ha, hr1, emptyH, ap1', ap2]
    repeat' (first | (refine wpc_split _ (fun hc => ?_) (fun hc => ?_) <;> (try simp at hc)) | (refine ww_split _ (fun hc => ?_) (fun hc => ?_) <;> (try simp at hc)) | (refine wp_drawF (by kernel_rfl) ?_) | (refine wk_yldW _ ?_) | (refine layOwe _ (by kernel_rfl) ?_) | (refine owe ?_ (fun ho => ?_)) | (simp (disch := first | assumption | omega | (simp; done) | (simp; omega)) [hs, ha, hr1, emptyH, ap1', ap2, -getElem?_pos, List.getElem?_cons_zero, List.getElem?_cons_succ]))
    all_goals first | rfl | (exfalso; omega)
  | true =>
    cases hr2 : rgW w gap most with
    | false =>
      refine outS_of_wp cfg (fn := Tryd.f4) Tryd.func4 rfl (by simp [Tryd.f4]) ?_
      simp (disch := first | assumption | omega | (simp; done) | (simp; omega)) [-getElem?_pos, List.getElem?_cons_zero, List.getElem?_cons_succ, Tryd.f4, hs, ha, hr1, hr2, emptyH, ap1', ap2]
      repeat' (first | (refine wpc_split _ (fun hc => ?_) (fun hc => ?_) <;> (try simp at hc)) | (refine ww_split _ (fun hc => ?_) (fun hc => ?_) <;> (try simp at hc)) | (refine wp_drawF (by kernel_rfl) ?_) | (refine wk_yldW _ ?_) | (refine layOwe _ (by kernel_rfl) ?_) | (refine owe ?_ (fun ho => ?_)) | (simp (disch := first | assumption | omega | (simp; done) | (simp; omega)) [hs, ha, hr1, hr2, emptyH, ap1', ap2, -getElem?_pos, List.getElem?_cons_zero, List.getElem?_cons_succ]))
      all_goals first | rfl | (exfalso; omega)
    | true =>
      obtain ⟨_, hea⟩ := rgW_of hr1
      obtain ⟨_, hew⟩ := rgW_of hr2
      by_cases ht : 0 ≤ t ∧ t < 1099511627776
      · obtain ⟨t1, t2⟩ := ht
        by_cases hq : more ≠ [] → t ≤ (nth more 0).frm
        · obtain ⟨n, r, c1, c2, c3⟩ := closed_pre (gap := gap) (most := most) (w := w) hq
          rw [hA] at c3
          have hc := clS_ok hew ⟨t1, t2⟩
          rw [c1] at hc
          have en1 := enS_ok hew
          have en2 := enS_ok hea
          rw [c3] at en2
          have hEl := enS_sm (gap := gap) (most := most) hs.1
          generalize hE : endsW w gap most w.length = E at *
          have hln : (E.take n).length = n := by rw [List.length_take]; omega
          have htk : (E.take n ++ r).take n = E.take n := by rw [List.take_append_of_le_length (by omega), List.take_take]; simp
          have hl2 : n ≤ (E.take n ++ r).length := by rw [List.length_append]; omega
          have hl3 : (E.take n).length < 1099511627776 := by rw [en1] at hEl; omega
          generalize hG : E.take n ++ r = G at *
          by_cases hm0 : more = []
          · subst hm0
            refine outS_of_wp cfg (fn := Tryd.f4) Tryd.func4 rfl (by simp [Tryd.f4]) ?_
            simp (disch := first | assumption | omega | (simp; done) | (simp; omega)) [-getElem?_pos, List.getElem?_cons_zero, List.getElem?_cons_succ, Tryd.f4, hs, ha, hr1, hr2, emptyH, ap1', ap2]
            repeat' (first | (refine wpc_split _ (fun hc => ?_) (fun hc => ?_) <;> (try simp at hc)) | (refine ww_split _ (fun hc => ?_) (fun hc => ?_) <;> (try simp at hc)) | (refine wp_drawF (by kernel_rfl) ?_) | (refine wk_yldW _ ?_) | (refine layOwe _ (by kernel_rfl) ?_) | (refine owe ?_ (fun ho => ?_)) | (simp (disch := first | assumption | omega | (simp; done) | (simp; omega)) [hs, ha, hr1, hr2, emptyH, ap1', ap2, t1, t2, en1, en2, hc, hew, hea, c2, hl2, htk, hl3, -getElem?_pos, List.getElem?_cons_zero, List.getElem?_cons_succ]))
            all_goals first | rfl | (exfalso; omega)
          · have hmp := List.length_pos_iff.2 hm0
            have hq2 := hq hm0
            refine outS_of_wp cfg (fn := Tryd.f4) Tryd.func4 rfl (by simp [Tryd.f4]) ?_
            simp (disch := first | assumption | omega | (simp; done) | (simp; omega)) [-getElem?_pos, List.getElem?_cons_zero, List.getElem?_cons_succ, Tryd.f4, hs, ha, hr1, hr2, emptyH, ap1', ap2]
            repeat' (first | (refine wpc_split _ (fun hc => ?_) (fun hc => ?_) <;> (try simp at hc)) | (refine ww_split _ (fun hc => ?_) (fun hc => ?_) <;> (try simp at hc)) | (refine wp_drawF (by kernel_rfl) ?_) | (refine wk_yldW _ ?_) | (refine layOwe _ (by kernel_rfl) ?_) | (refine owe ?_ (fun ho => ?_)) | (simp (disch := first | assumption | omega | (simp; done) | (simp; omega)) [hs, ha, hr1, hr2, emptyH, ap1', ap2, t1, t2, hmp, hq2, en1, en2, hc, hew, hea, c2, hl2, htk, hl3, -getElem?_pos, List.getElem?_cons_zero, List.getElem?_cons_succ]))
            all_goals first | rfl | (exfalso; omega)
        · have hm0 : ¬ more = [] := fun e => hq (fun x => absurd e x)
          have hmp := List.length_pos_iff.2 hm0
          have hq2 : ¬ t ≤ (nth more 0).frm := fun x => hq (fun _ => x)
          refine outS_of_wp cfg (fn := Tryd.f4) Tryd.func4 rfl (by simp [Tryd.f4]) ?_
          simp (disch := first | assumption | omega | (simp; done) | (simp; omega)) [-getElem?_pos, List.getElem?_cons_zero, List.getElem?_cons_succ, Tryd.f4, hs, ha, hr1, hr2, emptyH, ap1', ap2]
          repeat' (first | (refine wpc_split _ (fun hc => ?_) (fun hc => ?_) <;> (try simp at hc)) | (refine ww_split _ (fun hc => ?_) (fun hc => ?_) <;> (try simp at hc)) | (refine wp_drawF (by kernel_rfl) ?_) | (refine wk_yldW _ ?_) | (refine layOwe _ (by kernel_rfl) ?_) | (refine owe ?_ (fun ho => ?_)) | (simp (disch := first | assumption | omega | (simp; done) | (simp; omega)) [hs, ha, hr1, hr2, emptyH, ap1', ap2, t1, t2, hmp, hq2, -getElem?_pos, List.getElem?_cons_zero, List.getElem?_cons_succ]))
          all_goals first | rfl | (exfalso; omega)
      · skip
        refine outS_of_wp cfg (fn := Tryd.f4) Tryd.func4 rfl (by simp [Tryd.f4]) ?_
        simp (disch := first | assumption | omega | (simp; done) | (simp; omega)) [-getElem?_pos, List.getElem?_cons_zero, List.getElem?_cons_succ, Tryd.f4, hs, ha, hr1, hr2, emptyH, ap1', ap2]
        repeat' (first | (refine wpc_split _ (fun hc => ?_) (fun hc => ?_) <;> (try simp at hc)) | (refine ww_split _ (fun hc => ?_) (fun hc => ?_) <;> (try simp at hc)) | (refine wp_drawF (by kernel_rfl) ?_) | (refine wk_yldW _ ?_) | (refine layOwe _ (by kernel_rfl) ?_) | (refine owe ?_ (fun ho => ?_)) | (simp (disch := first | assumption | omega | (simp; done) | (simp; omega)) [hs, ha, hr1, hr2, emptyH, ap1', ap2, -getElem?_pos, List.getElem?_cons_zero, List.getElem?_cons_succ]))
        all_goals first | rfl | (exfalso; omega)
@[simp] theorem S4 (w more : List Wrd) (gap most t : Int) (hs : smXs w) (hm : smXs more) (hb : w.length ≤ 1048576 ∧ more.length ≤ 1048576) (q1 q2 : Fl) (hh : Heap) : Ci cfg (.func (.func 4) [] []) [R  q1 eW w, R  q2 eW more, .int .i64 gap, .int .i64 most, .int .i64 t] hh = some (.ret (.bool true), hh) :=
  Ci_K cfg rfl rfl (by simp) (by simp) (C4 w more gap most t hs hm hb)
end Go.Ab
