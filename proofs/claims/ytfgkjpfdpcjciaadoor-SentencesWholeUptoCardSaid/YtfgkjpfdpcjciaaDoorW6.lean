/- Layer 32 (sentences): the specification's Closed; comparing; few. -/
import Derived.Test.YtfgkjpfdpcjciaaDoorW5
set_option linter.unusedVariables false
set_option linter.unusedSimpArgs false
set_option linter.unusedSectionVars false
set_option linter.deprecated false
namespace Go.Ab
open Go.Proofs
set_option maxRecDepth 100000
set_option maxHeartbeats 4000000
theorem nth_app_lt {α : Type} [Inhabited α] {a b : List α} {j : Nat} (h : j < a.length) : nth (a ++ b) j = nth a j := by
  unfold nth; simp [List.getD_eq_getElem?_getD, List.getElem?_append_left h]
theorem C13 (w : List Wrd) (gap most t : Int) (hs : smXs w) : Kc cfg 13 [R fl0 eW w, .int .i64 gap, .int .i64 most, .int .i64 t] (.ret (.tuple [.int .i64 (clS w gap most t).1, .int .i64 (clS w gap most t).2])) := by
  have hs1 := hs.1
  by_cases he : erS w gap most = 0
  · obtain ⟨hl, hok, hg1, hg2, hm1, hm2⟩ := erS_zero he
    have hen := enS_ok he
    by_cases ht : 0 ≤ t ∧ t < 1099511627776
    · rw [clS_ok he ht]
      obtain ⟨ht1, ht2⟩ := ht
      by_cases h0 : w.length = 0
      · have hw0 : w = [] := List.length_eq_zero_iff.1 h0
        subst hw0
        have hen0 : enS [] gap most = [] := by rw [hen]; rfl
        have hc0 : cntF [] gap most t ([] : List Wrd).length = 0 := rfl
        rw [hc0]
        refine outS_of_wp cfg (fn := Tryd.f13) Tryd.func13 rfl (by simp [Tryd.f13]) ?_
        simp (disch := first | assumption | omega | (simp; done) | (simp; omega)) [-getElem?_pos, List.getElem?_cons_zero, List.getElem?_cons_succ, Tryd.f13, hs, he, hen0, emptyH]
        repeat' (first | (refine wpc_split _ (fun hc => ?_) (fun hc => ?_) <;> (try simp at hc)) | (refine ww_split _ (fun hc => ?_) (fun hc => ?_) <;> (try simp at hc)) | (refine wp_drawF (by kernel_rfl) ?_) | (refine wk_yldW _ ?_) | (refine layOwe _ (by kernel_rfl) ?_) | (refine owe ?_ (fun ho => ?_)) | (simp (disch := first | assumption | omega | (simp; done) | (simp; omega)) [hs, he, hen0, emptyH, -getElem?_pos, List.getElem?_cons_zero, List.getElem?_cons_succ]))
        all_goals first | rfl | exact ⟨rfl, rfl⟩ | (exfalso; omega)
      · obtain ⟨k, hk⟩ : ∃ k, w.length = k + 1 := ⟨w.length - 1, by omega⟩
        have hki : k < w.length := by omega
        have hx := smXs_nth hs hki
        have hx1 := hx.1
        obtain ⟨w1, w2, w3, w4, w5, w6, w7⟩ := okH_of (okL_H hok hki)
        have hpos := word_pos w1
        have hce := cntF_end (gap := gap) (most := most) (t := t) hk
        have hee := endsW_end (gap := gap) (most := most) hk
        have hna := numW_at w gap most k
        have hel := endsW_len w gap most k
        rw [hee] at hen
        generalize hL : endsW w gap most k = L at *
        generalize hC : cntF w gap most t w.length = C at *
        have hn2 : ((numW w gap most k + 1 : Nat) : Int) = ((k : Int) + 1) - lastE L := by omega
        rw [hn2] at hce
        have hnl0 := numW_le w gap most k
        have hge : 0 ≤ lastE L ∧ lastE L ≤ k := by omega
        obtain ⟨O, hO⟩ : ∃ O, ownW (nth w k) ((k : Int) + 1 - lastE L) most = O := ⟨_, rfl⟩
        rw [hO] at hce
        have ho : ownW ⟨(nth w k).text, (nth w k).frm, (nth w k).til, (nth w k).sp, (nth w k).alts⟩ ((k : Int) + 1 - lastE L) most = O := hO
        by_cases hL0 : L = []
        · subst hL0
          have hle : lastE [] = 0 := rfl
          rw [hle] at ho
          simp only [Int.sub_zero] at ho
          cases O with
          | true =>
            rw [if_pos (.inl rfl)] at hce
            refine outS_of_wp cfg (fn := Tryd.f13) Tryd.func13 rfl (by simp [Tryd.f13]) ?_
            simp (disch := first | assumption | omega | (simp; done) | (simp; omega)) [-getElem?_pos, List.getElem?_cons_zero, List.getElem?_cons_succ, Tryd.f13, hs, he, hen, hk, emptyH]
            repeat' (first | (refine wpc_split _ (fun hc => ?_) (fun hc => ?_) <;> (try simp at hc)) | (refine ww_split _ (fun hc => ?_) (fun hc => ?_) <;> (try simp at hc)) | (refine wp_drawF (by kernel_rfl) ?_) | (refine wk_yldW _ ?_) | (refine layOwe _ (by kernel_rfl) ?_) | (refine owe ?_ (fun ho => ?_)) | (simp (disch := first | assumption | omega | (simp; done) | (simp; omega)) [hs, he, hen, hk, emptyH, ho, hki, hpos, hx, -getElem?_pos, List.getElem?_cons_zero, List.getElem?_cons_succ]))
            all_goals first | rfl | exact ⟨rfl, rfl⟩ | (exfalso; omega) | (rw [hce]; rfl) | (simp [hce]; done)
          | false =>
            by_cases g : (nth w k).til + gap ≤ t
            · rw [if_pos (.inr g)] at hce
              refine outS_of_wp cfg (fn := Tryd.f13) Tryd.func13 rfl (by simp [Tryd.f13]) ?_
              simp (disch := first | assumption | omega | (simp; done) | (simp; omega)) [-getElem?_pos, List.getElem?_cons_zero, List.getElem?_cons_succ, Tryd.f13, hs, he, hen, hk, emptyH]
              repeat' (first | (refine wpc_split _ (fun hc => ?_) (fun hc => ?_) <;> (try simp at hc)) | (refine ww_split _ (fun hc => ?_) (fun hc => ?_) <;> (try simp at hc)) | (refine wp_drawF (by kernel_rfl) ?_) | (refine wk_yldW _ ?_) | (refine layOwe _ (by kernel_rfl) ?_) | (refine owe ?_ (fun ho => ?_)) | (simp (disch := first | assumption | omega | (simp; done) | (simp; omega)) [hs, he, hen, hk, emptyH, ho, hki, hpos, hx, g, -getElem?_pos, List.getElem?_cons_zero, List.getElem?_cons_succ]))
              all_goals first | rfl | exact ⟨rfl, rfl⟩ | (exfalso; omega) | (rw [hce]; rfl) | (simp [hce]; done)
            · rw [if_neg (by rintro (e | e); cases e; exact g e)] at hce
              refine outS_of_wp cfg (fn := Tryd.f13) Tryd.func13 rfl (by simp [Tryd.f13]) ?_
              simp (disch := first | assumption | omega | (simp; done) | (simp; omega)) [-getElem?_pos, List.getElem?_cons_zero, List.getElem?_cons_succ, Tryd.f13, hs, he, hen, hk, emptyH]
              repeat' (first | (refine wpc_split _ (fun hc => ?_) (fun hc => ?_) <;> (try simp at hc)) | (refine ww_split _ (fun hc => ?_) (fun hc => ?_) <;> (try simp at hc)) | (refine wp_drawF (by kernel_rfl) ?_) | (refine wk_yldW _ ?_) | (refine layOwe _ (by kernel_rfl) ?_) | (refine owe ?_ (fun ho => ?_)) | (simp (disch := first | assumption | omega | (simp; done) | (simp; omega)) [hs, he, hen, hk, emptyH, ho, hki, hpos, hx, g, -getElem?_pos, List.getElem?_cons_zero, List.getElem?_cons_succ]))
              all_goals first | rfl | exact ⟨rfl, rfl⟩ | (exfalso; omega) | (rw [hce]; rfl) | (simp [hce]; done)
        · obtain ⟨j, hj⟩ : ∃ j, L.length = j + 1 := ⟨L.length - 1, by have := List.length_pos_iff.2 hL0; omega⟩
          have hle : lastE L = nth L j := by unfold lastE; rw [if_neg hL0, hj]; rfl
          have hnl : nth (L ++ [((k + 1 : Nat) : Int)]) j = nth L j := nth_app_lt (by omega)
          have hnl2 : nth (L ++ [(k : Int) + 1]) j = nth L j := nth_app_lt (by omega)
          have hjt : (j : Int) + 1 + 1 - 2 = j := by omega
          rw [hle] at ho hge
          cases O with
          | true =>
            rw [if_pos (.inl rfl)] at hce
            refine outS_of_wp cfg (fn := Tryd.f13) Tryd.func13 rfl (by simp [Tryd.f13]) ?_
            simp (disch := first | assumption | omega | (simp; done) | (simp; omega)) [-getElem?_pos, List.getElem?_cons_zero, List.getElem?_cons_succ, Tryd.f13, hs, he, hen, hk, emptyH]
            repeat' (first | (refine wpc_split _ (fun hc => ?_) (fun hc => ?_) <;> (try simp at hc)) | (refine ww_split _ (fun hc => ?_) (fun hc => ?_) <;> (try simp at hc)) | (refine wp_drawF (by kernel_rfl) ?_) | (refine wk_yldW _ ?_) | (refine layOwe _ (by kernel_rfl) ?_) | (refine owe ?_ (fun ho => ?_)) | (simp (disch := first | assumption | omega | (simp; done) | (simp; omega)) [hs, he, hen, hk, hj, hnl, hnl2, hjt, emptyH, eI, ho, hki, hpos, hx, -getElem?_pos, List.getElem?_cons_zero, List.getElem?_cons_succ]))
            all_goals first | rfl | exact ⟨rfl, rfl⟩ | (exfalso; omega) | (rw [hce]; rfl) | (simp [hce, hj]; done)
          | false =>
            by_cases g : (nth w k).til + gap ≤ t
            · rw [if_pos (.inr g)] at hce
              refine outS_of_wp cfg (fn := Tryd.f13) Tryd.func13 rfl (by simp [Tryd.f13]) ?_
              simp (disch := first | assumption | omega | (simp; done) | (simp; omega)) [-getElem?_pos, List.getElem?_cons_zero, List.getElem?_cons_succ, Tryd.f13, hs, he, hen, hk, emptyH]
              repeat' (first | (refine wpc_split _ (fun hc => ?_) (fun hc => ?_) <;> (try simp at hc)) | (refine ww_split _ (fun hc => ?_) (fun hc => ?_) <;> (try simp at hc)) | (refine wp_drawF (by kernel_rfl) ?_) | (refine wk_yldW _ ?_) | (refine layOwe _ (by kernel_rfl) ?_) | (refine owe ?_ (fun ho => ?_)) | (simp (disch := first | assumption | omega | (simp; done) | (simp; omega)) [hs, he, hen, hk, hj, hnl, hnl2, hjt, emptyH, eI, ho, hki, hpos, hx, g, -getElem?_pos, List.getElem?_cons_zero, List.getElem?_cons_succ]))
              all_goals first | rfl | exact ⟨rfl, rfl⟩ | (exfalso; omega) | (rw [hce]; rfl) | (simp [hce, hj]; done)
            · rw [if_neg (by rintro (e | e); cases e; exact g e)] at hce
              refine outS_of_wp cfg (fn := Tryd.f13) Tryd.func13 rfl (by simp [Tryd.f13]) ?_
              simp (disch := first | assumption | omega | (simp; done) | (simp; omega)) [-getElem?_pos, List.getElem?_cons_zero, List.getElem?_cons_succ, Tryd.f13, hs, he, hen, hk, emptyH]
              repeat' (first | (refine wpc_split _ (fun hc => ?_) (fun hc => ?_) <;> (try simp at hc)) | (refine ww_split _ (fun hc => ?_) (fun hc => ?_) <;> (try simp at hc)) | (refine wp_drawF (by kernel_rfl) ?_) | (refine wk_yldW _ ?_) | (refine layOwe _ (by kernel_rfl) ?_) | (refine owe ?_ (fun ho => ?_)) | (simp (disch := first | assumption | omega | (simp; done) | (simp; omega)) [hs, he, hen, hk, hj, hnl, hnl2, hjt, emptyH, eI, ho, hki, hpos, hx, g, -getElem?_pos, List.getElem?_cons_zero, List.getElem?_cons_succ]))
              all_goals first | rfl | exact ⟨rfl, rfl⟩ | (exfalso; omega) | (rw [hce]; rfl) | (simp [hce, hj]; done)
    · rw [clS_t he ht]
      refine outS_of_wp cfg (fn := Tryd.f13) Tryd.func13 rfl (by simp [Tryd.f13]) ?_
      simp (disch := first | assumption | omega | (simp; done) | (simp; omega)) [-getElem?_pos, List.getElem?_cons_zero, List.getElem?_cons_succ, Tryd.f13, hs, he, emptyH]
      repeat' (first | (refine wpc_split _ (fun hc => ?_) (fun hc => ?_) <;> (try simp at hc)) | (refine ww_split _ (fun hc => ?_) (fun hc => ?_) <;> (try simp at hc)) | (refine wp_drawF (by kernel_rfl) ?_) | (refine wk_yldW _ ?_) | (refine layOwe _ (by kernel_rfl) ?_) | (refine owe ?_ (fun ho => ?_)) | (simp (disch := first | assumption | omega | (simp; done) | (simp; omega)) [hs, he, emptyH, -getElem?_pos, List.getElem?_cons_zero, List.getElem?_cons_succ]))
      all_goals first | rfl | exact ⟨rfl, rfl⟩ | (exfalso; omega)
  · rw [clS_no he]
    have hen := enS_no he
    generalize hE : erS w gap most = E at *
    refine outS_of_wp cfg (fn := Tryd.f13) Tryd.func13 rfl (by simp [Tryd.f13]) ?_
    simp (disch := first | assumption | omega | (simp; done) | (simp; omega)) [-getElem?_pos, List.getElem?_cons_zero, List.getElem?_cons_succ, Tryd.f13, hs, he, hE, emptyH]
    repeat' (first | (refine wpc_split _ (fun hc => ?_) (fun hc => ?_) <;> (try simp at hc)) | (refine ww_split _ (fun hc => ?_) (fun hc => ?_) <;> (try simp at hc)) | (refine wp_drawF (by kernel_rfl) ?_) | (refine wk_yldW _ ?_) | (refine layOwe _ (by kernel_rfl) ?_) | (refine owe ?_ (fun ho => ?_)) | (simp (disch := first | assumption | omega | (simp; done) | (simp; omega)) [hs, he, hE, emptyH, -getElem?_pos, List.getElem?_cons_zero, List.getElem?_cons_succ]))
    all_goals first | rfl | exact ⟨rfl, rfl⟩ | (exfalso; omega)
@[simp] theorem S13 (w : List Wrd) (gap most t : Int) (hs : smXs w) (q1 : Fl) (hh : Heap) : Ci cfg (.func (.func 13) [] []) [R  q1 eW w, .int .i64 gap, .int .i64 most, .int .i64 t] hh = some (.ret (.tuple [.int .i64 (clS w gap most t).1, .int .i64 (clS w gap most t).2]), hh) :=
  Ci_K cfg rfl rfl (by simp) (by simp) (C13 w gap most t hs)
theorem C14 (a b : List Int) (hs : a.length < 1099511627776) : Kc cfg 14 [R fl0 eI a, R fl0 eI b] (.ret (.bool (decide (a = b)))) := by
  by_cases hl : a.length = b.length
  · skip
    refine outS_of_wp cfg (fn := Tryd.f14) Tryd.func14 rfl (by simp [Tryd.f14]) ?_
    simp (disch := first | assumption | omega | (simp; done) | (simp; omega)) [-getElem?_pos, List.getElem?_cons_zero, List.getElem?_cons_succ, Tryd.f14]
    repeat' (first | (refine wpc_split _ (fun hc => ?_) (fun hc => ?_) <;> (try simp at hc)) | (refine ww_split _ (fun hc => ?_) (fun hc => ?_) <;> (try simp at hc)) | (refine wp_drawF (by kernel_rfl) ?_) | (refine wk_yldW _ ?_) | (refine layOwe _ (by kernel_rfl) ?_) | (refine owe ?_ (fun ho => ?_)) | (simp (disch := first | assumption | omega | (simp; done) | (simp; omega)) [-getElem?_pos, List.getElem?_cons_zero, List.getElem?_cons_succ]))
    refine wp_loopE cfg rfl (fun f0 h0 m fr h => ∃ i : Nat, fr 0 = f0 0 ∧ fr 1 = f0 1 ∧ fr 5 = .int .i64 i ∧ (i + m = a.length) ∧ (a.take i = b.take i)) (a.length) _ _ ⟨0, rfl, rfl, by first | rfl | (simp; done) | (simp [R]; done) | simp [R], by first | rfl | (simp; done) | omega, by first | rfl | (simp; done) | omega⟩ ?_
    rintro Am Af Ah ⟨i, A0, A1, A5, hm, ht⟩ Aih
    try simp at A0 A1
    by_cases hi : i < a.length
    · by_cases he : nth a i = nth b i
      · repeat' (first | (refine wpc_split _ (fun hc => ?_) (fun hc => ?_) <;> (try simp at hc)) | (refine ww_split _ (fun hc => ?_) (fun hc => ?_) <;> (try simp at hc)) | (refine wp_drawF (by kernel_rfl) ?_) | (refine wk_yldW _ ?_) | (refine layOwe _ (by kernel_rfl) ?_) | (refine owe ?_ (fun ho => ?_)) | (simp (disch := first | assumption | omega | (simp; done) | (simp; omega)) [A0, A1, A5, eI, he, -getElem?_pos, List.getElem?_cons_zero, List.getElem?_cons_succ]))
        exact Aih (Am - 1) _ _ (by omega) ⟨i + 1, by simp [A0, A1, A5], by simp [A0, A1, A5], by simp [A0, A1, A5], by omega, take_next hi (by omega) ht he⟩
      · repeat' (first | (refine wpc_split _ (fun hc => ?_) (fun hc => ?_) <;> (try simp at hc)) | (refine ww_split _ (fun hc => ?_) (fun hc => ?_) <;> (try simp at hc)) | (refine wp_drawF (by kernel_rfl) ?_) | (refine wk_yldW _ ?_) | (refine layOwe _ (by kernel_rfl) ?_) | (refine owe ?_ (fun ho => ?_)) | (simp (disch := first | assumption | omega | (simp; done) | (simp; omega)) [A0, A1, A5, eI, he, -getElem?_pos, List.getElem?_cons_zero, List.getElem?_cons_succ]))
        all_goals first | (exfalso; omega) | (rintro rfl; exact he rfl) | (rintro rfl; exact hl rfl) | (simp; rintro rfl; exact he rfl)
    · repeat' (first | (refine wpc_split _ (fun hc => ?_) (fun hc => ?_) <;> (try simp at hc)) | (refine ww_split _ (fun hc => ?_) (fun hc => ?_) <;> (try simp at hc)) | (refine wp_drawF (by kernel_rfl) ?_) | (refine wk_yldW _ ?_) | (refine layOwe _ (by kernel_rfl) ?_) | (refine owe ?_ (fun ho => ?_)) | (simp (disch := first | assumption | omega | (simp; done) | (simp; omega)) [A0, A1, A5, -getElem?_pos, List.getElem?_cons_zero, List.getElem?_cons_succ]))
      have h1 : a.take i = a := List.take_of_length_le (by omega)
      have h2 : b.take i = b := List.take_of_length_le (by omega)
      rw [h1, h2] at ht
      simp [ht]
  · skip
    refine outS_of_wp cfg (fn := Tryd.f14) Tryd.func14 rfl (by simp [Tryd.f14]) ?_
    simp (disch := first | assumption | omega | (simp; done) | (simp; omega)) [-getElem?_pos, List.getElem?_cons_zero, List.getElem?_cons_succ, Tryd.f14]
    repeat' (first | (refine wpc_split _ (fun hc => ?_) (fun hc => ?_) <;> (try simp at hc)) | (refine ww_split _ (fun hc => ?_) (fun hc => ?_) <;> (try simp at hc)) | (refine wp_drawF (by kernel_rfl) ?_) | (refine wk_yldW _ ?_) | (refine layOwe _ (by kernel_rfl) ?_) | (refine owe ?_ (fun ho => ?_)) | (simp (disch := first | assumption | omega | (simp; done) | (simp; omega)) [-getElem?_pos, List.getElem?_cons_zero, List.getElem?_cons_succ]))
    all_goals first | (exfalso; omega) | (rintro rfl; exact he rfl) | (rintro rfl; exact hl rfl) | (simp; rintro rfl; exact hl rfl)
@[simp] theorem S14 (a b : List Int) (hs : a.length < 1099511627776) (q1 q2 : Fl) (hh : Heap) : Ci cfg (.func (.func 14) [] []) [R  q1 eI a, R  q2 eI b] hh = some (.ret (.bool (decide (a = b))), hh) :=
  Ci_K cfg rfl rfl (by simp) (by simp) (C14 a b hs)
def fewX (w : List Wrd) : Bool := (decide (w.length ≤ 60) || (decide (4096 < w.length) && decide (w.length ≤ 4200)))
end Go.Ab
