/- Layer 22 (fuse): comparing; few; texts of slots; a further cell. -/
import Derived.Test.YtackmibobdoecaaDoorH1
set_option linter.unusedVariables false
set_option linter.unusedSimpArgs false
set_option linter.unusedSectionVars false
set_option linter.deprecated false
namespace Go.Ab
open Go.Proofs
set_option maxRecDepth 100000
set_option maxHeartbeats 4000000
theorem C16 (a b : List (List UInt8)) (hs : a.length < 1099511627776) : Kc cfg 16 [R fl0 eS a, R fl0 eS b] (.ret (.bool (decide (a = b)))) := by
  by_cases hl : a.length = b.length
  · skip
    refine outS_of_wp cfg (fn := Tryd.f16) Tryd.func16 rfl (by simp [Tryd.f16]) ?_
    simp (disch := first | assumption | omega | (simp; done) | (simp; omega)) [-getElem?_pos, List.getElem?_cons_zero, List.getElem?_cons_succ, Tryd.f16]
    repeat' (first | (refine wpc_split _ (fun hc => ?_) (fun hc => ?_) <;> (try simp at hc)) | (refine ww_split _ (fun hc => ?_) (fun hc => ?_) <;> (try simp at hc)) | (refine wp_drawF (by kernel_rfl) ?_) | (refine wk_yldW _ ?_) | (refine layOwe _ (by kernel_rfl) ?_) | (refine owe ?_ (fun ho => ?_)) | (simp (disch := first | assumption | omega | (simp; done) | (simp; omega)) [-getElem?_pos, List.getElem?_cons_zero, List.getElem?_cons_succ]))
    refine wp_loopE cfg rfl (fun f0 h0 m fr h => ∃ i : Nat, fr 0 = f0 0 ∧ fr 1 = f0 1 ∧ fr 5 = .int .i64 i ∧ (i + m = a.length) ∧ (a.take i = b.take i)) (a.length) _ _ ⟨0, rfl, rfl, by first | rfl | (simp; done) | (simp [R]; done) | simp [R], by first | rfl | (simp; done) | omega, by first | rfl | (simp; done) | omega⟩ ?_
    rintro Am Af Ah ⟨i, A0, A1, A5, hm, ht⟩ Aih
    try simp at A0 A1
    by_cases hi : i < a.length
    · by_cases he : nth a i = nth b i
      · repeat' (first | (refine wpc_split _ (fun hc => ?_) (fun hc => ?_) <;> (try simp at hc)) | (refine ww_split _ (fun hc => ?_) (fun hc => ?_) <;> (try simp at hc)) | (refine wp_drawF (by kernel_rfl) ?_) | (refine wk_yldW _ ?_) | (refine layOwe _ (by kernel_rfl) ?_) | (refine owe ?_ (fun ho => ?_)) | (simp (disch := first | assumption | omega | (simp; done) | (simp; omega)) [A0, A1, A5, eS, he, -getElem?_pos, List.getElem?_cons_zero, List.getElem?_cons_succ]))
        exact Aih (Am - 1) _ _ (by omega) ⟨i + 1, by simp [A0, A1, A5], by simp [A0, A1, A5], by simp [A0, A1, A5], by omega, take_next hi (by omega) ht he⟩
      · repeat' (first | (refine wpc_split _ (fun hc => ?_) (fun hc => ?_) <;> (try simp at hc)) | (refine ww_split _ (fun hc => ?_) (fun hc => ?_) <;> (try simp at hc)) | (refine wp_drawF (by kernel_rfl) ?_) | (refine wk_yldW _ ?_) | (refine layOwe _ (by kernel_rfl) ?_) | (refine owe ?_ (fun ho => ?_)) | (simp (disch := first | assumption | omega | (simp; done) | (simp; omega)) [A0, A1, A5, eS, he, -getElem?_pos, List.getElem?_cons_zero, List.getElem?_cons_succ]))
        all_goals first | (exfalso; omega) | (rintro rfl; exact he rfl) | (rintro rfl; exact hl rfl) | (simp; rintro rfl; exact he rfl)
    · repeat' (first | (refine wpc_split _ (fun hc => ?_) (fun hc => ?_) <;> (try simp at hc)) | (refine ww_split _ (fun hc => ?_) (fun hc => ?_) <;> (try simp at hc)) | (refine wp_drawF (by kernel_rfl) ?_) | (refine wk_yldW _ ?_) | (refine layOwe _ (by kernel_rfl) ?_) | (refine owe ?_ (fun ho => ?_)) | (simp (disch := first | assumption | omega | (simp; done) | (simp; omega)) [A0, A1, A5, -getElem?_pos, List.getElem?_cons_zero, List.getElem?_cons_succ]))
      have h1 : a.take i = a := List.take_of_length_le (by omega)
      have h2 : b.take i = b := List.take_of_length_le (by omega)
      rw [h1, h2] at ht
      simp [ht]
  · skip
    refine outS_of_wp cfg (fn := Tryd.f16) Tryd.func16 rfl (by simp [Tryd.f16]) ?_
    simp (disch := first | assumption | omega | (simp; done) | (simp; omega)) [-getElem?_pos, List.getElem?_cons_zero, List.getElem?_cons_succ, Tryd.f16]
    repeat' (first | (refine wpc_split _ (fun hc => ?_) (fun hc => ?_) <;> (try simp at hc)) | (refine ww_split _ (fun hc => ?_) (fun hc => ?_) <;> (try simp at hc)) | (refine wp_drawF (by kernel_rfl) ?_) | (refine wk_yldW _ ?_) | (refine layOwe _ (by kernel_rfl) ?_) | (refine owe ?_ (fun ho => ?_)) | (simp (disch := first | assumption | omega | (simp; done) | (simp; omega)) [-getElem?_pos, List.getElem?_cons_zero, List.getElem?_cons_succ]))
    all_goals first | (exfalso; omega) | (rintro rfl; exact he rfl) | (rintro rfl; exact hl rfl) | (simp; rintro rfl; exact hl rfl)
@[simp] theorem S16 (a b : List (List UInt8)) (hs : a.length < 1099511627776) (q1 q2 : Fl) (hh : Heap) : Ci cfg (.func (.func 16) [] []) [R  q1 eS a, R  q2 eS b] hh = some (.ret (.bool (decide (a = b))), hh) :=
  Ci_K cfg rfl rfl (by simp) (by simp) (C16 a b hs)
theorem C17 (a b : List Int) (hs : a.length < 1099511627776) : Kc cfg 17 [R fl0 eI a, R fl0 eI b] (.ret (.bool (decide (a = b)))) := by
  by_cases hl : a.length = b.length
  · skip
    refine outS_of_wp cfg (fn := Tryd.f17) Tryd.func17 rfl (by simp [Tryd.f17]) ?_
    simp (disch := first | assumption | omega | (simp; done) | (simp; omega)) [-getElem?_pos, List.getElem?_cons_zero, List.getElem?_cons_succ, Tryd.f17]
    repeat' (first | (refine wpc_split _ (fun hc => ?_) (fun hc => ?_) <;> (try simp at hc)) | (refine ww_split _ (fun hc => ?_) (fun hc => ?_) <;> (try simp at hc)) | (refine wp_drawF (by kernel_rfl) ?_) | (refine wk_yldW _ ?_) | (refine layOwe _ (by kernel_rfl) ?_) | (refine owe ?_ (fun ho => ?_)) | (simp (disch := first | assumption | omega | (simp; done) | (simp; omega)) [-getElem?_pos, List.getElem?_cons_zero, List.getElem?_cons_succ]))
    refine wp_loopE cfg rfl (fun f0 h0 m fr h => ∃ i : Nat, fr 0 = f0 0 ∧ fr 1 = f0 1 ∧ fr 5 = .int .i64 i ∧ (i + m = a.length) ∧ (a.take i = b.take i)) (a.length) _ _ ⟨0, rfl, rfl, by first | rfl | (simp; done) | (simp [R]; done) | simp [R], by first | rfl | (simp; done) | omega, by first | rfl | (simp; done) | omega⟩ ?_
    rintro Am Af Ah ⟨i, A0, A1, A5, hm, ht⟩ Aih
    try simp at A0 A1
    by_cases hi : i < a.length
    · by_cases he : nth a i = nth b i
      · repeat' (first | (refine wpc_split _ (fun hc => ?_) (fun hc => ?_) <;> (try simp at hc)) | (refine ww_split _ (fun hc => ?_) (fun hc => ?_) <;> (try simp at hc)) | (refine wp_drawF (by kernel_rfl) ?_) | (refine wk_yldW _ ?_) | (refine layOwe _ (by kernel_rfl) ?_) | (refine owe ?_ (fun ho => ?_)) | (simp (disch := first | assumption | omega | (simp; done) | (simp; omega)) [A0, A1, A5, eI, he, -getElem?_pos, List.getElem?_cons_zero, List.getElem?_cons_succ]))
        exact Aih (Am - 1) _ _ (by omega) ⟨i + 1, by simp [A0, A1, A5], by simp [A0, A1, A5], by simp [A0, A1, A5], by omega, take_next hi (by omega) ht he⟩
      · repeat' (first | (refine wpc_split _ (fun hc => ?_) (fun hc => ?_) <;> (try simp at hc)) | (refine ww_split _ (fun hc => ?_) (fun hc => ?_) <;> (try simp at hc)) | (refine wp_drawF (by kernel_rfl) ?_) | (refine wk_yldW _ ?_) | (refine layOwe _ (by kernel_rfl) ?_) | (refine owe ?_ (fun ho => ?_)) | (simp (disch := first | assumption | omega | (simp; done) | (simp; omega)) [A0, A1, A5, eI, he, -getElem?_pos, List.getElem?_cons_zero, List.getElem?_cons_succ]))
        all_goals first | (exfalso; omega) | (rintro rfl; exact he rfl) | (rintro rfl; exact hl rfl) | (simp; rintro rfl; exact he rfl)
    · repeat' (first | (refine wpc_split _ (fun hc => ?_) (fun hc => ?_) <;> (try simp at hc)) | (refine ww_split _ (fun hc => ?_) (fun hc => ?_) <;> (try simp at hc)) | (refine wp_drawF (by kernel_rfl) ?_) | (refine wk_yldW _ ?_) | (refine layOwe _ (by kernel_rfl) ?_) | (refine owe ?_ (fun ho => ?_)) | (simp (disch := first | assumption | omega | (simp; done) | (simp; omega)) [A0, A1, A5, -getElem?_pos, List.getElem?_cons_zero, List.getElem?_cons_succ]))
      have h1 : a.take i = a := List.take_of_length_le (by omega)
      have h2 : b.take i = b := List.take_of_length_le (by omega)
      rw [h1, h2] at ht
      simp [ht]
  · skip
    refine outS_of_wp cfg (fn := Tryd.f17) Tryd.func17 rfl (by simp [Tryd.f17]) ?_
    simp (disch := first | assumption | omega | (simp; done) | (simp; omega)) [-getElem?_pos, List.getElem?_cons_zero, List.getElem?_cons_succ, Tryd.f17]
    repeat' (first | (refine wpc_split _ (fun hc => ?_) (fun hc => ?_) <;> (try simp at hc)) | (refine ww_split _ (fun hc => ?_) (fun hc => ?_) <;> (try simp at hc)) | (refine wp_drawF (by kernel_rfl) ?_) | (refine wk_yldW _ ?_) | (refine layOwe _ (by kernel_rfl) ?_) | (refine owe ?_ (fun ho => ?_)) | (simp (disch := first | assumption | omega | (simp; done) | (simp; omega)) [-getElem?_pos, List.getElem?_cons_zero, List.getElem?_cons_succ]))
    all_goals first | (exfalso; omega) | (rintro rfl; exact he rfl) | (rintro rfl; exact hl rfl) | (simp; rintro rfl; exact hl rfl)
@[simp] theorem S17 (a b : List Int) (hs : a.length < 1099511627776) (q1 q2 : Fl) (hh : Heap) : Ci cfg (.func (.func 17) [] []) [R  q1 eI a, R  q2 eI b] hh = some (.ret (.bool (decide (a = b))), hh) :=
  Ci_K cfg rfl rfl (by simp) (by simp) (C17 a b hs)
theorem C38 (t : List UInt8) (al : List (List UInt8)) (t2 : List UInt8) (al2 : List (List UInt8)) (hs : al.length < 1099511627776) : Kc cfg 38 [.agg [.str t, R fl0 eS al], .agg [.str t2, R fl0 eS al2]] (.ret (.bool (decide ((⟨t, al⟩ : Cell) = ⟨t2, al2⟩)))) := by
  have hr : decide ((⟨t, al⟩ : Cell) = ⟨t2, al2⟩) = (decide (t = t2) && decide (al = al2)) := by
    rw [← Bool.decide_and]; congr 1; simp
  rw [hr]
  by_cases h0 : t = t2
  · by_cases hl : al.length = al2.length
    · skip
      refine outS_of_wp cfg (fn := Tryd.f38) Tryd.func38 rfl (by simp [Tryd.f38]) ?_
      simp (disch := first | assumption | omega | (simp; done) | (simp; omega)) [-getElem?_pos, List.getElem?_cons_zero, List.getElem?_cons_succ, Tryd.f38, h0, emptyH]
      repeat' (first | (refine wpc_split _ (fun hc => ?_) (fun hc => ?_) <;> (try simp at hc)) | (refine ww_split _ (fun hc => ?_) (fun hc => ?_) <;> (try simp at hc)) | (refine wp_drawF (by kernel_rfl) ?_) | (refine wk_yldW _ ?_) | (refine layOwe _ (by kernel_rfl) ?_) | (refine owe ?_ (fun ho => ?_)) | (simp (disch := first | assumption | omega | (simp; done) | (simp; omega)) [h0, emptyH, -getElem?_pos, List.getElem?_cons_zero, List.getElem?_cons_succ]))
      all_goals try (exfalso; omega)
      refine wp_loopE cfg rfl (fun f0 h0 m fr h => ∃ i : Nat, fr 2 = f0 2 ∧ fr 3 = f0 3 ∧ fr 5 = .int .i64 i ∧ h.bs = h0.bs ∧ (i + m = al.length) ∧ (al.take i = al2.take i)) (al.length) _ _ ⟨0, rfl, rfl, by first | rfl | (simp; done) | (simp [R]; done) | simp [R], rfl, by first | rfl | (simp; done) | omega, by first | rfl | (simp; done) | omega⟩ ?_
      rintro Am Af Ah ⟨i, A2, A3, A5, Abs, hm, ht⟩ Aih
      try simp at A2 A3 Abs
      by_cases hi : i < al.length
      · by_cases he : nth al i = nth al2 i
        · repeat' (first | (refine wpc_split _ (fun hc => ?_) (fun hc => ?_) <;> (try simp at hc)) | (refine ww_split _ (fun hc => ?_) (fun hc => ?_) <;> (try simp at hc)) | (refine wp_drawF (by kernel_rfl) ?_) | (refine wk_yldW _ ?_) | (refine layOwe _ (by kernel_rfl) ?_) | (refine owe ?_ (fun ho => ?_)) | (simp (disch := first | assumption | omega | (simp; done) | (simp; omega)) [A2, A3, A5, Abs, eS, he, -getElem?_pos, List.getElem?_cons_zero, List.getElem?_cons_succ]))
          exact Aih (Am - 1) _ _ (by omega) ⟨i + 1, by simp [A2, A3, A5, Abs], by simp [A2, A3, A5, Abs], by simp [A2, A3, A5, Abs], by simp [A2, A3, A5, Abs], by omega, take_next hi (by omega) ht he⟩
        · repeat' (first | (refine wpc_split _ (fun hc => ?_) (fun hc => ?_) <;> (try simp at hc)) | (refine ww_split _ (fun hc => ?_) (fun hc => ?_) <;> (try simp at hc)) | (refine wp_drawF (by kernel_rfl) ?_) | (refine wk_yldW _ ?_) | (refine layOwe _ (by kernel_rfl) ?_) | (refine owe ?_ (fun ho => ?_)) | (simp (disch := first | assumption | omega | (simp; done) | (simp; omega)) [A2, A3, A5, Abs, eS, he, -getElem?_pos, List.getElem?_cons_zero, List.getElem?_cons_succ]))
          all_goals first | (exfalso; omega) | (rintro rfl; exact he rfl) | (rintro _ rfl; exact he rfl) | (simp; rintro rfl; exact he rfl) | (simp; rintro _ rfl; exact he rfl) | grind
      · repeat' (first | (refine wpc_split _ (fun hc => ?_) (fun hc => ?_) <;> (try simp at hc)) | (refine ww_split _ (fun hc => ?_) (fun hc => ?_) <;> (try simp at hc)) | (refine wp_drawF (by kernel_rfl) ?_) | (refine wk_yldW _ ?_) | (refine layOwe _ (by kernel_rfl) ?_) | (refine owe ?_ (fun ho => ?_)) | (simp (disch := first | assumption | omega | (simp; done) | (simp; omega)) [A2, A3, A5, Abs, -getElem?_pos, List.getElem?_cons_zero, List.getElem?_cons_succ]))
        have h1 : al.take i = al := List.take_of_length_le (by omega)
        have h2 : al2.take i = al2 := List.take_of_length_le (by omega)
        rw [h1, h2] at ht
        simp [ht, h0]
    · skip
      refine outS_of_wp cfg (fn := Tryd.f38) Tryd.func38 rfl (by simp [Tryd.f38]) ?_
      simp (disch := first | assumption | omega | (simp; done) | (simp; omega)) [-getElem?_pos, List.getElem?_cons_zero, List.getElem?_cons_succ, Tryd.f38, h0, emptyH]
      repeat' (first | (refine wpc_split _ (fun hc => ?_) (fun hc => ?_) <;> (try simp at hc)) | (refine ww_split _ (fun hc => ?_) (fun hc => ?_) <;> (try simp at hc)) | (refine wp_drawF (by kernel_rfl) ?_) | (refine wk_yldW _ ?_) | (refine layOwe _ (by kernel_rfl) ?_) | (refine owe ?_ (fun ho => ?_)) | (simp (disch := first | assumption | omega | (simp; done) | (simp; omega)) [h0, emptyH, -getElem?_pos, List.getElem?_cons_zero, List.getElem?_cons_succ]))
      all_goals first | (exfalso; omega) | (rintro rfl; exact hl rfl) | (rintro _ rfl; exact hl rfl) | (simp [h0]; rintro rfl; exact hl rfl) | grind
  · skip
    refine outS_of_wp cfg (fn := Tryd.f38) Tryd.func38 rfl (by simp [Tryd.f38]) ?_
    simp (disch := first | assumption | omega | (simp; done) | (simp; omega)) [-getElem?_pos, List.getElem?_cons_zero, List.getElem?_cons_succ, Tryd.f38, h0, emptyH]
    repeat' (first | (refine wpc_split _ (fun hc => ?_) (fun hc => ?_) <;> (try simp at hc)) | (refine ww_split _ (fun hc => ?_) (fun hc => ?_) <;> (try simp at hc)) | (refine wp_drawF (by kernel_rfl) ?_) | (refine wk_yldW _ ?_) | (refine layOwe _ (by kernel_rfl) ?_) | (refine owe ?_ (fun ho => ?_)) | (simp (disch := first | assumption | omega | (simp; done) | (simp; omega)) [h0, emptyH, -getElem?_pos, List.getElem?_cons_zero, List.getElem?_cons_succ]))
    all_goals first | (simp [h0]; done) | grind
@[simp] theorem S38 (t : List UInt8) (al : List (List UInt8)) (t2 : List UInt8) (al2 : List (List UInt8)) (hs : al.length < 1099511627776) (q1 q2 : Fl) (hh : Heap) : Ci cfg (.func (.func 38) [] []) [.agg [.str t, R  q1 eS al], .agg [.str t2, R  q2 eS al2]] hh = some (.ret (.bool (decide ((⟨t, al⟩ : Cell) = ⟨t2, al2⟩))), hh) :=
  Ci_K cfg rfl rfl (by simp) (by simp) (C38 t al t2 al2 hs)
theorem C21 (a b : List Cell) (hs : smS a) : Kc cfg 21 [R fl0 eC a, R fl0 eC b] (.ret (.bool (decide (a = b)))) := by
  have hs1 := hs.1
  by_cases hl : a.length = b.length
  · skip
    refine outS_of_wp cfg (fn := Tryd.f21) Tryd.func21 rfl (by simp [Tryd.f21]) ?_
    simp (disch := first | assumption | omega | (simp; done) | (simp; omega)) [-getElem?_pos, List.getElem?_cons_zero, List.getElem?_cons_succ, Tryd.f21]
    repeat' (first | (refine wpc_split _ (fun hc => ?_) (fun hc => ?_) <;> (try simp at hc)) | (refine ww_split _ (fun hc => ?_) (fun hc => ?_) <;> (try simp at hc)) | (refine wp_drawF (by kernel_rfl) ?_) | (refine wk_yldW _ ?_) | (refine layOwe _ (by kernel_rfl) ?_) | (refine owe ?_ (fun ho => ?_)) | (simp (disch := first | assumption | omega | (simp; done) | (simp; omega)) [-getElem?_pos, List.getElem?_cons_zero, List.getElem?_cons_succ]))
    refine wp_loopE cfg rfl (fun f0 h0 m fr h => ∃ i : Nat, fr 0 = f0 0 ∧ fr 1 = f0 1 ∧ fr 5 = .int .i64 i ∧ (i + m = a.length) ∧ (a.take i = b.take i)) (a.length) _ _ ⟨0, rfl, rfl, by first | rfl | (simp; done) | (simp [R]; done) | simp [R], by first | rfl | (simp; done) | omega, by first | rfl | (simp; done) | omega⟩ ?_
    rintro Am Af Ah ⟨i, A0, A1, A5, hm, ht⟩ Aih
    try simp at A0 A1
    by_cases hi : i < a.length
    · have hsi := (smS_nth hs hi).2.1
      by_cases he : nth a i = nth b i
      · rw [he] at hsi
        repeat' (first | (refine wpc_split _ (fun hc => ?_) (fun hc => ?_) <;> (try simp at hc)) | (refine ww_split _ (fun hc => ?_) (fun hc => ?_) <;> (try simp at hc)) | (refine wp_drawF (by kernel_rfl) ?_) | (refine wk_yldW _ ?_) | (refine layOwe _ (by kernel_rfl) ?_) | (refine owe ?_ (fun ho => ?_)) | (simp (disch := first | assumption | omega | (simp; done) | (simp; omega)) [A0, A1, A5, he, -getElem?_pos, List.getElem?_cons_zero, List.getElem?_cons_succ]))
        exact Aih (Am - 1) _ _ (by omega) ⟨i + 1, by simp [A0, A1, A5], by simp [A0, A1, A5], by simp [A0, A1, A5], by omega, take_next hi (by omega) ht he⟩
      · have he2 : ¬ ((⟨(nth a i).text, (nth a i).alts⟩ : Cell) = ⟨(nth b i).text, (nth b i).alts⟩) := fun e => he e
        repeat' (first | (refine wpc_split _ (fun hc => ?_) (fun hc => ?_) <;> (try simp at hc)) | (refine ww_split _ (fun hc => ?_) (fun hc => ?_) <;> (try simp at hc)) | (refine wp_drawF (by kernel_rfl) ?_) | (refine wk_yldW _ ?_) | (refine layOwe _ (by kernel_rfl) ?_) | (refine owe ?_ (fun ho => ?_)) | (simp (disch := first | assumption | omega | (simp; done) | (simp; omega)) [A0, A1, A5, he2, -getElem?_pos, List.getElem?_cons_zero, List.getElem?_cons_succ]))
        all_goals first | (exfalso; omega) | (rintro rfl; exact he rfl) | (rintro rfl; exact hl rfl) | (simp; rintro rfl; exact he rfl)
    · repeat' (first | (refine wpc_split _ (fun hc => ?_) (fun hc => ?_) <;> (try simp at hc)) | (refine ww_split _ (fun hc => ?_) (fun hc => ?_) <;> (try simp at hc)) | (refine wp_drawF (by kernel_rfl) ?_) | (refine wk_yldW _ ?_) | (refine layOwe _ (by kernel_rfl) ?_) | (refine owe ?_ (fun ho => ?_)) | (simp (disch := first | assumption | omega | (simp; done) | (simp; omega)) [A0, A1, A5, -getElem?_pos, List.getElem?_cons_zero, List.getElem?_cons_succ]))
      have h1 : a.take i = a := List.take_of_length_le (by omega)
      have h2 : b.take i = b := List.take_of_length_le (by omega)
      rw [h1, h2] at ht
      simp [ht]
  · skip
    refine outS_of_wp cfg (fn := Tryd.f21) Tryd.func21 rfl (by simp [Tryd.f21]) ?_
    simp (disch := first | assumption | omega | (simp; done) | (simp; omega)) [-getElem?_pos, List.getElem?_cons_zero, List.getElem?_cons_succ, Tryd.f21]
    repeat' (first | (refine wpc_split _ (fun hc => ?_) (fun hc => ?_) <;> (try simp at hc)) | (refine ww_split _ (fun hc => ?_) (fun hc => ?_) <;> (try simp at hc)) | (refine wp_drawF (by kernel_rfl) ?_) | (refine wk_yldW _ ?_) | (refine layOwe _ (by kernel_rfl) ?_) | (refine owe ?_ (fun ho => ?_)) | (simp (disch := first | assumption | omega | (simp; done) | (simp; omega)) [-getElem?_pos, List.getElem?_cons_zero, List.getElem?_cons_succ]))
    all_goals first | (exfalso; omega) | (rintro rfl; exact he rfl) | (rintro rfl; exact hl rfl) | (simp; rintro rfl; exact hl rfl)
@[simp] theorem S21 (a b : List Cell) (hs : smS a) (q1 q2 : Fl) (hh : Heap) : Ci cfg (.func (.func 21) [] []) [R  q1 eC a, R  q2 eC b] hh = some (.ret (.bool (decide (a = b))), hh) :=
  Ci_K cfg rfl rfl (by simp) (by simp) (C21 a b hs)
theorem C13 (a b : List (List Cell)) (hs : smL a) : Kc cfg 13 [R fl0 (eR eC) a, R fl0 (eR eC) b] (.ret (.bool (decide (a = b)))) := by
  have hs1 := hs.1
  by_cases hl : a.length = b.length
  · skip
    refine outS_of_wp cfg (fn := Tryd.f13) Tryd.func13 rfl (by simp [Tryd.f13]) ?_
    simp (disch := first | assumption | omega | (simp; done) | (simp; omega)) [-getElem?_pos, List.getElem?_cons_zero, List.getElem?_cons_succ, Tryd.f13]
    repeat' (first | (refine wpc_split _ (fun hc => ?_) (fun hc => ?_) <;> (try simp at hc)) | (refine ww_split _ (fun hc => ?_) (fun hc => ?_) <;> (try simp at hc)) | (refine wp_drawF (by kernel_rfl) ?_) | (refine wk_yldW _ ?_) | (refine layOwe _ (by kernel_rfl) ?_) | (refine owe ?_ (fun ho => ?_)) | (simp (disch := first | assumption | omega | (simp; done) | (simp; omega)) [-getElem?_pos, List.getElem?_cons_zero, List.getElem?_cons_succ]))
    refine wp_loopE cfg rfl (fun f0 h0 m fr h => ∃ i : Nat, fr 0 = f0 0 ∧ fr 1 = f0 1 ∧ fr 5 = .int .i64 i ∧ (i + m = a.length) ∧ (a.take i = b.take i)) (a.length) _ _ ⟨0, rfl, rfl, by first | rfl | (simp; done) | (simp [R]; done) | simp [R], by first | rfl | (simp; done) | omega, by first | rfl | (simp; done) | omega⟩ ?_
    rintro Am Af Ah ⟨i, A0, A1, A5, hm, ht⟩ Aih
    try simp at A0 A1
    by_cases hi : i < a.length
    · have hsi := smL_nth hs hi
      by_cases he : nth a i = nth b i
      · rw [he] at hsi
        repeat' (first | (refine wpc_split _ (fun hc => ?_) (fun hc => ?_) <;> (try simp at hc)) | (refine ww_split _ (fun hc => ?_) (fun hc => ?_) <;> (try simp at hc)) | (refine wp_drawF (by kernel_rfl) ?_) | (refine wk_yldW _ ?_) | (refine layOwe _ (by kernel_rfl) ?_) | (refine owe ?_ (fun ho => ?_)) | (simp (disch := first | assumption | omega | (simp; done) | (simp; omega)) [A0, A1, A5, eR, he, -getElem?_pos, List.getElem?_cons_zero, List.getElem?_cons_succ]))
        exact Aih (Am - 1) _ _ (by omega) ⟨i + 1, by simp [A0, A1, A5], by simp [A0, A1, A5], by simp [A0, A1, A5], by omega, take_next hi (by omega) ht he⟩
      · repeat' (first | (refine wpc_split _ (fun hc => ?_) (fun hc => ?_) <;> (try simp at hc)) | (refine ww_split _ (fun hc => ?_) (fun hc => ?_) <;> (try simp at hc)) | (refine wp_drawF (by kernel_rfl) ?_) | (refine wk_yldW _ ?_) | (refine layOwe _ (by kernel_rfl) ?_) | (refine owe ?_ (fun ho => ?_)) | (simp (disch := first | assumption | omega | (simp; done) | (simp; omega)) [A0, A1, A5, eR, he, -getElem?_pos, List.getElem?_cons_zero, List.getElem?_cons_succ]))
        all_goals first | (exfalso; omega) | (rintro rfl; exact he rfl) | (rintro rfl; exact hl rfl) | (simp; rintro rfl; exact he rfl)
    · repeat' (first | (refine wpc_split _ (fun hc => ?_) (fun hc => ?_) <;> (try simp at hc)) | (refine ww_split _ (fun hc => ?_) (fun hc => ?_) <;> (try simp at hc)) | (refine wp_drawF (by kernel_rfl) ?_) | (refine wk_yldW _ ?_) | (refine layOwe _ (by kernel_rfl) ?_) | (refine owe ?_ (fun ho => ?_)) | (simp (disch := first | assumption | omega | (simp; done) | (simp; omega)) [A0, A1, A5, -getElem?_pos, List.getElem?_cons_zero, List.getElem?_cons_succ]))
      have h1 : a.take i = a := List.take_of_length_le (by omega)
      have h2 : b.take i = b := List.take_of_length_le (by omega)
      rw [h1, h2] at ht
      simp [ht]
  · skip
    refine outS_of_wp cfg (fn := Tryd.f13) Tryd.func13 rfl (by simp [Tryd.f13]) ?_
    simp (disch := first | assumption | omega | (simp; done) | (simp; omega)) [-getElem?_pos, List.getElem?_cons_zero, List.getElem?_cons_succ, Tryd.f13]
    repeat' (first | (refine wpc_split _ (fun hc => ?_) (fun hc => ?_) <;> (try simp at hc)) | (refine ww_split _ (fun hc => ?_) (fun hc => ?_) <;> (try simp at hc)) | (refine wp_drawF (by kernel_rfl) ?_) | (refine wk_yldW _ ?_) | (refine layOwe _ (by kernel_rfl) ?_) | (refine owe ?_ (fun ho => ?_)) | (simp (disch := first | assumption | omega | (simp; done) | (simp; omega)) [-getElem?_pos, List.getElem?_cons_zero, List.getElem?_cons_succ]))
    all_goals first | (exfalso; omega) | (rintro rfl; exact he rfl) | (rintro rfl; exact hl rfl) | (simp; rintro rfl; exact hl rfl)
@[simp] theorem S13 (a b : List (List Cell)) (hs : smL a) (q1 q2 : Fl) (hh : Heap) : Ci cfg (.func (.func 13) [] []) [R  q1 (eR eC) a, R  q2 (eR eC) b] hh = some (.ret (.bool (decide (a = b))), hh) :=
  Ci_K cfg rfl rfl (by simp) (by simp) (C13 a b hs)
/-! ### Texts -/
theorem C56 (x : List (List Cell)) (hs : smL x) (hl : x.length ≤ 4294967296) : Kc cfg 56 [R fl0 (eR eC) x] (.ret (R fl0 eS (textsL x))) := by
  refine outS_of_wp cfg (fn := Tryd.f56) Tryd.func56 rfl (by simp [Tryd.f56]) ?_
  simp (disch := first | assumption | omega | (simp; done) | (simp; omega)) [-getElem?_pos, List.getElem?_cons_zero, List.getElem?_cons_succ, Tryd.f56]
  repeat' (first | (refine wpc_split _ (fun hc => ?_) (fun hc => ?_) <;> (try simp at hc)) | (refine ww_split _ (fun hc => ?_) (fun hc => ?_) <;> (try simp at hc)) | (refine wp_drawF (by kernel_rfl) ?_) | (refine wk_yldW _ ?_) | (refine layOwe _ (by kernel_rfl) ?_) | (refine owe ?_ (fun ho => ?_)) | (simp (disch := first | assumption | omega | (simp; done) | (simp; omega)) [-getElem?_pos, List.getElem?_cons_zero, List.getElem?_cons_succ]))
  refine wp_loopE cfg rfl (fun f0 h0 m fr h => ∃ i : Nat, ∃ fl : Fl, fr 0 = f0 0 ∧ fr 3 = R fl eS (textsL (x.take i)) ∧ fr 4 = .int .i64 i ∧ (App h.ts 1 fl) ∧ (i + m = x.length)) (x.length) _ _ ⟨0, (false, true, none), rfl, by first | rfl | (simp; done) | (simp [R]; done) | simp [R], by first | rfl | (simp; done) | (simp [R]; done) | simp [R], App.full _ _ _, by first | rfl | (simp; done) | omega⟩ ?_
  rintro Am Af Ah ⟨i, fl, A0, A3, A4, hap, hm⟩ Aih
  try simp at A0
  by_cases hi : i < x.length
  · have hsi := smL_nth hs hi
    have hst := textsL_take hi
    have hll : (textsL (x.take i)).length ≤ i := by unfold textsL; simp; omega
    repeat' (first | (refine wpc_split _ (fun hc => ?_) (fun hc => ?_) <;> (try simp at hc)) | (refine ww_split _ (fun hc => ?_) (fun hc => ?_) <;> (try simp at hc)) | (refine wp_drawF (by kernel_rfl) ?_) | (refine wk_yldW _ ?_) | (refine layOwe _ (by kernel_rfl) ?_) | (refine owe ?_ (fun ho => ?_)) | (simp (disch := first | assumption | omega | (simp; done) | (simp; omega)) [A0, A3, A4, eR, fold_S1, -getElem?_pos, List.getElem?_cons_zero, List.getElem?_cons_succ]))
    exact Aih (Am - 1) _ _ (by omega) ⟨i + 1, _, by simp [A0, A3, A4, hst], by simp [A0, A3, A4, hst], by simp [A0, A3, A4, hst], App.new _ _ _, by omega⟩
  · have h1 : x.take i = x := List.take_of_length_le (by omega)
    rw [h1] at A3
    repeat' (first | (refine wpc_split _ (fun hc => ?_) (fun hc => ?_) <;> (try simp at hc)) | (refine ww_split _ (fun hc => ?_) (fun hc => ?_) <;> (try simp at hc)) | (refine wp_drawF (by kernel_rfl) ?_) | (refine wk_yldW _ ?_) | (refine layOwe _ (by kernel_rfl) ?_) | (refine owe ?_ (fun ho => ?_)) | (simp (disch := first | assumption | omega | (simp; done) | (simp; omega)) [A0, A3, A4, -getElem?_pos, List.getElem?_cons_zero, List.getElem?_cons_succ]))
@[simp] theorem S56 (x : List (List Cell)) (hs : smL x) (hl : x.length ≤ 4294967296) (q1 : Fl) (hh : Heap) : Ci cfg (.func (.func 56) [] []) [R  q1 (eR eC) x] hh = some (.ret (R fl0 eS (textsL x)), hh) :=
  Ci_K cfg rfl rfl (by simp) (by simp) (C56 x hs hl)
theorem C57 (x : List Cell) (hl : x.length ≤ 4294967296) : Kc cfg 57 [R fl0 eC x] (.ret (R fl0 eS (saidL x))) := by
  refine outS_of_wp cfg (fn := Tryd.f57) Tryd.func57 rfl (by simp [Tryd.f57]) ?_
  simp (disch := first | assumption | omega | (simp; done) | (simp; omega)) [-getElem?_pos, List.getElem?_cons_zero, List.getElem?_cons_succ, Tryd.f57]
  repeat' (first | (refine wpc_split _ (fun hc => ?_) (fun hc => ?_) <;> (try simp at hc)) | (refine ww_split _ (fun hc => ?_) (fun hc => ?_) <;> (try simp at hc)) | (refine wp_drawF (by kernel_rfl) ?_) | (refine wk_yldW _ ?_) | (refine layOwe _ (by kernel_rfl) ?_) | (refine owe ?_ (fun ho => ?_)) | (simp (disch := first | assumption | omega | (simp; done) | (simp; omega)) [-getElem?_pos, List.getElem?_cons_zero, List.getElem?_cons_succ]))
  refine wp_loopE cfg rfl (fun f0 h0 m fr h => ∃ i : Nat, ∃ fl : Fl, fr 0 = f0 0 ∧ fr 3 = R fl eS (saidL (x.take i)) ∧ fr 4 = .int .i64 i ∧ (App h.ts 1 fl) ∧ (i + m = x.length)) (x.length) _ _ ⟨0, (false, true, none), rfl, by first | rfl | (simp; done) | (simp [R]; done) | simp [R], by first | rfl | (simp; done) | (simp [R]; done) | simp [R], App.full _ _ _, by first | rfl | (simp; done) | omega⟩ ?_
  rintro Am Af Ah ⟨i, fl, A0, A3, A4, hap, hm⟩ Aih
  try simp at A0
  by_cases hi : i < x.length
  · have hst := saidL_take hi
    have hll : (saidL (x.take i)).length ≤ i := by unfold saidL; simp; omega
    repeat' (first | (refine wpc_split _ (fun hc => ?_) (fun hc => ?_) <;> (try simp at hc)) | (refine ww_split _ (fun hc => ?_) (fun hc => ?_) <;> (try simp at hc)) | (refine wp_drawF (by kernel_rfl) ?_) | (refine wk_yldW _ ?_) | (refine layOwe _ (by kernel_rfl) ?_) | (refine owe ?_ (fun ho => ?_)) | (simp (disch := first | assumption | omega | (simp; done) | (simp; omega)) [A0, A3, A4, fold_S1, -getElem?_pos, List.getElem?_cons_zero, List.getElem?_cons_succ]))
    exact Aih (Am - 1) _ _ (by omega) ⟨i + 1, _, by simp [A0, A3, A4, hst], by simp [A0, A3, A4, hst], by simp [A0, A3, A4, hst], App.new _ _ _, by omega⟩
  · have h1 : x.take i = x := List.take_of_length_le (by omega)
    rw [h1] at A3
    repeat' (first | (refine wpc_split _ (fun hc => ?_) (fun hc => ?_) <;> (try simp at hc)) | (refine ww_split _ (fun hc => ?_) (fun hc => ?_) <;> (try simp at hc)) | (refine wp_drawF (by kernel_rfl) ?_) | (refine wk_yldW _ ?_) | (refine layOwe _ (by kernel_rfl) ?_) | (refine owe ?_ (fun ho => ?_)) | (simp (disch := first | assumption | omega | (simp; done) | (simp; omega)) [A0, A3, A4, -getElem?_pos, List.getElem?_cons_zero, List.getElem?_cons_succ]))
@[simp] theorem S57 (x : List Cell) (hl : x.length ≤ 4294967296) (q1 : Fl) (hh : Heap) : Ci cfg (.func (.func 57) [] []) [R  q1 eC x] hh = some (.ret (R fl0 eS (saidL x)), hh) :=
  Ci_K cfg rfl rfl (by simp) (by simp) (C57 x hl)
theorem C58 (x : List Cell) (t : List UInt8) (al : List (List UInt8)) (hl : x.length ≤ 4294967290) : Kc cfg 58 [R fl0 eC x, .agg [.str t, R fl0 eS al]] (.ret (R fl0 eC (x ++ [⟨t, al⟩]))) := by
  have hnl : V.row false true [] 0 none = R (false, true, none) eC [] := rfl
  have ag0 : ∀ h : Heap, appendV Tryd.prog h false #[37, 37] (R (false, true, none) eC []) (R fl0 eC []) = some (R (false, true, none) eC [], h) := fun h => append_0c (E := eC) (l := []) (by simp) (by simp)
  have ag1 : ¬ x = [] → ∀ h : Heap, appendV Tryd.prog h false #[37, 37] (R (false, true, none) eC []) (R fl0 eC x) = some (R (false, false, some h.ts.length) eC x, bump h none 2) := fun hne h => append_Rn (E := eC) (l := []) (fl := (false, true, none)) (by simp) hne (App.full _ _ _) (by simp; omega)
  have ap0 : App [] 2 (false, true, none) := App.full _ _ _
  have ap1 : App (bumpT [] none 2) 2 (false, false, some 0) := App.new [] 2 none
  by_cases h0 : x = []
  · subst h0
    refine outS_of_wp cfg (fn := Tryd.f58) Tryd.func58 rfl (by simp [Tryd.f58]) ?_
    simp (disch := first | assumption | omega | (simp; done) | (simp; omega)) [-getElem?_pos, List.getElem?_cons_zero, List.getElem?_cons_succ, Tryd.f58, emptyH, hnl, ag0, ap0]
    repeat' (first | (refine wpc_split _ (fun hc => ?_) (fun hc => ?_) <;> (try simp at hc)) | (refine ww_split _ (fun hc => ?_) (fun hc => ?_) <;> (try simp at hc)) | (refine wp_drawF (by kernel_rfl) ?_) | (refine wk_yldW _ ?_) | (refine layOwe _ (by kernel_rfl) ?_) | (refine owe ?_ (fun ho => ?_)) | (simp (disch := first | assumption | omega | (simp; done) | (simp; omega)) [emptyH, hnl, ag0, ap0, -getElem?_pos, List.getElem?_cons_zero, List.getElem?_cons_succ]))
  · skip
    refine outS_of_wp cfg (fn := Tryd.f58) Tryd.func58 rfl (by simp [Tryd.f58]) ?_
    simp (disch := first | assumption | omega | (simp; done) | (simp; omega)) [-getElem?_pos, List.getElem?_cons_zero, List.getElem?_cons_succ, Tryd.f58, emptyH, hnl, ag1 h0, ap1]
    repeat' (first | (refine wpc_split _ (fun hc => ?_) (fun hc => ?_) <;> (try simp at hc)) | (refine ww_split _ (fun hc => ?_) (fun hc => ?_) <;> (try simp at hc)) | (refine wp_drawF (by kernel_rfl) ?_) | (refine wk_yldW _ ?_) | (refine layOwe _ (by kernel_rfl) ?_) | (refine owe ?_ (fun ho => ?_)) | (simp (disch := first | assumption | omega | (simp; done) | (simp; omega)) [emptyH, hnl, ag1 h0, ap1, -getElem?_pos, List.getElem?_cons_zero, List.getElem?_cons_succ]))
@[simp] theorem S58 (x : List Cell) (t : List UInt8) (al : List (List UInt8)) (hl : x.length ≤ 4294967290) (q1 q2 : Fl) (hh : Heap) : Ci cfg (.func (.func 58) [] []) [R  q1 eC x, .agg [.str t, R  q2 eS al]] hh = some (.ret (R fl0 eC (x ++ [⟨t, al⟩])), hh) :=
  Ci_K cfg rfl rfl (by simp) (by simp) (C58 x t al hl)
end Go.Ab
