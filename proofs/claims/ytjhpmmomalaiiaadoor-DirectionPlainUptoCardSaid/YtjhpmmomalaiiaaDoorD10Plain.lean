/- DirectionPlain: the law. -/
import Derived.Test.YtjhpmmomalaiiaaDoorP10c
import Derived.Test.YtjhpmmomalaiiaaDoorD10Show
set_option linter.unusedVariables false
set_option linter.unusedSimpArgs false
set_option linter.unusedSectionVars false
set_option linter.deprecated false
namespace Go.Ab
open Go.Proofs
set_option maxRecDepth 100000
set_option maxHeartbeats 4000000
def iK (k : Int) : V := .int .i64 k
theorem iK_eq (a b : Int) : eqKey Tryd.prog 3 (iK a) (iK b) = some (decide (a = b)) := by
  simp [eqKey, iK]
  by_cases h : a = b <;> simp [h]
theorem iK_ok (a : Int) : keyOk Tryd.prog 3 (iK a) = true := by simp [keyOk, iK]
theorem lookI {h : Heap} {D : List (Int × Int)} (r : Int) (hb : h.bs[0]? = some (.map (mG iK 0 D) D.length)) : lookupV Tryd.prog h 40 (.map 0) (.int .i64 r) false = some (.int .i64 (getG D r)) :=
  lookup_G (e := iK) (kt := 3) (et := 3) r (by simp) iK_eq iK_ok (by simp) hb
theorem updI2 {h : Heap} {D : List (Int × Int)} (r n : Int) (hb : h.bs[0]? = some (.map (mG iK 0 D) D.length)) : mapUpdV Tryd.prog h 40 (.map 0) (.int .i64 r) (.int .i64 n) = some ⟨h.bs.set 0 (.map (mG iK 0 (putG D r n)) (putG D r n).length), h.ts⟩ :=
  mapUpd_G (e := iK) (kt := 3) (et := 3) r n (by simp) iK_eq iK_ok hb
theorem plain_ps (s : List UInt8) (right : Bool) (hs : s.length < 1099511627776) : PS 8 [.str s, .bool right] (.ret (.bool true)) := by
  refine psim_of_nsf (c := cfg) hP hX (fn := Tryd.f8) Tryd.func8 rfl (by simp [Tryd.f8]) ?_
  by_cases h1 : s.length ≤ 300
  · by_cases he : (runesG s).2 = 0
    · obtain ⟨h2, h3, h4, h5, h6⟩ := show_right right he _ rfl
      have hk := fun i => kinds_ok (s := s) he (i := i)
      obtain ⟨h7, h8⟩ := runesG_all he
      have h9 := runes_len _ _ _ (Nat.le_refl _) h8
      have hsame : right = false → anyR (runesG s).1 = false → ∀ i, i < (runesG s).1.length → nth (shownL (runesG s).1 (levS (runesG s).1 right).1) i = nth (runesG s).1 i := fun h hn i hi => by subst h; exact shown_same he hn hi
      have hturn : right = true → anyL (runesG s).1 = false → ∀ i, i < (runesG s).1.length → nth (shownL (runesG s).1 (levS (runesG s).1 right).1) ((runesG s).1.length - 1 - i) = nth (runesG s).1 i := fun h hn i hi => by subst h; exact shown_turned he hn hi
      generalize hm : shownL (runesG s).1 (levS (runesG s).1 right).1 = m0 at *
      generalize hl : (runesG s).1 = l at *
      have hll : l.length ≤ 300 := by omega
      have hel : (encAll m0).length < 1099511627776 := by omega
      repeat' (first | (refine nsf_detN hP hX (by decide +kernel) ?_) | (refine nsf_seq ?_) | (refine nsf_block ?_) | (refine wpc_split _ (fun hc => ?_) (fun hc => ?_) <;> (try simp at hc)) | (refine ww_split _ (fun hc => ?_) (fun hc => ?_) <;> (try simp at hc)) | (refine wp_drawF (by kernel_rfl) ?_) | (refine wk_yldW _ ?_) | (refine layOwe _ (by kernel_rfl) ?_) | (refine owe ?_ (fun ho => ?_)) | (simp (disch := first | assumption | omega | (simp; done) | (simp; omega)) [he, hl, h2, h3, h5, h6, hel, -getElem?_pos, List.getElem?_cons_zero, List.getElem?_cons_succ]))
      all_goals try (exfalso; omega)
      clear he hel h2 h3 h5 h7 h8
      refine wp_loopE cfg rfl (fun f0 h0 m fr h => ∃ i : Nat, fr 1 = f0 1 ∧ fr 7 = f0 7 ∧ fr 9 = f0 9 ∧ fr 72 = f0 72 ∧ fr 73 = f0 73 ∧ fr 74 = .int .i64 i ∧ fr 11 = .bool (anyL (l.take i)) ∧ fr 12 = .bool (anyR (l.take i)) ∧ h.bs = h0.bs ∧ (i + m = l.length)) (l.length) _ _ ⟨0, rfl, rfl, rfl, rfl, rfl, by first | rfl | (simp; done) | (simp [R]; done) | simp [R], by first | rfl | (simp; done) | (simp [R]; done) | simp [R], by first | rfl | (simp; done) | (simp [R]; done) | simp [R], rfl, by first | rfl | (simp; done) | omega⟩ ?_
      rintro Am Af Ah ⟨i, A1, A7, A9, A72, A73, A74, A11, A12, Abs, hm1⟩ Aih
      try simp at A1 A7 A9 A72 A73 Abs
      by_cases hi : i < l.length
      · have hki := hk i hi
        have t1 : anyL (l.take (i + 1)) = (anyL (l.take i) || leftK (kindG (nth l i)).1) := any_take hi
        have t2 : anyR (l.take (i + 1)) = (anyR (l.take i) || rightK (kindG (nth l i)).1) := any_take hi
        unfold leftK at t1
        unfold rightK at t2
        generalize hkk : (kindG (nth l i)).1 = k at *
        generalize hx1 : anyL (l.take i) = x1 at *
        generalize hx2 : anyR (l.take i) = x2 at *
        by_cases h3 : k = 3
        · cases x1 <;> cases x2
          all_goals
            repeat' (first | (refine nsf_detN hP hX (by decide +kernel) ?_) | (refine nsf_seq ?_) | (refine nsf_block ?_) | (refine wpc_split _ (fun hc => ?_) (fun hc => ?_) <;> (try simp at hc)) | (refine ww_split _ (fun hc => ?_) (fun hc => ?_) <;> (try simp at hc)) | (refine wp_drawF (by kernel_rfl) ?_) | (refine wk_yldW _ ?_) | (refine layOwe _ (by kernel_rfl) ?_) | (refine owe ?_ (fun ho => ?_)) | (simp (disch := first | assumption | omega | (simp; done) | (simp; omega)) [A1, A7, A9, A72, A73, A74, A11, A12, Abs, hi, hki, hkk, eI, h3, -getElem?_pos, List.getElem?_cons_zero, List.getElem?_cons_succ]))
            all_goals try (exfalso; omega)
            exact Aih (Am - 1) _ _ (by omega) ⟨i + 1, by simp [A1, A7, A9, A72, A73, A74, A11, A12, Abs, t1, t2, h3], by simp [A1, A7, A9, A72, A73, A74, A11, A12, Abs, t1, t2, h3], by simp [A1, A7, A9, A72, A73, A74, A11, A12, Abs, t1, t2, h3], by simp [A1, A7, A9, A72, A73, A74, A11, A12, Abs, t1, t2, h3], by simp [A1, A7, A9, A72, A73, A74, A11, A12, Abs, t1, t2, h3], by simp [A1, A7, A9, A72, A73, A74, A11, A12, Abs, t1, t2, h3], by simp [A1, A7, A9, A72, A73, A74, A11, A12, Abs, t1, t2, h3], by simp [A1, A7, A9, A72, A73, A74, A11, A12, Abs, t1, t2, h3], by simp [A1, A7, A9, A72, A73, A74, A11, A12, Abs, t1, t2, h3], by omega⟩
        · cases x1 <;> cases x2
          all_goals
            repeat' (first | (refine nsf_detN hP hX (by decide +kernel) ?_) | (refine nsf_seq ?_) | (refine nsf_block ?_) | (refine wpc_split _ (fun hc => ?_) (fun hc => ?_) <;> (try simp at hc)) | (refine ww_split _ (fun hc => ?_) (fun hc => ?_) <;> (try simp at hc)) | (refine wp_drawF (by kernel_rfl) ?_) | (refine wk_yldW _ ?_) | (refine layOwe _ (by kernel_rfl) ?_) | (refine owe ?_ (fun ho => ?_)) | (simp (disch := first | assumption | omega | (simp; done) | (simp; omega)) [A1, A7, A9, A72, A73, A74, A11, A12, Abs, hi, hki, hkk, eI, h3, -getElem?_pos, List.getElem?_cons_zero, List.getElem?_cons_succ]))
            all_goals try (exfalso; omega)
            exact Aih (Am - 1) _ _ (by omega) ⟨i + 1, by simp [A1, A7, A9, A72, A73, A74, A11, A12, Abs, t1, t2, h3], by simp [A1, A7, A9, A72, A73, A74, A11, A12, Abs, t1, t2, h3], by simp [A1, A7, A9, A72, A73, A74, A11, A12, Abs, t1, t2, h3], by simp [A1, A7, A9, A72, A73, A74, A11, A12, Abs, t1, t2, h3], by simp [A1, A7, A9, A72, A73, A74, A11, A12, Abs, t1, t2, h3], by simp [A1, A7, A9, A72, A73, A74, A11, A12, Abs, t1, t2, h3], by simp [A1, A7, A9, A72, A73, A74, A11, A12, Abs, t1, t2, h3], by simp [A1, A7, A9, A72, A73, A74, A11, A12, Abs, t1, t2, h3], by simp [A1, A7, A9, A72, A73, A74, A11, A12, Abs, t1, t2, h3], by omega⟩
      · obtain rfl : i = l.length := by omega
        rw [List.take_length] at A11 A12
        clear Aih
        repeat' (first | (refine nsf_detN hP hX (by decide +kernel) ?_) | (refine nsf_seq ?_) | (refine nsf_block ?_) | (refine wpc_split _ (fun hc => ?_) (fun hc => ?_) <;> (try simp at hc)) | (refine ww_split _ (fun hc => ?_) (fun hc => ?_) <;> (try simp at hc)) | (refine wp_drawF (by kernel_rfl) ?_) | (refine wk_yldW _ ?_) | (refine layOwe _ (by kernel_rfl) ?_) | (refine owe ?_ (fun ho => ?_)) | (simp (disch := first | assumption | omega | (simp; done) | (simp; omega)) [A1, A7, A9, A72, A73, A74, A11, A12, Abs, -getElem?_pos, List.getElem?_cons_zero, List.getElem?_cons_succ]))
        all_goals try (exfalso; omega)
        refine wp_loopE cfg rfl (fun f0 h0 m fr h => ∃ i : Nat, ∃ D : List (Int × Int), fr 1 = f0 1 ∧ fr 7 = f0 7 ∧ fr 9 = f0 9 ∧ fr 11 = f0 11 ∧ fr 12 = f0 12 ∧ fr 17 = f0 17 ∧ fr 101 = f0 101 ∧ fr 102 = f0 102 ∧ fr 103 = .int .i64 i ∧ (h.bs = [.map (mG iK 0 D) D.length]) ∧ (i + m = l.length) ∧ (∀ r, getG D r = cntD l m0 i r) ∧ ((keysG D).Nodup) ∧ (D.length ≤ 2 * i)) (l.length) _ _ ⟨0, [], rfl, rfl, rfl, rfl, rfl, rfl, rfl, rfl, by first | rfl | (simp; done) | (simp [R]; done) | simp [R], by simp [Abs, mG], by first | rfl | (simp; done) | omega, fun r => by rw [cntD_zero]; rfl, List.nodup_nil, Nat.zero_le _⟩ ?_
        rintro Bm Bf Bh ⟨i, D, B1, B7, B9, B11, B12, B17, B101, B102, B103, hb, hm2, hD, hn, hlen⟩ Bih
        try simp [A1, A7, A9, A72, A73, A74, A11, A12, Abs] at B1 B7 B9 B11 B12 B17 B101 B102
        by_cases hi2 : i < l.length
        · have hmi : i < m0.length := by omega
          have hst := fun r => cntD_step (l := l) (m := m0) hi2 hmi r
          have hbd := fun r => cntD_bound l m0 i r
          have hg1 := getG_put D (nth l i) (getG D (nth l i) + 1)
          have hn1 := nodup_put hn (nth l i) (getG D (nth l i) + 1)
          have hl1 := put_len D (nth l i) (getG D (nth l i) + 1)
          have hb1 : -(i : Int) ≤ getG D (nth l i) ∧ getG D (nth l i) ≤ i := by rw [hD]; exact hbd _
          generalize hD1 : putG D (nth l i) (getG D (nth l i) + 1) = D1 at *
          have hb2 : -(i : Int) ≤ getG D1 (nth m0 i) ∧ getG D1 (nth m0 i) ≤ i + 1 := by
            rw [hg1]
            split
            · omega
            · rw [hD]; have := hbd (nth m0 i); omega
          have hg2 := getG_put D1 (nth m0 i) (getG D1 (nth m0 i) - 1)
          have hn2 := nodup_put hn1 (nth m0 i) (getG D1 (nth m0 i) - 1)
          have hl2 := put_len D1 (nth m0 i) (getG D1 (nth m0 i) - 1)
          generalize hD2 : putG D1 (nth m0 i) (getG D1 (nth m0 i) - 1) = D2 at *
          have hD3 : ∀ r, getG D2 r = cntD l m0 (i + 1) r := fun r => by
            rw [hg2, hst, hg1, hg1]
            by_cases e1 : r = nth m0 i
            · rw [if_pos e1, if_pos e1, ← e1]
              split
              · rename_i e2; rw [← e2, hD]
              · rw [hD]; omega
            · rw [if_neg e1, if_neg e1]
              split
              · rename_i e2; rw [← e2, hD]; omega
              · rw [hD]; omega
          have lk1 := lookI (h := Bh) (D := D) (nth l i) (by rw [hb]; rfl)
          have up1 := updI2 (h := Bh) (D := D) (nth l i) (getG D (nth l i) + 1) (by rw [hb]; rfl)
          have lk2 := fun ts => lookI (h := ⟨[.map (mG iK 0 D1) D1.length], ts⟩) (D := D1) (nth m0 i) rfl
          have up2 := fun ts => updI2 (h := ⟨[.map (mG iK 0 D1) D1.length], ts⟩) (D := D1) (nth m0 i) (getG D1 (nth m0 i) - 1) rfl
          rw [hD1] at up1
          simp only [hD2] at up2
          clear hD hg1 hg2 hst hbd hD1 hD2
          cases right with
          | false =>
            cases hR : anyR l with
            | false =>
              have e1 := hsame rfl hR i hi2
              simp only [e1] at lk2 up2 hb2
              repeat' (first | (refine nsf_detN hP hX (by decide +kernel) ?_) | (refine nsf_seq ?_) | (refine nsf_block ?_) | (refine wpc_split _ (fun hc => ?_) (fun hc => ?_) <;> (try simp at hc)) | (refine ww_split _ (fun hc => ?_) (fun hc => ?_) <;> (try simp at hc)) | (refine wp_drawF (by kernel_rfl) ?_) | (refine wk_yldW _ ?_) | (refine layOwe _ (by kernel_rfl) ?_) | (refine owe ?_ (fun ho => ?_)) | (simp (disch := first | assumption | omega | (simp; done) | (simp; omega)) [B1, B7, B9, B11, B12, B17, B101, B102, B103, hb, hi2, hmi, eI, lk1, lk2, up1, up2, hR, e1, -getElem?_pos, List.getElem?_cons_zero, List.getElem?_cons_succ]))
              all_goals try (exfalso; omega)
              exact Bih (Bm - 1) _ _ (by omega) ⟨i + 1, D2, by simp [B1, B7, B9, B11, B12, B17, B101, B102, B103, A1, A7, A9, A72, A73, A74, A11, A12, Abs], by simp [B1, B7, B9, B11, B12, B17, B101, B102, B103, A1, A7, A9, A72, A73, A74, A11, A12, Abs], by simp [B1, B7, B9, B11, B12, B17, B101, B102, B103, A1, A7, A9, A72, A73, A74, A11, A12, Abs], by simp [B1, B7, B9, B11, B12, B17, B101, B102, B103, A1, A7, A9, A72, A73, A74, A11, A12, Abs], by simp [B1, B7, B9, B11, B12, B17, B101, B102, B103, A1, A7, A9, A72, A73, A74, A11, A12, Abs], by simp [B1, B7, B9, B11, B12, B17, B101, B102, B103, A1, A7, A9, A72, A73, A74, A11, A12, Abs], by simp [B1, B7, B9, B11, B12, B17, B101, B102, B103, A1, A7, A9, A72, A73, A74, A11, A12, Abs], by simp [B1, B7, B9, B11, B12, B17, B101, B102, B103, A1, A7, A9, A72, A73, A74, A11, A12, Abs], by simp [B1, B7, B9, B11, B12, B17, B101, B102, B103, A1, A7, A9, A72, A73, A74, A11, A12, Abs], rfl, by omega, hD3, hn2, by omega⟩
            | true =>
              repeat' (first | (refine nsf_detN hP hX (by decide +kernel) ?_) | (refine nsf_seq ?_) | (refine nsf_block ?_) | (refine wpc_split _ (fun hc => ?_) (fun hc => ?_) <;> (try simp at hc)) | (refine ww_split _ (fun hc => ?_) (fun hc => ?_) <;> (try simp at hc)) | (refine wp_drawF (by kernel_rfl) ?_) | (refine wk_yldW _ ?_) | (refine layOwe _ (by kernel_rfl) ?_) | (refine owe ?_ (fun ho => ?_)) | (simp (disch := first | assumption | omega | (simp; done) | (simp; omega)) [B1, B7, B9, B11, B12, B17, B101, B102, B103, hb, hi2, hmi, eI, lk1, lk2, up1, up2, hR, -getElem?_pos, List.getElem?_cons_zero, List.getElem?_cons_succ]))
              all_goals try (exfalso; omega)
              exact Bih (Bm - 1) _ _ (by omega) ⟨i + 1, D2, by simp [B1, B7, B9, B11, B12, B17, B101, B102, B103, A1, A7, A9, A72, A73, A74, A11, A12, Abs], by simp [B1, B7, B9, B11, B12, B17, B101, B102, B103, A1, A7, A9, A72, A73, A74, A11, A12, Abs], by simp [B1, B7, B9, B11, B12, B17, B101, B102, B103, A1, A7, A9, A72, A73, A74, A11, A12, Abs], by simp [B1, B7, B9, B11, B12, B17, B101, B102, B103, A1, A7, A9, A72, A73, A74, A11, A12, Abs], by simp [B1, B7, B9, B11, B12, B17, B101, B102, B103, A1, A7, A9, A72, A73, A74, A11, A12, Abs], by simp [B1, B7, B9, B11, B12, B17, B101, B102, B103, A1, A7, A9, A72, A73, A74, A11, A12, Abs], by simp [B1, B7, B9, B11, B12, B17, B101, B102, B103, A1, A7, A9, A72, A73, A74, A11, A12, Abs], by simp [B1, B7, B9, B11, B12, B17, B101, B102, B103, A1, A7, A9, A72, A73, A74, A11, A12, Abs], by simp [B1, B7, B9, B11, B12, B17, B101, B102, B103, A1, A7, A9, A72, A73, A74, A11, A12, Abs], rfl, by omega, hD3, hn2, by omega⟩
          | true =>
            cases hL : anyL l with
            | false =>
              have e1 : nth m0 (m0.length - 1 - i) = nth l i := by rw [h6]; exact hturn rfl hL i hi2
              repeat' (first | (refine nsf_detN hP hX (by decide +kernel) ?_) | (refine nsf_seq ?_) | (refine nsf_block ?_) | (refine wpc_split _ (fun hc => ?_) (fun hc => ?_) <;> (try simp at hc)) | (refine ww_split _ (fun hc => ?_) (fun hc => ?_) <;> (try simp at hc)) | (refine wp_drawF (by kernel_rfl) ?_) | (refine wk_yldW _ ?_) | (refine layOwe _ (by kernel_rfl) ?_) | (refine owe ?_ (fun ho => ?_)) | (simp (disch := first | assumption | omega | (simp; done) | (simp; omega)) [B1, B7, B9, B11, B12, B17, B101, B102, B103, hb, hi2, hmi, eI, lk1, lk2, up1, up2, hL, e1, -getElem?_pos, List.getElem?_cons_zero, List.getElem?_cons_succ]))
              all_goals try (exfalso; omega)
              exact Bih (Bm - 1) _ _ (by omega) ⟨i + 1, D2, by simp [B1, B7, B9, B11, B12, B17, B101, B102, B103, A1, A7, A9, A72, A73, A74, A11, A12, Abs], by simp [B1, B7, B9, B11, B12, B17, B101, B102, B103, A1, A7, A9, A72, A73, A74, A11, A12, Abs], by simp [B1, B7, B9, B11, B12, B17, B101, B102, B103, A1, A7, A9, A72, A73, A74, A11, A12, Abs], by simp [B1, B7, B9, B11, B12, B17, B101, B102, B103, A1, A7, A9, A72, A73, A74, A11, A12, Abs], by simp [B1, B7, B9, B11, B12, B17, B101, B102, B103, A1, A7, A9, A72, A73, A74, A11, A12, Abs], by simp [B1, B7, B9, B11, B12, B17, B101, B102, B103, A1, A7, A9, A72, A73, A74, A11, A12, Abs], by simp [B1, B7, B9, B11, B12, B17, B101, B102, B103, A1, A7, A9, A72, A73, A74, A11, A12, Abs], by simp [B1, B7, B9, B11, B12, B17, B101, B102, B103, A1, A7, A9, A72, A73, A74, A11, A12, Abs], by simp [B1, B7, B9, B11, B12, B17, B101, B102, B103, A1, A7, A9, A72, A73, A74, A11, A12, Abs], rfl, by omega, hD3, hn2, by omega⟩
            | true =>
              repeat' (first | (refine nsf_detN hP hX (by decide +kernel) ?_) | (refine nsf_seq ?_) | (refine nsf_block ?_) | (refine wpc_split _ (fun hc => ?_) (fun hc => ?_) <;> (try simp at hc)) | (refine ww_split _ (fun hc => ?_) (fun hc => ?_) <;> (try simp at hc)) | (refine wp_drawF (by kernel_rfl) ?_) | (refine wk_yldW _ ?_) | (refine layOwe _ (by kernel_rfl) ?_) | (refine owe ?_ (fun ho => ?_)) | (simp (disch := first | assumption | omega | (simp; done) | (simp; omega)) [B1, B7, B9, B11, B12, B17, B101, B102, B103, hb, hi2, hmi, eI, lk1, lk2, up1, up2, hL, -getElem?_pos, List.getElem?_cons_zero, List.getElem?_cons_succ]))
              all_goals try (exfalso; omega)
              exact Bih (Bm - 1) _ _ (by omega) ⟨i + 1, D2, by simp [B1, B7, B9, B11, B12, B17, B101, B102, B103, A1, A7, A9, A72, A73, A74, A11, A12, Abs], by simp [B1, B7, B9, B11, B12, B17, B101, B102, B103, A1, A7, A9, A72, A73, A74, A11, A12, Abs], by simp [B1, B7, B9, B11, B12, B17, B101, B102, B103, A1, A7, A9, A72, A73, A74, A11, A12, Abs], by simp [B1, B7, B9, B11, B12, B17, B101, B102, B103, A1, A7, A9, A72, A73, A74, A11, A12, Abs], by simp [B1, B7, B9, B11, B12, B17, B101, B102, B103, A1, A7, A9, A72, A73, A74, A11, A12, Abs], by simp [B1, B7, B9, B11, B12, B17, B101, B102, B103, A1, A7, A9, A72, A73, A74, A11, A12, Abs], by simp [B1, B7, B9, B11, B12, B17, B101, B102, B103, A1, A7, A9, A72, A73, A74, A11, A12, Abs], by simp [B1, B7, B9, B11, B12, B17, B101, B102, B103, A1, A7, A9, A72, A73, A74, A11, A12, Abs], by simp [B1, B7, B9, B11, B12, B17, B101, B102, B103, A1, A7, A9, A72, A73, A74, A11, A12, Abs], rfl, by omega, hD3, hn2, by omega⟩
        · obtain rfl : i = l.length := by omega
          have hz : ∀ r, getG D r = 0 := fun r => by rw [hD, cntD_all h4]
          clear Bih hD hsame hturn
          have hrg : rangeV Tryd.prog Bh 40 (.map 0) = some (.ptr 1 0, newB Bh (.iter (some 0) D.length [] D.length)) := by simp [rangeV, hb]
          repeat' (first | (refine nsf_detN hP hX (by decide +kernel) ?_) | (refine nsf_seq ?_) | (refine nsf_block ?_) | (refine wpc_split _ (fun hc => ?_) (fun hc => ?_) <;> (try simp at hc)) | (refine ww_split _ (fun hc => ?_) (fun hc => ?_) <;> (try simp at hc)) | (refine wp_drawF (by kernel_rfl) ?_) | (refine wk_yldW _ ?_) | (refine layOwe _ (by kernel_rfl) ?_) | (refine owe ?_ (fun ho => ?_)) | (simp (disch := first | assumption | omega | (simp; done) | (simp; omega)) [B1, B7, B9, B11, B12, B17, B101, B102, B103, hb, hrg, -getElem?_pos, List.getElem?_cons_zero, List.getElem?_cons_succ]))
          all_goals try (exfalso; omega)
          refine nsf_loopE (c := cfg) rfl (fun f0 h0 m fr h => ∃ seen : List Nat, fr 154 = .ptr 1 0 ∧ (h.bs = [.map (mG iK 0 D) D.length, .iter (some 0) D.length seen D.length]) ∧ (m = leftG (mG iK 0 D) seen)) (leftG (mG iK 0 D) []) _ _ ⟨[], by first | rfl | (simp; done) | (simp [R]; done) | simp [R], by simp [hb], rfl⟩ ?_
          rintro Cm Cf Ch ⟨seen, C154, hb3, hm3⟩ Cih
          repeat' (first | (refine nsf_detN hP hX (by decide +kernel) ?_) | (refine nsf_seq ?_) | (refine nsf_block ?_) | (refine wpc_split _ (fun hc => ?_) (fun hc => ?_) <;> (try simp at hc)) | (refine ww_split _ (fun hc => ?_) (fun hc => ?_) <;> (try simp at hc)) | (refine wp_drawF (by kernel_rfl) ?_) | (refine wk_yldW _ ?_) | (refine layOwe _ (by kernel_rfl) ?_) | (refine owe ?_ (fun ho => ?_)) | (simp (disch := first | assumption | omega | (simp; done) | (simp; omega)) [C154, hb3, -getElem?_pos, List.getElem?_cons_zero, List.getElem?_cons_succ]))
          refine nsf_next hP hX (j := 1) (m := 0) (since := D.length) (last := D.length) (clock := D.length) (seen := seen) (es := mG iK 0 D) rfl rfl rfl (by simp [C154]) (by simp [hb3]) (by simp [hb3]) mG_hold (Nat.le_refl _) (fun hall => ?_) (fun e he hne => ?_)
          · repeat' (first | (refine nsf_detN hP hX (by decide +kernel) ?_) | (refine nsf_seq ?_) | (refine nsf_block ?_) | (refine wpc_split _ (fun hc => ?_) (fun hc => ?_) <;> (try simp at hc)) | (refine ww_split _ (fun hc => ?_) (fun hc => ?_) <;> (try simp at hc)) | (refine wp_drawF (by kernel_rfl) ?_) | (refine wk_yldW _ ?_) | (refine layOwe _ (by kernel_rfl) ?_) | (refine owe ?_ (fun ho => ?_)) | (simp (disch := first | assumption | omega | (simp; done) | (simp; omega)) [C154, hb3, -getElem?_pos, List.getElem?_cons_zero, List.getElem?_cons_succ]))
          · obtain ⟨j, y, hj, rfl⟩ := mG_mem he
            have hy0 : y.2 = 0 := by rw [← getG_at hn hj]; exact hz _
            have hlt := leftG_lt he hne
            simp only at hne hlt
            have hen := fun (h : Heap) (e : h.bs = [.map (mG iK 0 D) D.length, .iter (some 0) D.length (seen ++ [j]) D.length]) => entry_G (e := iK) (h := h) (i := 1) (a := 0) (since := D.length) (seen := seen) (l := D) (j := j) (y := y) (by rw [e]; rfl) (by rw [e]; rfl) hj
            have hen2 := fun ts => hen ⟨[.map (mG iK 0 D) D.length, .iter (some 0) D.length (seen ++ [j]) D.length], ts⟩ rfl
            rw [hy0] at hen2
            repeat' (first | (refine nsf_detN hP hX (by decide +kernel) ?_) | (refine nsf_seq ?_) | (refine nsf_block ?_) | (refine wpc_split _ (fun hc => ?_) (fun hc => ?_) <;> (try simp at hc)) | (refine ww_split _ (fun hc => ?_) (fun hc => ?_) <;> (try simp at hc)) | (refine wp_drawF (by kernel_rfl) ?_) | (refine wk_yldW _ ?_) | (refine layOwe _ (by kernel_rfl) ?_) | (refine owe ?_ (fun ho => ?_)) | (simp (disch := first | assumption | omega | (simp; done) | (simp; omega)) [C154, hb3, hen2, hy0, -getElem?_pos, List.getElem?_cons_zero, List.getElem?_cons_succ]))
            exact Cih (leftG (mG iK 0 D) (seen ++ [j])) _ _ (by omega) ⟨seen ++ [j], by simp [C154, B1, B7, B9, B11, B12, B17, B101, B102, B103, A1, A7, A9, A72, A73, A74, A11, A12, Abs], (by first | rfl | simp [hb3]), rfl⟩
    · have hS : showS s right = ([], (runesG s).2) := by unfold showS; rw [if_neg he]
      repeat' (first | (refine nsf_detN hP hX (by decide +kernel) ?_) | (refine nsf_seq ?_) | (refine nsf_block ?_) | (refine wpc_split _ (fun hc => ?_) (fun hc => ?_) <;> (try simp at hc)) | (refine ww_split _ (fun hc => ?_) (fun hc => ?_) <;> (try simp at hc)) | (refine wp_drawF (by kernel_rfl) ?_) | (refine wk_yldW _ ?_) | (refine layOwe _ (by kernel_rfl) ?_) | (refine owe ?_ (fun ho => ?_)) | (simp (disch := first | assumption | omega | (simp; done) | (simp; omega)) [he, hS, -getElem?_pos, List.getElem?_cons_zero, List.getElem?_cons_succ]))
  · repeat' (first | (refine nsf_detN hP hX (by decide +kernel) ?_) | (refine nsf_seq ?_) | (refine nsf_block ?_) | (refine wpc_split _ (fun hc => ?_) (fun hc => ?_) <;> (try simp at hc)) | (refine ww_split _ (fun hc => ?_) (fun hc => ?_) <;> (try simp at hc)) | (refine wp_drawF (by kernel_rfl) ?_) | (refine wk_yldW _ ?_) | (refine layOwe _ (by kernel_rfl) ?_) | (refine owe ?_ (fun ho => ?_)) | (simp (disch := first | assumption | omega | (simp; done) | (simp; omega)) [h1, -getElem?_pos, List.getElem?_cons_zero, List.getElem?_cons_succ]))
end Go.Ab
