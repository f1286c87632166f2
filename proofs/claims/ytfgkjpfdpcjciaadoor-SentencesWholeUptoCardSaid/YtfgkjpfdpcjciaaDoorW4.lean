/- Layer 32 (sentences): the arguments' error, marks, the specification's ends. -/
import Derived.Test.YtfgkjpfdpcjciaaDoorW3
set_option linter.unusedVariables false
set_option linter.unusedSimpArgs false
set_option linter.unusedSectionVars false
set_option linter.deprecated false
namespace Go.Ab
open Go.Proofs
set_option maxRecDepth 100000
set_option maxHeartbeats 4000000
theorem all2 (a b : Bool) : Kc cfg 27 [.row false false [.bool a, .bool b] 2 none] (.ret (.bool (a && b))) := by
  cases a <;> cases b <;> exact kc_run (n := 40) (by kernel_rfl)
@[simp] theorem Sall2 (a b p q : Bool) (h : Heap) : Ci cfg (.func (.func 27) [] []) [.row p q [.bool a, .bool b] 2 none] h = some (.ret (.bool (a && b)), h) :=
  Ci_K cfg rfl rfl rfl rfl (all2 a b)
theorem C20 (w : List Wrd) (gap most : Int) (hs : smXs w) : Kc cfg 20 [R fl0 eW w, .int .i64 gap, .int .i64 most] (.ret (.int .i64 (erS w gap most))) := by
  have hs1 := hs.1
  by_cases h1 : 4096 < w.length
  · rw [erS_many h1]
    refine outS_of_wp cfg (fn := Tryd.f20) Tryd.func20 rfl (by simp [Tryd.f20]) ?_
    simp (disch := first | assumption | omega | (simp; done) | (simp; omega)) [-getElem?_pos, List.getElem?_cons_zero, List.getElem?_cons_succ, Tryd.f20, hs]
    repeat' (first | (refine wpc_split _ (fun hc => ?_) (fun hc => ?_) <;> (try simp at hc)) | (refine ww_split _ (fun hc => ?_) (fun hc => ?_) <;> (try simp at hc)) | (refine wp_drawF (by kernel_rfl) ?_) | (refine wk_yldW _ ?_) | (refine layOwe _ (by kernel_rfl) ?_) | (refine owe ?_ (fun ho => ?_)) | (simp (disch := first | assumption | omega | (simp; done) | (simp; omega)) [hs, -getElem?_pos, List.getElem?_cons_zero, List.getElem?_cons_succ]))
    all_goals first | rfl | (exfalso; omega)
  · cases h2 : okL w with
    | false =>
      have hc := ckS_bad h1 h2
      rw [erS_bad h1 h2]
      refine outS_of_wp cfg (fn := Tryd.f20) Tryd.func20 rfl (by simp [Tryd.f20]) ?_
      simp (disch := first | assumption | omega | (simp; done) | (simp; omega)) [-getElem?_pos, List.getElem?_cons_zero, List.getElem?_cons_succ, Tryd.f20, hs, hc, emptyH]
      repeat' (first | (refine wpc_split _ (fun hc => ?_) (fun hc => ?_) <;> (try simp at hc)) | (refine ww_split _ (fun hc => ?_) (fun hc => ?_) <;> (try simp at hc)) | (refine wp_drawF (by kernel_rfl) ?_) | (refine wk_yldW _ ?_) | (refine layOwe _ (by kernel_rfl) ?_) | (refine owe ?_ (fun ho => ?_)) | (simp (disch := first | assumption | omega | (simp; done) | (simp; omega)) [hs, hc, emptyH, -getElem?_pos, List.getElem?_cons_zero, List.getElem?_cons_succ]))
      all_goals first | rfl | (exfalso; omega)
    | true =>
      have hc := ckS_ok h1 h2
      rw [erS_ok h1 h2]
      by_cases g : 1 ≤ gap ∧ gap ≤ 1073741824 ∧ 1 ≤ most ∧ most ≤ 16
      · rw [if_pos g]
        obtain ⟨g1, g2, g3, g4⟩ := g
        refine outS_of_wp cfg (fn := Tryd.f20) Tryd.func20 rfl (by simp [Tryd.f20]) ?_
        simp (disch := first | assumption | omega | (simp; done) | (simp; omega)) [-getElem?_pos, List.getElem?_cons_zero, List.getElem?_cons_succ, Tryd.f20, hs, hc, emptyH, g1, g2, g3, g4]
        repeat' (first | (refine wpc_split _ (fun hc => ?_) (fun hc => ?_) <;> (try simp at hc)) | (refine ww_split _ (fun hc => ?_) (fun hc => ?_) <;> (try simp at hc)) | (refine wp_drawF (by kernel_rfl) ?_) | (refine wk_yldW _ ?_) | (refine layOwe _ (by kernel_rfl) ?_) | (refine owe ?_ (fun ho => ?_)) | (simp (disch := first | assumption | omega | (simp; done) | (simp; omega)) [hs, hc, emptyH, g1, g2, g3, g4, -getElem?_pos, List.getElem?_cons_zero, List.getElem?_cons_succ]))
        all_goals first | rfl | (exfalso; omega)
      · rw [if_neg g]
        have hb : ((decide (1 ≤ gap) && decide (gap ≤ 1073741824)) && (decide (1 ≤ most) && decide (most ≤ 16))) = false := by
          rw [Bool.eq_false_iff]; intro e
          simp only [Bool.and_eq_true, decide_eq_true_eq] at e
          exact g ⟨e.1.1, e.1.2, e.2.1, e.2.2⟩
        generalize hA : (decide (1 ≤ gap) && decide (gap ≤ 1073741824)) = A at *
        generalize hB : (decide (1 ≤ most) && decide (most ≤ 16)) = B at *
        refine outS_of_wp cfg (fn := Tryd.f20) Tryd.func20 rfl (by simp [Tryd.f20]) ?_
        simp (disch := first | assumption | omega | (simp; done) | (simp; omega)) [-getElem?_pos, List.getElem?_cons_zero, List.getElem?_cons_succ, Tryd.f20, hs, hc, emptyH, hA, hB]
        repeat' (first | (refine wpc_split _ (fun hc => ?_) (fun hc => ?_) <;> (try simp at hc)) | (refine ww_split _ (fun hc => ?_) (fun hc => ?_) <;> (try simp at hc)) | (refine wp_drawF (by kernel_rfl) ?_) | (refine wk_yldW _ ?_) | (refine layOwe _ (by kernel_rfl) ?_) | (refine owe ?_ (fun ho => ?_)) | (simp (disch := first | assumption | omega | (simp; done) | (simp; omega)) [hs, hc, emptyH, hA, hB, -getElem?_pos, List.getElem?_cons_zero, List.getElem?_cons_succ]))
        all_goals first | rfl | (exfalso; omega) | (exfalso; cases A <;> cases B <;> simp_all)
@[simp] theorem S20 (w : List Wrd) (gap most : Int) (hs : smXs w) (q1 : Fl) (hh : Heap) : Ci cfg (.func (.func 20) [] []) [R  q1 eW w, .int .i64 gap, .int .i64 most] hh = some (.ret (.int .i64 (erS w gap most)), hh) :=
  Ci_K cfg rfl rfl (by simp) (by simp) (C20 w gap most hs)
theorem markB_nat (b : UInt8) : markB b = (decide (b.toNat = 46) || decide (b.toNat = 63) || decide (b.toNat = 33)) := by
  have key : (List.range 256).all (fun n => markB (UInt8.ofNat n) == (decide (n = 46) || decide (n = 63) || decide (n = 33))) = true := by kernel_rfl
  rw [List.all_eq_true] at key
  have h1 := key b.toNat (List.mem_range.2 b.toNat_lt)
  have h2 : UInt8.ofNat b.toNat = b := by simp
  rw [h2] at h1
  exact eq_of_beq h1
theorem C38 (s : List UInt8) (hs : s.length < 1099511627776) (h0 : 0 < s.length) : Kc cfg 38 [.str s] (.ret (.bool (markT s))) := by
  have hm := markB_nat (nth s (s.length - 1))
  have hd : markT s = markB (nth s (s.length - 1)) := rfl
  obtain ⟨k, hk⟩ : ∃ k, s.length = k + 1 := ⟨s.length - 1, by omega⟩
  have hk2 : s.length - 1 = k := by omega
  rw [hd, hm, hk2]
  have hi : k < s.length := by omega
  generalize hb : (nth s k) = b at *
  have hlt := b.toNat_lt
  by_cases g1 : b.toNat = 46
  · rw [decide_eq_true g1]
    refine outS_of_wp cfg (fn := Tryd.f38) Tryd.func38 rfl (by simp [Tryd.f38]) ?_
    simp (disch := first | assumption | omega | (simp; done) | (simp; omega)) [-getElem?_pos, List.getElem?_cons_zero, List.getElem?_cons_succ, Tryd.f38, hk, hb, hi, g1]
    repeat' (first | (refine wpc_split _ (fun hc => ?_) (fun hc => ?_) <;> (try simp at hc)) | (refine ww_split _ (fun hc => ?_) (fun hc => ?_) <;> (try simp at hc)) | (refine wp_drawF (by kernel_rfl) ?_) | (refine wk_yldW _ ?_) | (refine layOwe _ (by kernel_rfl) ?_) | (refine owe ?_ (fun ho => ?_)) | (simp (disch := first | assumption | omega | (simp; done) | (simp; omega)) [hk, hb, hi, g1, -getElem?_pos, List.getElem?_cons_zero, List.getElem?_cons_succ]))
    all_goals first | rfl | (exfalso; omega) | omega | (simp; done)
  · by_cases g2 : b.toNat = 63
    · rw [decide_eq_true g2]
      refine outS_of_wp cfg (fn := Tryd.f38) Tryd.func38 rfl (by simp [Tryd.f38]) ?_
      simp (disch := first | assumption | omega | (simp; done) | (simp; omega)) [-getElem?_pos, List.getElem?_cons_zero, List.getElem?_cons_succ, Tryd.f38, hk, hb, hi, g1, g2]
      repeat' (first | (refine wpc_split _ (fun hc => ?_) (fun hc => ?_) <;> (try simp at hc)) | (refine ww_split _ (fun hc => ?_) (fun hc => ?_) <;> (try simp at hc)) | (refine wp_drawF (by kernel_rfl) ?_) | (refine wk_yldW _ ?_) | (refine layOwe _ (by kernel_rfl) ?_) | (refine owe ?_ (fun ho => ?_)) | (simp (disch := first | assumption | omega | (simp; done) | (simp; omega)) [hk, hb, hi, g1, g2, -getElem?_pos, List.getElem?_cons_zero, List.getElem?_cons_succ]))
      all_goals first | rfl | (exfalso; omega) | omega | (simp; done)
    · by_cases g3 : b.toNat = 33
      · rw [decide_eq_true g3]
        refine outS_of_wp cfg (fn := Tryd.f38) Tryd.func38 rfl (by simp [Tryd.f38]) ?_
        simp (disch := first | assumption | omega | (simp; done) | (simp; omega)) [-getElem?_pos, List.getElem?_cons_zero, List.getElem?_cons_succ, Tryd.f38, hk, hb, hi, g1, g2, g3]
        repeat' (first | (refine wpc_split _ (fun hc => ?_) (fun hc => ?_) <;> (try simp at hc)) | (refine ww_split _ (fun hc => ?_) (fun hc => ?_) <;> (try simp at hc)) | (refine wp_drawF (by kernel_rfl) ?_) | (refine wk_yldW _ ?_) | (refine layOwe _ (by kernel_rfl) ?_) | (refine owe ?_ (fun ho => ?_)) | (simp (disch := first | assumption | omega | (simp; done) | (simp; omega)) [hk, hb, hi, g1, g2, g3, -getElem?_pos, List.getElem?_cons_zero, List.getElem?_cons_succ]))
        all_goals first | rfl | (exfalso; omega) | omega | (simp; done)
      · rw [decide_eq_false g1, decide_eq_false g2, decide_eq_false g3]
        refine outS_of_wp cfg (fn := Tryd.f38) Tryd.func38 rfl (by simp [Tryd.f38]) ?_
        simp (disch := first | assumption | omega | (simp; done) | (simp; omega)) [-getElem?_pos, List.getElem?_cons_zero, List.getElem?_cons_succ, Tryd.f38, hk, hb, hi, g1, g2, g3]
        repeat' (first | (refine wpc_split _ (fun hc => ?_) (fun hc => ?_) <;> (try simp at hc)) | (refine ww_split _ (fun hc => ?_) (fun hc => ?_) <;> (try simp at hc)) | (refine wp_drawF (by kernel_rfl) ?_) | (refine wk_yldW _ ?_) | (refine layOwe _ (by kernel_rfl) ?_) | (refine owe ?_ (fun ho => ?_)) | (simp (disch := first | assumption | omega | (simp; done) | (simp; omega)) [hk, hb, hi, g1, g2, g3, -getElem?_pos, List.getElem?_cons_zero, List.getElem?_cons_succ]))
        all_goals first | rfl | (exfalso; omega) | omega | (simp; done)
@[simp] theorem S38 (s : List UInt8) (hs : s.length < 1099511627776) (h0 : 0 < s.length) (hh : Heap) : Ci cfg (.func (.func 38) [] []) [.str s] hh = some (.ret (.bool (markT s)), hh) :=
  Ci_K cfg rfl rfl (by simp) (by simp) (C38 s hs h0)
theorem C23 (t : List UInt8) (f u s : Int) (al : List (List UInt8)) (n most : Int) (hs : t.length < 1099511627776) (h0 : 0 < t.length) : Kc cfg 23 [.agg [.str t, .int .i64 f, .int .i64 u, .int .i64 s, R fl0 eS al], .int .i64 n, .int .i64 most] (.ret (.bool (ownW ⟨t, f, u, s, al⟩ n most))) := by
  have hd : ownW ⟨t, f, u, s, al⟩ n most = (markT t || decide (n = most)) := rfl
  rw [hd]
  cases g : markT t with
  | true =>
    refine outS_of_wp cfg (fn := Tryd.f23) Tryd.func23 rfl (by simp [Tryd.f23]) ?_
    simp (disch := first | assumption | omega | (simp; done) | (simp; omega)) [-getElem?_pos, List.getElem?_cons_zero, List.getElem?_cons_succ, Tryd.f23, emptyH, g]
    repeat' (first | (refine wpc_split _ (fun hc => ?_) (fun hc => ?_) <;> (try simp at hc)) | (refine ww_split _ (fun hc => ?_) (fun hc => ?_) <;> (try simp at hc)) | (refine wp_drawF (by kernel_rfl) ?_) | (refine wk_yldW _ ?_) | (refine layOwe _ (by kernel_rfl) ?_) | (refine owe ?_ (fun ho => ?_)) | (simp (disch := first | assumption | omega | (simp; done) | (simp; omega)) [emptyH, g, -getElem?_pos, List.getElem?_cons_zero, List.getElem?_cons_succ]))
    all_goals first | rfl | (exfalso; omega)
  | false =>
    by_cases e : n = most
    · rw [decide_eq_true e]
      refine outS_of_wp cfg (fn := Tryd.f23) Tryd.func23 rfl (by simp [Tryd.f23]) ?_
      simp (disch := first | assumption | omega | (simp; done) | (simp; omega)) [-getElem?_pos, List.getElem?_cons_zero, List.getElem?_cons_succ, Tryd.f23, emptyH, g, e]
      repeat' (first | (refine wpc_split _ (fun hc => ?_) (fun hc => ?_) <;> (try simp at hc)) | (refine ww_split _ (fun hc => ?_) (fun hc => ?_) <;> (try simp at hc)) | (refine wp_drawF (by kernel_rfl) ?_) | (refine wk_yldW _ ?_) | (refine layOwe _ (by kernel_rfl) ?_) | (refine owe ?_ (fun ho => ?_)) | (simp (disch := first | assumption | omega | (simp; done) | (simp; omega)) [emptyH, g, e, -getElem?_pos, List.getElem?_cons_zero, List.getElem?_cons_succ]))
      all_goals first | rfl | (exfalso; omega)
    · rw [decide_eq_false e]
      refine outS_of_wp cfg (fn := Tryd.f23) Tryd.func23 rfl (by simp [Tryd.f23]) ?_
      simp (disch := first | assumption | omega | (simp; done) | (simp; omega)) [-getElem?_pos, List.getElem?_cons_zero, List.getElem?_cons_succ, Tryd.f23, emptyH, g, e]
      repeat' (first | (refine wpc_split _ (fun hc => ?_) (fun hc => ?_) <;> (try simp at hc)) | (refine ww_split _ (fun hc => ?_) (fun hc => ?_) <;> (try simp at hc)) | (refine wp_drawF (by kernel_rfl) ?_) | (refine wk_yldW _ ?_) | (refine layOwe _ (by kernel_rfl) ?_) | (refine owe ?_ (fun ho => ?_)) | (simp (disch := first | assumption | omega | (simp; done) | (simp; omega)) [emptyH, g, e, -getElem?_pos, List.getElem?_cons_zero, List.getElem?_cons_succ]))
      all_goals first | rfl | (exfalso; omega)
@[simp] theorem S23 (t : List UInt8) (f u s : Int) (al : List (List UInt8)) (n most : Int) (hs : t.length < 1099511627776) (h0 : 0 < t.length) (q1 : Fl) (hh : Heap) : Ci cfg (.func (.func 23) [] []) [.agg [.str t, .int .i64 f, .int .i64 u, .int .i64 s, R  q1 eS al], .int .i64 n, .int .i64 most] hh = some (.ret (.bool (ownW ⟨t, f, u, s, al⟩ n most)), hh) :=
  Ci_K cfg rfl rfl (by simp) (by simp) (C23 t f u s al n most hs h0)
theorem C24 (t : List UInt8) (f u s : Int) (al : List (List UInt8)) (t2 : List UInt8) (f2 u2 s2 : Int) (al2 : List (List UInt8)) (gap : Int) (hu : 0 ≤ u ∧ u < 1099511627776) (hg : 0 ≤ gap ∧ gap < 1099511627776) : Kc cfg 24 [.agg [.str t, .int .i64 f, .int .i64 u, .int .i64 s, R fl0 eS al], .agg [.str t2, .int .i64 f2, .int .i64 u2, .int .i64 s2, R fl0 eS al2], .int .i64 gap] (.ret (.bool (apartW ⟨t, f, u, s, al⟩ ⟨t2, f2, u2, s2, al2⟩ gap))) := by
  have hd : apartW ⟨t, f, u, s, al⟩ ⟨t2, f2, u2, s2, al2⟩ gap = (decide (u + gap ≤ f2) || decide (s ≠ s2)) := rfl
  rw [hd]
  by_cases g : u + gap ≤ f2
  · rw [decide_eq_true g]
    refine outS_of_wp cfg (fn := Tryd.f24) Tryd.func24 rfl (by simp [Tryd.f24]) ?_
    simp (disch := first | assumption | omega | (simp; done) | (simp; omega)) [-getElem?_pos, List.getElem?_cons_zero, List.getElem?_cons_succ, Tryd.f24, emptyH, g]
    repeat' (first | (refine wpc_split _ (fun hc => ?_) (fun hc => ?_) <;> (try simp at hc)) | (refine ww_split _ (fun hc => ?_) (fun hc => ?_) <;> (try simp at hc)) | (refine wp_drawF (by kernel_rfl) ?_) | (refine wk_yldW _ ?_) | (refine layOwe _ (by kernel_rfl) ?_) | (refine owe ?_ (fun ho => ?_)) | (simp (disch := first | assumption | omega | (simp; done) | (simp; omega)) [emptyH, g, -getElem?_pos, List.getElem?_cons_zero, List.getElem?_cons_succ]))
    all_goals first | rfl | (exfalso; omega)
  · rw [decide_eq_false g]
    by_cases e : s = s2
    · rw [show decide (s ≠ s2) = false from decide_eq_false (fun h => h e)]
      refine outS_of_wp cfg (fn := Tryd.f24) Tryd.func24 rfl (by simp [Tryd.f24]) ?_
      simp (disch := first | assumption | omega | (simp; done) | (simp; omega)) [-getElem?_pos, List.getElem?_cons_zero, List.getElem?_cons_succ, Tryd.f24, emptyH, g, e]
      repeat' (first | (refine wpc_split _ (fun hc => ?_) (fun hc => ?_) <;> (try simp at hc)) | (refine ww_split _ (fun hc => ?_) (fun hc => ?_) <;> (try simp at hc)) | (refine wp_drawF (by kernel_rfl) ?_) | (refine wk_yldW _ ?_) | (refine layOwe _ (by kernel_rfl) ?_) | (refine owe ?_ (fun ho => ?_)) | (simp (disch := first | assumption | omega | (simp; done) | (simp; omega)) [emptyH, g, e, -getElem?_pos, List.getElem?_cons_zero, List.getElem?_cons_succ]))
      all_goals first | rfl | (exfalso; omega)
    · rw [show decide (s ≠ s2) = true from decide_eq_true (p := s ≠ s2) e]
      refine outS_of_wp cfg (fn := Tryd.f24) Tryd.func24 rfl (by simp [Tryd.f24]) ?_
      simp (disch := first | assumption | omega | (simp; done) | (simp; omega)) [-getElem?_pos, List.getElem?_cons_zero, List.getElem?_cons_succ, Tryd.f24, emptyH, g, e]
      repeat' (first | (refine wpc_split _ (fun hc => ?_) (fun hc => ?_) <;> (try simp at hc)) | (refine ww_split _ (fun hc => ?_) (fun hc => ?_) <;> (try simp at hc)) | (refine wp_drawF (by kernel_rfl) ?_) | (refine wk_yldW _ ?_) | (refine layOwe _ (by kernel_rfl) ?_) | (refine owe ?_ (fun ho => ?_)) | (simp (disch := first | assumption | omega | (simp; done) | (simp; omega)) [emptyH, g, e, -getElem?_pos, List.getElem?_cons_zero, List.getElem?_cons_succ]))
      all_goals first | rfl | (exfalso; omega)
@[simp] theorem S24 (t : List UInt8) (f u s : Int) (al : List (List UInt8)) (t2 : List UInt8) (f2 u2 s2 : Int) (al2 : List (List UInt8)) (gap : Int) (hu : 0 ≤ u ∧ u < 1099511627776) (hg : 0 ≤ gap ∧ gap < 1099511627776) (q1 q2 : Fl) (hh : Heap) : Ci cfg (.func (.func 24) [] []) [.agg [.str t, .int .i64 f, .int .i64 u, .int .i64 s, R  q1 eS al], .agg [.str t2, .int .i64 f2, .int .i64 u2, .int .i64 s2, R  q2 eS al2], .int .i64 gap] hh = some (.ret (.bool (apartW ⟨t, f, u, s, al⟩ ⟨t2, f2, u2, s2, al2⟩ gap)), hh) :=
  Ci_K cfg rfl rfl (by simp) (by simp) (C24 t f u s al t2 f2 u2 s2 al2 gap hu hg)
end Go.Ab
