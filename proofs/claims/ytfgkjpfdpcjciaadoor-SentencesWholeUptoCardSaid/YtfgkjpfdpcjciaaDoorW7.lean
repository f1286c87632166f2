/- Layer 32 (sentences): why a sentence ends. -/
import Derived.Test.YtfgkjpfdpcjciaaDoorW6
set_option linter.unusedVariables false
set_option linter.unusedSimpArgs false
set_option linter.unusedSectionVars false
set_option linter.deprecated false
namespace Go.Ab
open Go.Proofs
set_option maxRecDepth 100000
set_option maxHeartbeats 4000000
@[simp] theorem Sca (b : UInt8) (h : Heap) : Ci cfg (.func (.func 30) [] []) [.str [b], .str [46, 63, 33]] h = some (.ret (.bool (markB b)), h) := by
  rw [Ci_eq]
  simp only [callS]
  rw [if_pos (show cfg.pure 30 = true from rfl)]
  have h1 : handV h ([] ++ [V.str [b], V.str [46, 63, 33]] ++ []) = some ([V.str [b], V.str [46, 63, 33]], h) := rfl
  rw [h1]
  rfl
section
variable {h : Heap} {aw ag am : Nat} {w : List Wrd} {gap most : Int} {q : Fl}
theorem K28 (hm : h.bs[am]? = some (.cells [.int .i64 most])) (i n : Int) : Ci cfg (.func (.func 28) [] [.ptr am 0]) [.int .i64 i, .int .i64 n] h = some (.ret (.bool (decide (n = most))), h) := by
  refine Ci_of_wp (fn := Tryd.f28) Tryd.func28 rfl (by simp [Tryd.f28]) rfl ?_
  simp (disch := first | assumption | omega | (simp; done) | (simp; omega)) [-getElem?_pos, List.getElem?_cons_zero, List.getElem?_cons_succ, Tryd.f28, hm]
  repeat' (first | (refine wpc_split _ (fun hc => ?_) (fun hc => ?_) <;> (try simp at hc)) | (refine ww_split _ (fun hc => ?_) (fun hc => ?_) <;> (try simp at hc)) | (refine wp_drawF (by kernel_rfl) ?_) | (refine wk_yldW _ ?_) | (refine layOwe _ (by kernel_rfl) ?_) | (refine owe ?_ (fun ho => ?_)) | (simp (disch := first | assumption | omega | (simp; done) | (simp; omega)) [hm, -getElem?_pos, List.getElem?_cons_zero, List.getElem?_cons_succ]))
  by_cases e : n = most <;> simp [e]
theorem K29 (hw : h.bs[aw]? = some (.cells [R q eW w])) {i : Nat} (hi : i < w.length) (n : Int) (h0 : 0 < (nth w i).text.length) (hl : (nth w i).text.length < 1099511627776) : Ci cfg (.func (.func 29) [] [.ptr aw 0]) [.int .i64 i, .int .i64 n] h = some (.ret (.bool (markT (nth w i).text)), h) := by
  obtain ⟨k, hk⟩ : ∃ k, (nth w i).text.length = k + 1 := ⟨(nth w i).text.length - 1, by omega⟩
  have hki : k < (nth w i).text.length := by omega
  have hd : (nth w i).text.drop k = [nth (nth w i).text k] := by
    rw [nth_drop hki, List.drop_eq_nil_of_le (by omega)]
  have hmt : markT (nth w i).text = markB (nth (nth w i).text k) := by unfold markT; rw [hk]; rfl
  rw [hmt]
  refine Ci_of_wp (fn := Tryd.f29) Tryd.func29 rfl (by simp [Tryd.f29]) rfl ?_
  simp (disch := first | assumption | omega | (simp; done) | (simp; omega)) [-getElem?_pos, List.getElem?_cons_zero, List.getElem?_cons_succ, Tryd.f29, hw]
  repeat' (first | (refine wpc_split _ (fun hc => ?_) (fun hc => ?_) <;> (try simp at hc)) | (refine ww_split _ (fun hc => ?_) (fun hc => ?_) <;> (try simp at hc)) | (refine wp_drawF (by kernel_rfl) ?_) | (refine wk_yldW _ ?_) | (refine layOwe _ (by kernel_rfl) ?_) | (refine owe ?_ (fun ho => ?_)) | (simp (disch := first | assumption | omega | (simp; done) | (simp; omega)) [hw, hi, hk, hd, -getElem?_pos, List.getElem?_cons_zero, List.getElem?_cons_succ]))
theorem K31 (hw : h.bs[aw]? = some (.cells [R q eW w])) {i : Nat} (hi : i < w.length) (hl : w.length < 1099511627776) (n : Int) : Ci cfg (.func (.func 31) [] [.ptr aw 0]) [.int .i64 i, .int .i64 n] h = some (.ret (.bool (decide (i + 1 = w.length))), h) := by
  refine Ci_of_wp (fn := Tryd.f31) Tryd.func31 rfl (by simp [Tryd.f31]) rfl ?_
  simp (disch := first | assumption | omega | (simp; done) | (simp; omega)) [-getElem?_pos, List.getElem?_cons_zero, List.getElem?_cons_succ, Tryd.f31, hw]
  repeat' (first | (refine wpc_split _ (fun hc => ?_) (fun hc => ?_) <;> (try simp at hc)) | (refine ww_split _ (fun hc => ?_) (fun hc => ?_) <;> (try simp at hc)) | (refine wp_drawF (by kernel_rfl) ?_) | (refine wk_yldW _ ?_) | (refine layOwe _ (by kernel_rfl) ?_) | (refine owe ?_ (fun ho => ?_)) | (simp (disch := first | assumption | omega | (simp; done) | (simp; omega)) [hw, hi, -getElem?_pos, List.getElem?_cons_zero, List.getElem?_cons_succ]))
  by_cases e : i + 1 = w.length
  · have e2 : (i : Int) + 1 = w.length := by omega
    rw [e2, decide_eq_true e]; simp
  · have e2 : ¬ (i : Int) + 1 = w.length := by omega
    rw [decide_eq_false e]; simpa using e2
theorem K32 (hw : h.bs[aw]? = some (.cells [R q eW w])) (hg : h.bs[ag]? = some (.cells [.int .i64 gap])) {i : Nat} (hi : i + 1 < w.length) (hl : w.length < 1099511627776) (n : Int) (hb : 0 ≤ (nth w i).til ∧ (nth w i).til < 1099511627776) (hb2 : 0 ≤ gap ∧ gap < 1099511627776) : Ci cfg (.func (.func 32) [] [.ptr aw 0, .ptr ag 0]) [.int .i64 i, .int .i64 n] h = some (.ret (.bool (decide ((nth w i).til + gap ≤ (nth w (i + 1)).frm))), h) := by
  have hi1 : i < w.length := by omega
  refine Ci_of_wp (fn := Tryd.f32) Tryd.func32 rfl (by simp [Tryd.f32]) rfl ?_
  simp (disch := first | assumption | omega | (simp; done) | (simp; omega)) [-getElem?_pos, List.getElem?_cons_zero, List.getElem?_cons_succ, Tryd.f32, hw, hg]
  repeat' (first | (refine wpc_split _ (fun hc => ?_) (fun hc => ?_) <;> (try simp at hc)) | (refine ww_split _ (fun hc => ?_) (fun hc => ?_) <;> (try simp at hc)) | (refine wp_drawF (by kernel_rfl) ?_) | (refine wk_yldW _ ?_) | (refine layOwe _ (by kernel_rfl) ?_) | (refine owe ?_ (fun ho => ?_)) | (simp (disch := first | assumption | omega | (simp; done) | (simp; omega)) [hw, hg, hi, hi1, -getElem?_pos, List.getElem?_cons_zero, List.getElem?_cons_succ]))
theorem K33 (hw : h.bs[aw]? = some (.cells [R q eW w])) {i : Nat} (hi : i + 1 < w.length) (hl : w.length < 1099511627776) (n : Int) : Ci cfg (.func (.func 33) [] [.ptr aw 0]) [.int .i64 i, .int .i64 n] h = some (.ret (.bool (decide ((nth w i).sp ≠ (nth w (i + 1)).sp))), h) := by
  have hi1 : i < w.length := by omega
  by_cases e : (nth w i).sp = (nth w (i + 1)).sp
  · have e2 : decide ((nth w i).sp ≠ (nth w (i + 1)).sp) = false := decide_eq_false (fun x => x e)
    rw [e2]
    refine Ci_of_wp (fn := Tryd.f33) Tryd.func33 rfl (by simp [Tryd.f33]) rfl ?_
    simp (disch := first | assumption | omega | (simp; done) | (simp; omega)) [-getElem?_pos, List.getElem?_cons_zero, List.getElem?_cons_succ, Tryd.f33, hw, e]
    repeat' (first | (refine wpc_split _ (fun hc => ?_) (fun hc => ?_) <;> (try simp at hc)) | (refine ww_split _ (fun hc => ?_) (fun hc => ?_) <;> (try simp at hc)) | (refine wp_drawF (by kernel_rfl) ?_) | (refine wk_yldW _ ?_) | (refine layOwe _ (by kernel_rfl) ?_) | (refine owe ?_ (fun ho => ?_)) | (simp (disch := first | assumption | omega | (simp; done) | (simp; omega)) [hw, hi, hi1, e, -getElem?_pos, List.getElem?_cons_zero, List.getElem?_cons_succ]))
  · have e2 : decide ((nth w i).sp ≠ (nth w (i + 1)).sp) = true := decide_eq_true (p := (nth w i).sp ≠ (nth w (i + 1)).sp) e
    have e3 : ¬ (nth w (i + 1)).sp = (nth w i).sp := fun x => e x.symm
    rw [e2]
    refine Ci_of_wp (fn := Tryd.f33) Tryd.func33 rfl (by simp [Tryd.f33]) rfl ?_
    simp (disch := first | assumption | omega | (simp; done) | (simp; omega)) [-getElem?_pos, List.getElem?_cons_zero, List.getElem?_cons_succ, Tryd.f33, hw, e, e3]
    repeat' (first | (refine wpc_split _ (fun hc => ?_) (fun hc => ?_) <;> (try simp at hc)) | (refine ww_split _ (fun hc => ?_) (fun hc => ?_) <;> (try simp at hc)) | (refine wp_drawF (by kernel_rfl) ?_) | (refine wk_yldW _ ?_) | (refine layOwe _ (by kernel_rfl) ?_) | (refine owe ?_ (fun ho => ?_)) | (simp (disch := first | assumption | omega | (simp; done) | (simp; omega)) [hw, hi, hi1, e, e3, -getElem?_pos, List.getElem?_cons_zero, List.getElem?_cons_succ]))
def byF (w : List Wrd) (gap most : Int) (i : Nat) (n : Int) : Int := if n = most then 0 else if markT (nth w i).text = true then 1 else if i + 1 = w.length then 2 else if (nth w i).til + gap ≤ (nth w (i + 1)).frm then 3 else if (nth w i).sp ≠ (nth w (i + 1)).sp then 4 else -1
theorem K35 {ai an i : Nat} {n : Int} (hw : h.bs[aw]? = some (.cells [R q eW w])) (hg : h.bs[ag]? = some (.cells [.int .i64 gap])) (hm : h.bs[am]? = some (.cells [.int .i64 most])) (hi : h.bs[ai]? = some (.cells [.int .i64 i])) (hn : h.bs[an]? = some (.cells [.int .i64 n]))
    (hil : i < w.length) (hl : w.length < 1099511627776) (h0 : 0 < (nth w i).text.length) (hlt : (nth w i).text.length < 1099511627776) (hb : 0 ≤ (nth w i).til ∧ (nth w i).til < 1099511627776) (hb2 : 0 ≤ gap ∧ gap < 1099511627776) :
    Ci cfg (.func (.func 35) [] []) [.row false true [.func (.func 28) [] [.ptr am 0], .func (.func 29) [] [.ptr aw 0], .func (.func 31) [] [.ptr aw 0], .func (.func 32) [] [.ptr aw 0, .ptr ag 0], .func (.func 33) [] [.ptr aw 0]] 5 none, .func (.func 36) [] [.ptr ai 0, .ptr an 0]] h = some (.ret (.int .i64 (byF w gap most i n)), h) := by
  have c28 := K28 hm i n
  have c29 := K29 hw hil n h0 hlt
  have c31 := K31 hw hil hl n
  refine Ci_of_wp (fn := Tryd.f35) Tryd.func35 rfl (by simp [Tryd.f35]) rfl ?_
  by_cases e0 : n = most
  · have hr : byF w gap most i n = 0 := if_pos e0
    rw [decide_eq_true e0] at c28
    rw [hr]
    simp (disch := first | assumption | omega | (simp; done) | (simp; omega)) [-getElem?_pos, List.getElem?_cons_zero, List.getElem?_cons_succ, Tryd.f35]
    repeat' (first | (refine wp_unroll rfl ?_) | (refine wpc_split _ (fun hc => ?_) (fun hc => ?_) <;> (try simp at hc)) | (refine ww_split _ (fun hc => ?_) (fun hc => ?_) <;> (try simp at hc)) | (refine wp_drawF (by kernel_rfl) ?_) | (refine wk_yldW _ ?_) | (refine layOwe _ (by kernel_rfl) ?_) | (refine owe ?_ (fun ho => ?_)) | (simp (disch := first | assumption | omega | (simp; done) | (simp; omega)) [hi, hn, c28, Tryd.f36, -getElem?_pos, List.getElem?_cons_zero, List.getElem?_cons_succ]))
  · rw [decide_eq_false e0] at c28
    cases e1 : markT (nth w i).text with
    | true =>
      have hr : byF w gap most i n = 1 := by unfold byF; rw [if_neg e0, if_pos e1]
      rw [e1] at c29
      rw [hr]
      simp (disch := first | assumption | omega | (simp; done) | (simp; omega)) [-getElem?_pos, List.getElem?_cons_zero, List.getElem?_cons_succ, Tryd.f35]
      repeat' (first | (refine wp_unroll rfl ?_) | (refine wpc_split _ (fun hc => ?_) (fun hc => ?_) <;> (try simp at hc)) | (refine ww_split _ (fun hc => ?_) (fun hc => ?_) <;> (try simp at hc)) | (refine wp_drawF (by kernel_rfl) ?_) | (refine wk_yldW _ ?_) | (refine layOwe _ (by kernel_rfl) ?_) | (refine owe ?_ (fun ho => ?_)) | (simp (disch := first | assumption | omega | (simp; done) | (simp; omega)) [hi, hn, c28, c29, Tryd.f36, -getElem?_pos, List.getElem?_cons_zero, List.getElem?_cons_succ]))
    | false =>
      rw [e1] at c29
      by_cases e2 : i + 1 = w.length
      · have hr : byF w gap most i n = 2 := by unfold byF; rw [if_neg e0, if_neg (by rw [e1]; simp), if_pos e2]
        rw [decide_eq_true e2] at c31
        rw [hr]
        simp (disch := first | assumption | omega | (simp; done) | (simp; omega)) [-getElem?_pos, List.getElem?_cons_zero, List.getElem?_cons_succ, Tryd.f35]
        repeat' (first | (refine wp_unroll rfl ?_) | (refine wpc_split _ (fun hc => ?_) (fun hc => ?_) <;> (try simp at hc)) | (refine ww_split _ (fun hc => ?_) (fun hc => ?_) <;> (try simp at hc)) | (refine wp_drawF (by kernel_rfl) ?_) | (refine wk_yldW _ ?_) | (refine layOwe _ (by kernel_rfl) ?_) | (refine owe ?_ (fun ho => ?_)) | (simp (disch := first | assumption | omega | (simp; done) | (simp; omega)) [hi, hn, c28, c29, c31, Tryd.f36, -getElem?_pos, List.getElem?_cons_zero, List.getElem?_cons_succ]))
      · rw [decide_eq_false e2] at c31
        have hil2 : i + 1 < w.length := by omega
        have c32 := K32 hw hg hil2 hl n hb hb2
        have c33 := K33 hw hil2 hl n
        by_cases e3 : (nth w i).til + gap ≤ (nth w (i + 1)).frm
        · have hr : byF w gap most i n = 3 := by unfold byF; rw [if_neg e0, if_neg (by rw [e1]; simp), if_neg e2, if_pos e3]
          rw [decide_eq_true e3] at c32
          rw [hr]
          simp (disch := first | assumption | omega | (simp; done) | (simp; omega)) [-getElem?_pos, List.getElem?_cons_zero, List.getElem?_cons_succ, Tryd.f35]
          repeat' (first | (refine wp_unroll rfl ?_) | (refine wpc_split _ (fun hc => ?_) (fun hc => ?_) <;> (try simp at hc)) | (refine ww_split _ (fun hc => ?_) (fun hc => ?_) <;> (try simp at hc)) | (refine wp_drawF (by kernel_rfl) ?_) | (refine wk_yldW _ ?_) | (refine layOwe _ (by kernel_rfl) ?_) | (refine owe ?_ (fun ho => ?_)) | (simp (disch := first | assumption | omega | (simp; done) | (simp; omega)) [hi, hn, c28, c29, c31, c32, Tryd.f36, -getElem?_pos, List.getElem?_cons_zero, List.getElem?_cons_succ]))
        · rw [decide_eq_false e3] at c32
          by_cases e4 : (nth w i).sp ≠ (nth w (i + 1)).sp
          · have hr : byF w gap most i n = 4 := by unfold byF; rw [if_neg e0, if_neg (by rw [e1]; simp), if_neg e2, if_neg e3, if_pos e4]
            rw [decide_eq_true e4] at c33
            rw [hr]
            simp (disch := first | assumption | omega | (simp; done) | (simp; omega)) [-getElem?_pos, List.getElem?_cons_zero, List.getElem?_cons_succ, Tryd.f35]
            repeat' (first | (refine wp_unroll rfl ?_) | (refine wpc_split _ (fun hc => ?_) (fun hc => ?_) <;> (try simp at hc)) | (refine ww_split _ (fun hc => ?_) (fun hc => ?_) <;> (try simp at hc)) | (refine wp_drawF (by kernel_rfl) ?_) | (refine wk_yldW _ ?_) | (refine layOwe _ (by kernel_rfl) ?_) | (refine owe ?_ (fun ho => ?_)) | (simp (disch := first | assumption | omega | (simp; done) | (simp; omega)) [hi, hn, c28, c29, c31, c32, c33, Tryd.f36, -getElem?_pos, List.getElem?_cons_zero, List.getElem?_cons_succ]))
          · have hr : byF w gap most i n = -1 := by unfold byF; rw [if_neg e0, if_neg (by rw [e1]; simp), if_neg e2, if_neg e3, if_neg e4]
            rw [decide_eq_false e4] at c33
            rw [hr]
            simp (disch := first | assumption | omega | (simp; done) | (simp; omega)) [-getElem?_pos, List.getElem?_cons_zero, List.getElem?_cons_succ, Tryd.f35]
            repeat' (first | (refine wp_unroll rfl ?_) | (refine wpc_split _ (fun hc => ?_) (fun hc => ?_) <;> (try simp at hc)) | (refine ww_split _ (fun hc => ?_) (fun hc => ?_) <;> (try simp at hc)) | (refine wp_drawF (by kernel_rfl) ?_) | (refine wk_yldW _ ?_) | (refine layOwe _ (by kernel_rfl) ?_) | (refine owe ?_ (fun ho => ?_)) | (simp (disch := first | assumption | omega | (simp; done) | (simp; omega)) [hi, hn, c28, c29, c31, c32, c33, Tryd.f36, -getElem?_pos, List.getElem?_cons_zero, List.getElem?_cons_succ]))
end
theorem byF_end (w : List Wrd) (gap most : Int) (i : Nat) (n : Int) : decide (byF w gap most i n < 0) = !endW w gap most i n := by
  unfold byF endW ownW apartW
  by_cases e0 : n = most
  · rw [if_pos e0, decide_eq_true e0]; simp
  · rw [if_neg e0, decide_eq_false e0]
    cases e1 : markT (nth w i).text with
    | true => rw [if_pos rfl]; simp
    | false =>
      rw [if_neg (by simp)]
      by_cases e2 : i + 1 = w.length
      · rw [if_pos e2, decide_eq_true e2]; simp
      · rw [if_neg e2, decide_eq_false e2]
        by_cases e3 : (nth w i).til + gap ≤ (nth w (i + 1)).frm
        · rw [if_pos e3, decide_eq_true e3]; simp
        · rw [if_neg e3, decide_eq_false e3]
          by_cases e4 : (nth w i).sp ≠ (nth w (i + 1)).sp
          · rw [if_pos e4, decide_eq_true e4]; simp
          · rw [if_neg e4, decide_eq_false e4]; simp
theorem byF_own (w : List Wrd) (gap most : Int) (i : Nat) (n : Int) (h : endW w gap most i n = true) : decide (byF w gap most i n < 2) = ownW (nth w i) n most := by
  have hb := byF_end w gap most i n
  rw [h] at hb
  have hb2 : ¬ byF w gap most i n < 0 := by simpa using hb
  revert hb2
  unfold byF ownW
  by_cases e0 : n = most
  · rw [if_pos e0, decide_eq_true e0]; simp
  · rw [if_neg e0, decide_eq_false e0]
    cases e1 : markT (nth w i).text with
    | true => rw [if_pos rfl]; simp
    | false =>
      rw [if_neg (by simp)]
      split
      · simp
      · split
        · simp
        · split <;> simp
end Go.Ab
