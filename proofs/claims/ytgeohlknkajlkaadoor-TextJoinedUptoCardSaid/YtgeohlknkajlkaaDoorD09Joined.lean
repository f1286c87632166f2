/- TextJoined: the law. -/
import Derived.Test.YtgeohlknkajlkaaDoorS09
import Derived.Test.YtgeohlknkajlkaaDoorP09
set_option linter.unusedVariables false
set_option linter.unusedSimpArgs false
set_option linter.unusedSectionVars false
set_option linter.deprecated false
namespace Go.Ab
open Go.Proofs
set_option maxRecDepth 100000
set_option maxHeartbeats 4000000
theorem runesG_short {s : List UInt8} (h : s.length ≤ 4096) : runesG s = match runes s with
  | some l => (l, 0)
  | none => ([], 90) := by
  unfold runesG; rw [if_neg (by omega)]; cases runes s <;> rfl
theorem C7 (a b : List UInt8) (ha : a.length < 1099511627776) (hb : b.length < 1099511627776) : Kc cfg 7 [.str a, .str b] (.ret (.bool true)) := by
  by_cases hl : 2000 < a.length ∨ 2000 < b.length
  · skip
    refine outS_of_wp cfg (fn := Tryd.f7) Tryd.func7 rfl (by simp [Tryd.f7]) ?_
    simp (disch := first | assumption | omega | (simp; done) | (simp; omega)) [-getElem?_pos, List.getElem?_cons_zero, List.getElem?_cons_succ, Tryd.f7]
    repeat' (first | (refine wpc_split _ (fun hc => ?_) (fun hc => ?_) <;> (try simp at hc)) | (refine ww_split _ (fun hc => ?_) (fun hc => ?_) <;> (try simp at hc)) | (refine wp_draw _ (by kernel_rfl) ?_) | (refine wk_yldW _ ?_) | (refine owe ?_ (fun ho => ?_)) | (simp (disch := first | assumption | omega | (simp; done) | (simp; omega)) [-getElem?_pos, List.getElem?_cons_zero, List.getElem?_cons_succ]))
    all_goals omega
  have h1 := runesG_short (s := a) (by omega)
  have h2 := runesG_short (s := b) (by omega)
  have h3 := runesG_short (s := a ++ b) (by simp; omega)
  have hnil : V.row false true [] 0 none = R (false, true, none) eI [] := rfl
  cases ra : runes a with
  | none =>
    rw [ra] at h1
    cases rb : runes b with
    | none =>
      rw [rb] at h2
      refine outS_of_wp cfg (fn := Tryd.f7) Tryd.func7 rfl (by simp [Tryd.f7]) ?_
      simp (disch := first | assumption | omega | (simp; done) | (simp; omega)) [-getElem?_pos, List.getElem?_cons_zero, List.getElem?_cons_succ, Tryd.f7, h1, h2]
      repeat' (first | (refine wpc_split _ (fun hc => ?_) (fun hc => ?_) <;> (try simp at hc)) | (refine ww_split _ (fun hc => ?_) (fun hc => ?_) <;> (try simp at hc)) | (refine wp_draw _ (by kernel_rfl) ?_) | (refine wk_yldW _ ?_) | (refine owe ?_ (fun ho => ?_)) | (simp (disch := first | assumption | omega | (simp; done) | (simp; omega)) [h1, h2, -getElem?_pos, List.getElem?_cons_zero, List.getElem?_cons_succ]))
    | some y =>
      have hz : runes (a ++ b) = none := by
        cases hz : runes (a ++ b) with
        | none => rfl
        | some z =>
          obtain ⟨e1, e2⟩ := runes_enc' hz
          have := runes_cut z a b e1 e2 (by rw [rb]; rfl)
          rw [ra] at this; cases this
      rw [hz] at h3
      rw [rb] at h2
      refine outS_of_wp cfg (fn := Tryd.f7) Tryd.func7 rfl (by simp [Tryd.f7]) ?_
      simp (disch := first | assumption | omega | (simp; done) | (simp; omega)) [-getElem?_pos, List.getElem?_cons_zero, List.getElem?_cons_succ, Tryd.f7, h1, h2, h3]
      repeat' (first | (refine wpc_split _ (fun hc => ?_) (fun hc => ?_) <;> (try simp at hc)) | (refine ww_split _ (fun hc => ?_) (fun hc => ?_) <;> (try simp at hc)) | (refine wp_draw _ (by kernel_rfl) ?_) | (refine wk_yldW _ ?_) | (refine owe ?_ (fun ho => ?_)) | (simp (disch := first | assumption | omega | (simp; done) | (simp; omega)) [h1, h2, h3, -getElem?_pos, List.getElem?_cons_zero, List.getElem?_cons_succ]))
  | some x =>
    have hab := runes_append (b := b) ra
    have hxl := runes_len _ _ _ (Nat.le_refl _) ra
    rw [ra] at h1
    cases rb : runes b with
    | none =>
      rw [rb] at h2 hab
      rw [hab] at h3
      refine outS_of_wp cfg (fn := Tryd.f7) Tryd.func7 rfl (by simp [Tryd.f7]) ?_
      simp (disch := first | assumption | omega | (simp; done) | (simp; omega)) [-getElem?_pos, List.getElem?_cons_zero, List.getElem?_cons_succ, Tryd.f7, h1, h2, h3]
      repeat' (first | (refine wpc_split _ (fun hc => ?_) (fun hc => ?_) <;> (try simp at hc)) | (refine ww_split _ (fun hc => ?_) (fun hc => ?_) <;> (try simp at hc)) | (refine wp_draw _ (by kernel_rfl) ?_) | (refine wk_yldW _ ?_) | (refine owe ?_ (fun ho => ?_)) | (simp (disch := first | assumption | omega | (simp; done) | (simp; omega)) [h1, h2, h3, -getElem?_pos, List.getElem?_cons_zero, List.getElem?_cons_succ]))
    | some y =>
      have hyl := runes_len _ _ _ (Nat.le_refl _) rb
      rw [rb] at h2 hab
      rw [hab] at h3
      simp only [Option.map_some] at h3
      obtain ⟨fl1, q, q1, A1, b1, _⟩ := append_Rm (P := Tryd.prog) (h := emptyH) (fl := (false, true, none)) (fl2 := fl0) (l := []) (m := x) (E := eI) (sz := 1) (ts := #[22, 22]) (by simp) (App.full _ _ _) (by simp; omega)
      obtain ⟨fl2, q', q2, A2, b2, _⟩ := append_Rm (P := Tryd.prog) (h := q) (fl := fl1) (fl2 := fl0) (l := [] ++ x) (m := y) (E := eI) (sz := 1) (ts := #[22, 22]) (by simp) A1 (by simp; omega)
      simp only [List.nil_append] at q1 q2
      refine outS_of_wp cfg (fn := Tryd.f7) Tryd.func7 rfl (by simp [Tryd.f7]) ?_
      simp (disch := first | assumption | omega | (simp; done) | (simp; omega)) [-getElem?_pos, List.getElem?_cons_zero, List.getElem?_cons_succ, Tryd.f7, h1, h2, h3]
      repeat' (first | (refine wpc_split _ (fun hc => ?_) (fun hc => ?_) <;> (try simp at hc)) | (refine ww_split _ (fun hc => ?_) (fun hc => ?_) <;> (try simp at hc)) | (refine wp_draw _ (by kernel_rfl) ?_) | (refine wk_yldW _ ?_) | (refine owe ?_ (fun ho => ?_)) | (simp (disch := first | assumption | omega | (simp; done) | (simp; omega)) [h1, h2, h3, hnil, q1, q2, -getElem?_pos, List.getElem?_cons_zero, List.getElem?_cons_succ]))
@[simp] theorem S7 (a b : List UInt8) (ha : a.length < 1099511627776) (hb : b.length < 1099511627776) (hh : Heap) : Ci cfg (.func (.func 7) [] []) [.str a, .str b] hh = some (.ret (.bool true), hh) :=
  Ci_K cfg rfl rfl (by simp) (by simp) (C7 a b ha hb)
end Go.Ab
