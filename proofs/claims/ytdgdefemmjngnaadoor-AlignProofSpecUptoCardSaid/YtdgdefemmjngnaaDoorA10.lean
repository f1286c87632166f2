/- Layer 21 (align): Accepts. -/
import Derived.Test.YtdgdefemmjngnaaDoorA9
import Derived.Test.YtdgdefemmjngnaaDoorA8b
import Derived.Test.YtdgdefemmjngnaaDoorA6
set_option linter.unusedVariables false
set_option linter.unusedSimpArgs false
set_option linter.unusedSectionVars false
set_option linter.deprecated false
namespace Go.Ab
open Go.Proofs
set_option maxRecDepth 100000
set_option maxHeartbeats 4000000
/-- what Accepts answers -/
def acS (a b : List (List UInt8)) (st : List Int) (p : List (List Int)) : Bool × Int :=
  if errS a b = 0 then ((costF a b st 0 0 0).2 && (holdsS a b p && decide (nth (nth p 0) 0 - nth (nth p a.length) b.length = (costF a b st 0 0 0).1)), 0) else (false, errS a b)
theorem holds_in {a b : List Wd} {p : List (List Int)} (h : holdsS a b p = true) : p.length = a.length + 1 ∧ ∀ i, i ≤ a.length → (nth p i).length = b.length + 1 ∧ ∀ k, k ≤ b.length → 0 ≤ nth (nth p i) k ∧ nth (nth p i) k ≤ 128 := by
  unfold holdsS at h
  simp only [Bool.and_eq_true] at h
  obtain ⟨h1, h2⟩ := shape_row h.1
  exact ⟨h1, fun i hi => ⟨(h2 i (by omega)).1, fun k hk => (h2 i (by omega)).2 k (by omega)⟩⟩
theorem C18 (a b : List (List UInt8)) (st : List Int) (p : List (List Int)) (hs : a.length < 1099511627776 ∧ b.length < 1099511627776 ∧ st.length < 1099511627776) (hpl : p.length < 1099511627776) (ha : ∀ x ∈ a, x.length < 1099511627776) (hb : ∀ x ∈ b, x.length < 1099511627776) (hl : ∀ r ∈ p, r.length < 1099511627776) : Kc cfg 18 [R fl0 eS a, R fl0 eS b, R fl0 eI st, R fl0 (eR eI) p] (.ret (.tuple [.bool (acS a b st p).1, .int .i64 (acS a b st p).2])) := by
  have hs1 : a.length < 1099511627776 ∧ b.length < 1099511627776 := ⟨hs.1, hs.2.1⟩
  by_cases he : errS a b = 0
  · have h64 := errS_ok he
    have hs2 : a.length ≤ 64 ∧ b.length ≤ 64 ∧ p.length < 1099511627776 := ⟨h64.1, h64.2, hpl⟩
    have hA : acS a b st p = ((costF a b st 0 0 0).2 && (holdsS a b p && decide (nth (nth p 0) 0 - nth (nth p a.length) b.length = (costF a b st 0 0 0).1)), 0) := by unfold acS; rw [if_pos he]
    rw [hA]
    cases hc2 : (costF a b st 0 0 0).2 with
    | false =>
      refine outS_of_wp cfg (fn := Tryd.f18) Tryd.func18 rfl (by simp [Tryd.f18]) ?_
      simp (disch := first | assumption | omega | (simp; done) | (simp; omega)) [-getElem?_pos, List.getElem?_cons_zero, List.getElem?_cons_succ, Tryd.f18, he, hc2]
      repeat' (first | (refine wpc_split _ (fun hc => ?_) (fun hc => ?_) <;> (try simp at hc)) | (refine ww_split _ (fun hc => ?_) (fun hc => ?_) <;> (try simp at hc)) | (refine wp_drawF (by kernel_rfl) ?_) | (refine wk_yldW _ ?_) | (refine layOwe _ (by kernel_rfl) ?_) | (refine owe ?_ (fun ho => ?_)) | (simp (disch := first | assumption | omega | (simp; done) | (simp; omega)) [he, hc2, -getElem?_pos, List.getElem?_cons_zero, List.getElem?_cons_succ]))
      all_goals simp
    | true =>
      cases hh : holdsS a b p with
      | false =>
        refine outS_of_wp cfg (fn := Tryd.f18) Tryd.func18 rfl (by simp [Tryd.f18]) ?_
        simp (disch := first | assumption | omega | (simp; done) | (simp; omega)) [-getElem?_pos, List.getElem?_cons_zero, List.getElem?_cons_succ, Tryd.f18, he, hc2, hh]
        repeat' (first | (refine wpc_split _ (fun hc => ?_) (fun hc => ?_) <;> (try simp at hc)) | (refine ww_split _ (fun hc => ?_) (fun hc => ?_) <;> (try simp at hc)) | (refine wp_drawF (by kernel_rfl) ?_) | (refine wk_yldW _ ?_) | (refine layOwe _ (by kernel_rfl) ?_) | (refine owe ?_ (fun ho => ?_)) | (simp (disch := first | assumption | omega | (simp; done) | (simp; omega)) [he, hc2, hh, -getElem?_pos, List.getElem?_cons_zero, List.getElem?_cons_succ]))
        all_goals simp
      | true =>
        obtain ⟨p1, p2⟩ := holds_in hh
        obtain ⟨q1, q2⟩ := p2 0 (Nat.zero_le _)
        obtain ⟨q3, q4⟩ := p2 a.length (Nat.le_refl _)
        have v1 := q2 0 (Nat.zero_le _)
        have v2 := q4 b.length (Nat.le_refl _)
        refine outS_of_wp cfg (fn := Tryd.f18) Tryd.func18 rfl (by simp [Tryd.f18]) ?_
        simp (disch := first | assumption | omega | (simp; done) | (simp; omega)) [-getElem?_pos, List.getElem?_cons_zero, List.getElem?_cons_succ, Tryd.f18, he, hc2, hh]
        repeat' (first | (refine wpc_split _ (fun hc => ?_) (fun hc => ?_) <;> (try simp at hc)) | (refine ww_split _ (fun hc => ?_) (fun hc => ?_) <;> (try simp at hc)) | (refine wp_drawF (by kernel_rfl) ?_) | (refine wk_yldW _ ?_) | (refine layOwe _ (by kernel_rfl) ?_) | (refine owe ?_ (fun ho => ?_)) | (simp (disch := first | assumption | omega | (simp; done) | (simp; omega)) [he, hc2, hh, eR, eI, p1, q1, q3, -getElem?_pos, List.getElem?_cons_zero, List.getElem?_cons_succ]))
        all_goals first
          | (rw [Bool.eq_iff_iff]; simp; done)
          | simp
  · have hA : acS a b st p = (false, errS a b) := by unfold acS; rw [if_neg he]
    rw [hA]
    generalize hE : errS a b = E at *
    refine outS_of_wp cfg (fn := Tryd.f18) Tryd.func18 rfl (by simp [Tryd.f18]) ?_
    simp (disch := first | assumption | omega | (simp; done) | (simp; omega)) [-getElem?_pos, List.getElem?_cons_zero, List.getElem?_cons_succ, Tryd.f18, he, hE]
    repeat' (first | (refine wpc_split _ (fun hc => ?_) (fun hc => ?_) <;> (try simp at hc)) | (refine ww_split _ (fun hc => ?_) (fun hc => ?_) <;> (try simp at hc)) | (refine wp_drawF (by kernel_rfl) ?_) | (refine wk_yldW _ ?_) | (refine layOwe _ (by kernel_rfl) ?_) | (refine owe ?_ (fun ho => ?_)) | (simp (disch := first | assumption | omega | (simp; done) | (simp; omega)) [he, hE, -getElem?_pos, List.getElem?_cons_zero, List.getElem?_cons_succ]))
@[simp] theorem S18 (a b : List (List UInt8)) (st : List Int) (p : List (List Int)) (hs : a.length < 1099511627776 ∧ b.length < 1099511627776 ∧ st.length < 1099511627776) (hpl : p.length < 1099511627776) (ha : ∀ x ∈ a, x.length < 1099511627776) (hb : ∀ x ∈ b, x.length < 1099511627776) (hl : ∀ r ∈ p, r.length < 1099511627776) (q1 q2 q3 q4 : Fl) (hh : Heap) : Ci cfg (.func (.func 18) [] []) [R  q1 eS a, R  q2 eS b, R  q3 eI st, R  q4 (eR eI) p] hh = some (.ret (.tuple [.bool (acS a b st p).1, .int .i64 (acS a b st p).2]), hh) :=
  Ci_K cfg rfl rfl (by simp) (by simp) (C18 a b st p hs hpl ha hb hl)
theorem C17 (a b : List (List UInt8)) (st : List Int) (p : List (List Int)) (hs : a.length < 1099511627776 ∧ b.length < 1099511627776 ∧ st.length < 1099511627776) (hpl : p.length < 1099511627776) (ha : ∀ x ∈ a, x.length < 1099511627776) (hb : ∀ x ∈ b, x.length < 1099511627776) (hl : ∀ r ∈ p, r.length < 1099511627776) : Kc cfg 17 [R fl0 eS a, R fl0 eS b, R fl0 eI st, R fl0 (eR eI) p] (.ret (.tuple [.bool (acS a b st p).1, .int .i64 (acS a b st p).2])) := by
  have hs1 : a.length < 1099511627776 ∧ b.length < 1099511627776 := ⟨hs.1, hs.2.1⟩
  by_cases he : errS a b = 0
  · have h64 := errS_ok he
    have hs2 : a.length ≤ 64 ∧ b.length ≤ 64 ∧ p.length < 1099511627776 := ⟨h64.1, h64.2, hpl⟩
    have hA : acS a b st p = ((costF a b st 0 0 0).2 && (holdsS a b p && decide (nth (nth p 0) 0 - nth (nth p a.length) b.length = (costF a b st 0 0 0).1)), 0) := by unfold acS; rw [if_pos he]
    rw [hA, folF_cost]
    obtain ⟨fi, fk⟩ := folF_in (a := a) (b := b) (l := st) (c := 0) (Nat.zero_le a.length) (Nat.zero_le b.length)
    generalize hG : folF a b st 0 0 0 = G at *
    obtain ⟨x, y, c, o⟩ := G
    simp only at fi fk
    cases o with
    | false =>
      refine outS_of_wp cfg (fn := Tryd.f17) Tryd.func17 rfl (by simp [Tryd.f17]) ?_
      simp (disch := first | assumption | omega | (simp; done) | (simp; omega)) [-getElem?_pos, List.getElem?_cons_zero, List.getElem?_cons_succ, Tryd.f17, he, hG, emptyH]
      repeat' (first | (refine wpc_split _ (fun hc => ?_) (fun hc => ?_) <;> (try simp at hc)) | (refine ww_split _ (fun hc => ?_) (fun hc => ?_) <;> (try simp at hc)) | (refine wp_drawF (by kernel_rfl) ?_) | (refine wk_yldW _ ?_) | (refine layOwe _ (by kernel_rfl) ?_) | (refine owe ?_ (fun ho => ?_)) | (simp (disch := first | assumption | omega | (simp; done) | (simp; omega)) [he, hG, emptyH, -getElem?_pos, List.getElem?_cons_zero, List.getElem?_cons_succ]))
      all_goals simp
    | true =>
      by_cases hx : x = a.length ∧ y = b.length
      · obtain ⟨rfl, rfl⟩ := hx
        cases hh : holdsS a b p with
        | false =>
          refine outS_of_wp cfg (fn := Tryd.f17) Tryd.func17 rfl (by simp [Tryd.f17]) ?_
          simp (disch := first | assumption | omega | (simp; done) | (simp; omega)) [-getElem?_pos, List.getElem?_cons_zero, List.getElem?_cons_succ, Tryd.f17, he, hG, hh, emptyH]
          repeat' (first | (refine wpc_split _ (fun hc => ?_) (fun hc => ?_) <;> (try simp at hc)) | (refine ww_split _ (fun hc => ?_) (fun hc => ?_) <;> (try simp at hc)) | (refine wp_drawF (by kernel_rfl) ?_) | (refine wk_yldW _ ?_) | (refine layOwe _ (by kernel_rfl) ?_) | (refine owe ?_ (fun ho => ?_)) | (simp (disch := first | assumption | omega | (simp; done) | (simp; omega)) [he, hG, hh, emptyH, eq_place, -getElem?_pos, List.getElem?_cons_zero, List.getElem?_cons_succ]))
          all_goals simp
        | true =>
          obtain ⟨p1, p2⟩ := holds_in hh
          obtain ⟨q1, q2⟩ := p2 0 (Nat.zero_le _)
          obtain ⟨q3, q4⟩ := p2 a.length (Nat.le_refl _)
          have v1 := q2 0 (Nat.zero_le _)
          have v2 := q4 b.length (Nat.le_refl _)
          refine outS_of_wp cfg (fn := Tryd.f17) Tryd.func17 rfl (by simp [Tryd.f17]) ?_
          simp (disch := first | assumption | omega | (simp; done) | (simp; omega)) [-getElem?_pos, List.getElem?_cons_zero, List.getElem?_cons_succ, Tryd.f17, he, hG, hh, emptyH]
          repeat' (first | (refine wpc_split _ (fun hc => ?_) (fun hc => ?_) <;> (try simp at hc)) | (refine ww_split _ (fun hc => ?_) (fun hc => ?_) <;> (try simp at hc)) | (refine wp_drawF (by kernel_rfl) ?_) | (refine wk_yldW _ ?_) | (refine layOwe _ (by kernel_rfl) ?_) | (refine owe ?_ (fun ho => ?_)) | (simp (disch := first | assumption | omega | (simp; done) | (simp; omega)) [he, hG, hh, emptyH, eq_place, eR, eI, p1, q1, q3, -getElem?_pos, List.getElem?_cons_zero, List.getElem?_cons_succ]))
          all_goals first
            | (rw [Bool.eq_iff_iff]; simp; done)
            | simp
      · have he3 : ((x : Int) == (a.length : Int) && (y : Int) == (b.length : Int)) = false := by
          rw [Bool.and_eq_false_iff]
          by_cases e : x = a.length
          · right; simp; omega
          · left; simp; omega
        refine outS_of_wp cfg (fn := Tryd.f17) Tryd.func17 rfl (by simp [Tryd.f17]) ?_
        simp (disch := first | assumption | omega | (simp; done) | (simp; omega)) [-getElem?_pos, List.getElem?_cons_zero, List.getElem?_cons_succ, Tryd.f17, he, hG, emptyH]
        repeat' (first | (refine wpc_split _ (fun hc => ?_) (fun hc => ?_) <;> (try simp at hc)) | (refine ww_split _ (fun hc => ?_) (fun hc => ?_) <;> (try simp at hc)) | (refine wp_drawF (by kernel_rfl) ?_) | (refine wk_yldW _ ?_) | (refine layOwe _ (by kernel_rfl) ?_) | (refine owe ?_ (fun ho => ?_)) | (simp (disch := first | assumption | omega | (simp; done) | (simp; omega)) [he, hG, emptyH, eq_place, he3, -getElem?_pos, List.getElem?_cons_zero, List.getElem?_cons_succ]))
        all_goals first | (simp [hx]; done) | exact fun e1 e2 => absurd ⟨e1, e2⟩ hx | (simp; exact fun e1 e2 => absurd ⟨e1, e2⟩ hx)
  · have hA : acS a b st p = (false, errS a b) := by unfold acS; rw [if_neg he]
    rw [hA]
    generalize hE : errS a b = E at *
    refine outS_of_wp cfg (fn := Tryd.f17) Tryd.func17 rfl (by simp [Tryd.f17]) ?_
    simp (disch := first | assumption | omega | (simp; done) | (simp; omega)) [-getElem?_pos, List.getElem?_cons_zero, List.getElem?_cons_succ, Tryd.f17, he, hE, emptyH]
    repeat' (first | (refine wpc_split _ (fun hc => ?_) (fun hc => ?_) <;> (try simp at hc)) | (refine ww_split _ (fun hc => ?_) (fun hc => ?_) <;> (try simp at hc)) | (refine wp_drawF (by kernel_rfl) ?_) | (refine wk_yldW _ ?_) | (refine layOwe _ (by kernel_rfl) ?_) | (refine owe ?_ (fun ho => ?_)) | (simp (disch := first | assumption | omega | (simp; done) | (simp; omega)) [he, hE, emptyH, -getElem?_pos, List.getElem?_cons_zero, List.getElem?_cons_succ]))
@[simp] theorem S17 (a b : List (List UInt8)) (st : List Int) (p : List (List Int)) (hs : a.length < 1099511627776 ∧ b.length < 1099511627776 ∧ st.length < 1099511627776) (hpl : p.length < 1099511627776) (ha : ∀ x ∈ a, x.length < 1099511627776) (hb : ∀ x ∈ b, x.length < 1099511627776) (hl : ∀ r ∈ p, r.length < 1099511627776) (q1 q2 q3 q4 : Fl) (hh : Heap) : Ci cfg (.func (.func 17) [] []) [R  q1 eS a, R  q2 eS b, R  q3 eI st, R  q4 (eR eI) p] hh = some (.ret (.tuple [.bool (acS a b st p).1, .int .i64 (acS a b st p).2]), hh) :=
  Ci_K cfg rfl rfl (by simp) (by simp) (C17 a b st p hs hpl ha hb hl)
end Go.Ab
