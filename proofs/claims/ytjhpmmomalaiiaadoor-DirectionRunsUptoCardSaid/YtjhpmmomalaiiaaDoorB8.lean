/- Layer 10 (direction): places. -/
import Derived.Test.YtjhpmmomalaiiaaDoorB7
set_option linter.unusedVariables false
set_option linter.unusedSimpArgs false
set_option linter.unusedSectionVars false
set_option linter.deprecated false
namespace Go.Ab
open Go.Proofs
set_option maxRecDepth 100000
set_option maxHeartbeats 4000000
def cBo (f : Nat → Bool) : Nat → V := fun j => .bool (f j)
@[simp] theorem cBo_at (f : Nat → Bool) (j : Nat) : cBo f j = .bool (f j) := rfl
def updBo (f : Nat → Bool) (v : Nat) (x : Bool) : Nat → Bool := fun j => if j = v then x else f j
@[simp] theorem upd_cBo (f : Nat → Bool) (v : Nat) (x : Bool) : upd (cBo f) v (.bool x) = cBo (updBo f v x) := by
  funext j; unfold upd cBo updBo; split <;> rfl
theorem cBo_repf (n : Nat) (x : Bool) : (List.replicate n [V.bool x]).flatten = tab n (cBo fun _ => x) := repf_tab n _
theorem cBo_rep (n : Nat) (x : Bool) : List.replicate n (V.bool x) = tab n (cBo fun _ => x) := rep_tab n _
def allL (L : List Int) : Bool := L.all fun x => decide (0 ≤ x ∧ x ≤ 2)
def placesS (L : List Int) : List Int × Bool × Bool := if L.length ≤ 120 ∧ allL L = true then (rowF L.length (fun i => (atF L i : Int)), true, true) else ([], false, true)
def atT (L : List Int) (i : Nat) : Nat → Int := fun v => if atF L v < i then atF L v else 0
def metT (L : List Int) (i : Nat) : Nat → Bool := fun v => decide (atF L v < i)
theorem at_eq {L : List Int} {i u : Nat} (hi : i < L.length) (hu : u < L.length) : atF L u = i ↔ u = ordF L i := by
  constructor
  · intro h; rw [← h, ord_at hu]
  · intro h; rw [h, at_ord hi]
theorem atT_set {L : List Int} {i : Nat} (hi : i < L.length) : tab L.length (cI (updI (atT L i) (ordF L i) i)) = tab L.length (cI (atT L (i + 1))) := tab_ext fun u hu => by
  unfold cI
  congr 1
  show (if u = ordF L i then (i : Int) else if atF L u < i then (atF L u : Int) else 0) = (if atF L u < i + 1 then (atF L u : Int) else 0)
  by_cases e : u = ordF L i
  · have := (at_eq hi hu).2 e
    rw [if_pos e, if_pos (by omega), this]
  · have h2 : ¬ atF L u = i := fun h => e ((at_eq hi hu).1 h)
    rw [if_neg e]
    by_cases h3 : atF L u < i
    · rw [if_pos h3, if_pos (by omega)]
    · rw [if_neg h3, if_neg (by omega)]
theorem metT_set {L : List Int} {i : Nat} (hi : i < L.length) : tab L.length (cBo (updBo (metT L i) (ordF L i) true)) = tab L.length (cBo (metT L (i + 1))) := tab_ext fun u hu => by
  unfold cBo
  congr 1
  show (if u = ordF L i then true else decide (atF L u < i)) = decide (atF L u < i + 1)
  by_cases e : u = ordF L i
  · have := (at_eq hi hu).2 e
    rw [if_pos e, decide_eq_true (by omega)]
  · have h2 : ¬ atF L u = i := fun h => e ((at_eq hi hu).1 h)
    rw [if_neg e, decide_eq_decide]; omega
theorem metT_new {L : List Int} {i : Nat} (hi : i < L.length) : metT L i (ordF L i) = false := by
  unfold metT; rw [at_ord hi]; simp
theorem all_bad {L : List Int} {i : Nat} (hi : i < L.length) (h : ¬ (0 ≤ nth L i ∧ nth L i ≤ 2)) : placesS L = ([], false, true) := by
  unfold placesS
  rw [if_neg]
  rintro ⟨_, ha⟩
  exact h (of_decide_eq_true (List.all_eq_true.1 ha _ (nth_mem hi)))
theorem all_good {L : List Int} (h : ∀ i, i < L.length → 0 ≤ nth L i ∧ nth L i ≤ 2) (hl : L.length ≤ 120) : placesS L = (rowF L.length (fun i => (atF L i : Int)), true, true) := by
  unfold placesS
  have ha : allL L = true := by
    unfold allL
    rw [List.all_eq_true]
    intro x hx
    obtain ⟨i, hi, rfl⟩ := List.mem_iff_getElem.1 hx
    rw [← nth_eq hi]; exact decide_eq_true (h i hi)
  rw [if_pos ⟨hl, ha⟩]
theorem C18 (L : List Int) (hs : L.length < 1099511627776) : Kc cfg 18 [R fl0 eI L] (.ret (.tuple [R fl0 eI (placesS L).1, .bool (placesS L).2.1, .bool (placesS L).2.2])) := by
  by_cases hl : 120 < L.length
  · have hP : placesS L = ([], false, true) := by unfold placesS; rw [if_neg (by omega)]
    rw [hP]
    refine outS_of_wp cfg (fn := Tryd.f18) Tryd.func18 rfl (by simp [Tryd.f18]) ?_
    simp (disch := first | assumption | omega | (simp; done) | (simp; omega)) [-getElem?_pos, List.getElem?_cons_zero, List.getElem?_cons_succ, Tryd.f18, emptyH]
    repeat' (first | (refine wpc_split _ (fun hc => ?_) (fun hc => ?_) <;> (try simp at hc)) | (refine ww_split _ (fun hc => ?_) (fun hc => ?_) <;> (try simp at hc)) | (refine wp_drawF (by kernel_rfl) ?_) | (refine wk_yldW _ ?_) | (refine layOwe _ (by kernel_rfl) ?_) | (refine owe ?_ (fun ho => ?_)) | (simp (disch := first | assumption | omega | (simp; done) | (simp; omega)) [emptyH, -getElem?_pos, List.getElem?_cons_zero, List.getElem?_cons_succ]))
    all_goals first | rfl | (exfalso; omega)
  have hbad := fun i => all_bad (L := L) (i := i)
  have hgood := all_good (L := L)
  have hord := lev_good (L := L)
  generalize hP : placesS L = PS at *
  refine outS_of_wp cfg (fn := Tryd.f18) Tryd.func18 rfl (by simp [Tryd.f18]) ?_
  simp (disch := first | assumption | omega | (simp; done) | (simp; omega)) [-getElem?_pos, List.getElem?_cons_zero, List.getElem?_cons_succ, Tryd.f18, emptyH]
  repeat' (first | (refine wpc_split _ (fun hc => ?_) (fun hc => ?_) <;> (try simp at hc)) | (refine ww_split _ (fun hc => ?_) (fun hc => ?_) <;> (try simp at hc)) | (refine wp_drawF (by kernel_rfl) ?_) | (refine wk_yldW _ ?_) | (refine layOwe _ (by kernel_rfl) ?_) | (refine owe ?_ (fun ho => ?_)) | (simp (disch := first | assumption | omega | (simp; done) | (simp; omega)) [emptyH, -getElem?_pos, List.getElem?_cons_zero, List.getElem?_cons_succ]))
  all_goals first
    | (exfalso; omega)
    | skip
  refine wp_loopE cfg rfl (fun f0 h0 m fr h => ∃ i : Nat, fr 0 = f0 0 ∧ fr 15 = f0 15 ∧ fr 16 = f0 16 ∧ fr 17 = .int .i64 i ∧ h.bs = h0.bs ∧ (i + m = L.length) ∧ (∀ j, j < i → 0 ≤ nth L j ∧ nth L j ≤ 2)) (L.length) _ _ ⟨0, rfl, rfl, rfl, by first | rfl | (simp; done) | (simp [R]; done) | simp [R], rfl, by first | rfl | (simp; done) | omega, fun j hj => by omega⟩ ?_
  rintro Am Af Ah ⟨i, A0, A15, A16, A17, Abs, hm, hok⟩ Aih
  try simp at A0 A15 A16 Abs
  by_cases hi : i < L.length
  · by_cases hq : 0 ≤ nth L i ∧ nth L i ≤ 2
    · repeat' (first | (refine wpc_split _ (fun hc => ?_) (fun hc => ?_) <;> (try simp at hc)) | (refine ww_split _ (fun hc => ?_) (fun hc => ?_) <;> (try simp at hc)) | (refine wp_drawF (by kernel_rfl) ?_) | (refine wk_yldW _ ?_) | (refine layOwe _ (by kernel_rfl) ?_) | (refine owe ?_ (fun ho => ?_)) | (simp (disch := first | assumption | omega | (simp; done) | (simp; omega)) [A0, A15, A16, A17, Abs, eI, -getElem?_pos, List.getElem?_cons_zero, List.getElem?_cons_succ]))
      all_goals first
        | (exfalso; omega)
        | exact Aih (Am - 1) _ _ (by omega) ⟨i + 1, by simp [A0, A15, A16, A17, Abs], by simp [A0, A15, A16, A17, Abs], by simp [A0, A15, A16, A17, Abs], by simp [A0, A15, A16, A17, Abs], by simp [A0, A15, A16, A17, Abs], by omega, fun j hj => by (by_cases e : j = i; (subst e; exact hq); exact hok j (by omega))⟩
    · have h2 := hbad i hi hq
      repeat' (first | (refine wpc_split _ (fun hc => ?_) (fun hc => ?_) <;> (try simp at hc)) | (refine ww_split _ (fun hc => ?_) (fun hc => ?_) <;> (try simp at hc)) | (refine wp_drawF (by kernel_rfl) ?_) | (refine wk_yldW _ ?_) | (refine layOwe _ (by kernel_rfl) ?_) | (refine owe ?_ (fun ho => ?_)) | (simp (disch := first | assumption | omega | (simp; done) | (simp; omega)) [A0, A15, A16, A17, Abs, eI, -getElem?_pos, List.getElem?_cons_zero, List.getElem?_cons_succ]))
      all_goals first
        | (exfalso; omega)
        | (rw [h2]; exact ⟨rfl, rfl, rfl⟩)
        | (rw [h2]; rfl)
  · obtain rfl : i = L.length := by omega
    have h2 := hgood (fun j hj => hok j hj) (by omega)
    have hO := hord (fun j hj => hok j hj) (by omega)
    have hrl : (rowF L.length (fun i => (ordF L i : Int))).length = L.length := by simp
    have hrn := fun i (h : i < L.length) => nth_rowF (g := fun i => (ordF L i : Int)) h
    have holt := fun i (h : i < L.length) => ordF_lt (L := L) (i := i) h
    generalize hW : rowF L.length (fun i => (ordF L i : Int)) = W at *
    clear Aih hbad hgood hord
    repeat' (first | (refine wpc_split _ (fun hc => ?_) (fun hc => ?_) <;> (try simp at hc)) | (refine ww_split _ (fun hc => ?_) (fun hc => ?_) <;> (try simp at hc)) | (refine wp_drawF (by kernel_rfl) ?_) | (refine wk_yldW _ ?_) | (refine layOwe _ (by kernel_rfl) ?_) | (refine owe ?_ (fun ho => ?_)) | (simp (disch := first | assumption | omega | (simp; done) | (simp; omega)) [A0, A15, A16, A17, Abs, hO, hrl, cI_repf, cBo_repf, -getElem?_pos, List.getElem?_cons_zero, List.getElem?_cons_succ]))
    refine wp_loopE cfg rfl (fun f0 h0 m fr h => ∃ i : Nat, fr 0 = f0 0 ∧ fr 2 = f0 2 ∧ fr 7 = f0 7 ∧ fr 9 = f0 9 ∧ fr 48 = f0 48 ∧ fr 49 = f0 49 ∧ fr 50 = .int .i64 i ∧ (h.bs = [.cells (tab L.length (cI (atT L i))), .cells (tab L.length (cBo (metT L i)))]) ∧ (i + m = L.length)) (L.length) _ _ ⟨0, rfl, rfl, rfl, rfl, rfl, rfl, by first | rfl | (simp; done) | (simp [R]; done) | simp [R], by (simp [cI_rep, cBo_rep, Abs]; exact ⟨rfl, rfl⟩), by first | rfl | (simp; done) | omega⟩ ?_
    rintro Bm Bf Bh ⟨i, B0, B2, B7, B9, B48, B49, B50, hb, hm2⟩ Bih
    try simp [A0, A15, A16, A17, Abs] at B0 B2 B7 B9 B48 B49
    by_cases hi2 : i < L.length
    · have hrni := hrn i hi2
      have hlt := holt i hi2
      have hmn := metT_new hi2
      have hs1 := atT_set hi2
      have hs2 := metT_set hi2
      generalize hov : ordF L i = v at *
      repeat' (first | (refine wpc_split _ (fun hc => ?_) (fun hc => ?_) <;> (try simp at hc)) | (refine ww_split _ (fun hc => ?_) (fun hc => ?_) <;> (try simp at hc)) | (refine wp_drawF (by kernel_rfl) ?_) | (refine wk_yldW _ ?_) | (refine layOwe _ (by kernel_rfl) ?_) | (refine owe ?_ (fun ho => ?_)) | (simp (disch := first | assumption | omega | (simp; done) | (simp; omega)) [B0, B2, B7, B9, B48, B49, B50, hb, eI, hrl, hrni, hmn, tab_get1, tab_set, -getElem?_pos, List.getElem?_cons_zero, List.getElem?_cons_succ]))
      all_goals first
        | (exfalso; omega)
        | exact Bih (Bm - 1) _ _ (by omega) ⟨i + 1, by simp [B0, B2, B7, B9, B48, B49, B50, A0, A15, A16, A17, Abs, hb, hs1, hs2], by simp [B0, B2, B7, B9, B48, B49, B50, A0, A15, A16, A17, Abs, hb, hs1, hs2], by simp [B0, B2, B7, B9, B48, B49, B50, A0, A15, A16, A17, Abs, hb, hs1, hs2], by simp [B0, B2, B7, B9, B48, B49, B50, A0, A15, A16, A17, Abs, hb, hs1, hs2], by simp [B0, B2, B7, B9, B48, B49, B50, A0, A15, A16, A17, Abs, hb, hs1, hs2], by simp [B0, B2, B7, B9, B48, B49, B50, A0, A15, A16, A17, Abs, hb, hs1, hs2], by simp [B0, B2, B7, B9, B48, B49, B50, A0, A15, A16, A17, Abs, hb, hs1, hs2], (by simp [hb, hs1, hs2]), by omega⟩
    · obtain rfl : i = L.length := by omega
      have hfin : tab L.length (cI (atT L L.length)) = rows eI (rowF L.length (fun i => (atF L i : Int))) := by
        rw [rowF_cI]
        exact tab_ext fun u hu => by
          unfold cI
          congr 1
          show (if atF L u < L.length then (atF L u : Int) else 0) = _
          rw [if_pos (atF_lt hu)]
      rw [hfin] at hb
      repeat' (first | (refine wpc_split _ (fun hc => ?_) (fun hc => ?_) <;> (try simp at hc)) | (refine ww_split _ (fun hc => ?_) (fun hc => ?_) <;> (try simp at hc)) | (refine wp_drawF (by kernel_rfl) ?_) | (refine wk_yldW _ ?_) | (refine layOwe _ (by kernel_rfl) ?_) | (refine owe ?_ (fun ho => ?_)) | (simp (disch := first | assumption | omega | (simp; done) | (simp; omega)) [B0, B2, B7, B9, B48, B49, B50, hb, -getElem?_pos, List.getElem?_cons_zero, List.getElem?_cons_succ]))
      rw [h2]
      exact outS_slT (E := eI) (L := rowF L.length (fun i => (atF L i : Int))) (by simp) (by rw [hb]; rfl) (fun _ => rfl) (fun _ _ => rfl)
@[simp] theorem S18 (L : List Int) (hs : L.length < 1099511627776) (q1 : Fl) (hh : Heap) : Ci cfg (.func (.func 18) [] []) [R  q1 eI L] hh = some (.ret (.tuple [R fl0 eI (placesS L).1, .bool (placesS L).2.1, .bool (placesS L).2.2]), hh) :=
  Ci_K cfg rfl rfl (by simp) (by simp) (C18 L hs)
end Go.Ab
