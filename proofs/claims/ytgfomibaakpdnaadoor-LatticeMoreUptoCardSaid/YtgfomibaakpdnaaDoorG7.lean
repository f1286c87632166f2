/- Layer 20 (lattice): what paths say. -/
import Derived.Test.YtgfomibaakpdnaaDoorG3
set_option linter.unusedVariables false
set_option linter.unusedSimpArgs false
set_option linter.unusedSectionVars false
set_option linter.deprecated false
namespace Go.Ab
open Go.Proofs
set_option maxRecDepth 100000
set_option maxHeartbeats 4000000
def cB (f : Nat → Bool) : Nat → V := fun j => .bool (f j)
@[simp] theorem cB_at (f : Nat → Bool) (j : Nat) : cB f j = .bool (f j) := rfl
def updT (f : Nat → Bool) (v : Nat) (x : Bool) : Nat → Bool := fun j => if j = v then x else f j
@[simp] theorem upd_cB (f : Nat → Bool) (v : Nat) (x : Bool) : upd (cB f) v (.bool x) = cB (updT f v x) := by
  funext j; unfold upd cB updT; split <;> rfl
theorem cB_rep (n : Nat) (x : Bool) : List.replicate n (V.bool x) = tab n (cB fun _ => x) := rep_tab n _
theorem cB_repf (n : Nat) (x : Bool) : (List.replicate n [V.bool x]).flatten = tab n (cB fun _ => x) := repf_tab n _
theorem cB_one {n : Nat} {f : Nat → Bool} : (∀ x ∈ tab n (cB f), x.one = true) = True := by
  simp only [eq_iff_iff, iff_true]
  intro x hx
  simp only [tab, List.mem_map] at hx
  obtain ⟨i, _, rfl⟩ := hx
  rfl
theorem tab_first {n : Nat} {f : Nat → V} (h : 0 < n) : List.take 1 (tab n f) = [f 0] := by
  obtain ⟨k, rfl⟩ : ∃ k, n = k + 1 := ⟨n - 1, by omega⟩
  unfold tab; rw [List.range_succ_eq_map]; rfl
theorem at0_upd : updT (fun _ => false) 0 true = at0 := by
  funext v; unfold updT at0; by_cases h : v = 0 <;> simp [h]
/-- the nodes behind the first i edges -/
def nxR (l : List Edge) (a : Nat → Bool) (w : List UInt8) (i u : Nat) : Bool := anyTo i (fun j => a (nth l j).src.toNat && decide ((nth l j).dst = u) && decide ((nth l j).text = w))
theorem nxR_zero (l : List Edge) (a : Nat → Bool) (w : List UInt8) : nxR l a w 0 = fun _ => false := by funext u; rfl
theorem nxR_all (l : List Edge) (a : Nat → Bool) (w : List UInt8) : nxR l a w l.length = stE l a w := rfl
theorem nxR_yes {l : List Edge} {a : Nat → Bool} {w : List UInt8} {i d : Nat} (h1 : a (nth l i).src.toNat = true) (h2 : (nth l i).dst = d) (h3 : (nth l i).text = w) : updT (nxR l a w i) d true = nxR l a w (i + 1) := by
  funext u
  unfold nxR updT
  rw [anyTo_succ, h1, h2, h3]
  by_cases e : u = d
  · subst e; rw [if_pos rfl]; simp
  · rw [if_neg e]; simp; omega
theorem nxR_no {l : List Edge} {a : Nat → Bool} {w : List UInt8} {i : Nat} (h : ¬ (a (nth l i).src.toNat = true ∧ (nth l i).text = w)) : nxR l a w i = nxR l a w (i + 1) := by
  funext u
  unfold nxR
  rw [anyTo_succ]
  have : (a (nth l i).src.toNat && decide ((nth l i).dst = u) && decide ((nth l i).text = w)) = false := by
    rw [← Bool.not_eq_true]
    intro e
    simp only [Bool.and_eq_true, decide_eq_true_eq] at e
    exact h ⟨e.1.1, e.2⟩
  rw [this, Bool.or_false]
theorem runE_take {l : List Edge} {ws : List (List UInt8)} {a : Nat → Bool} {k : Nat} (h : k < ws.length) : runE l (ws.take (k + 1)) a = stE l (runE l (ws.take k) a) (nth ws k) := by rw [nth_take h, runE_snoc]
theorem beqS_dec (a b : List UInt8) : (a == b) = decide (a = b) := by by_cases h : a = b <;> simp [h]
theorem C22 (n : Int) (l : List Edge) (ws : List (List UInt8)) (hs : l.length < 1099511627776) (hs2 : ws.length < 1099511627776) (ht : ∀ x ∈ l, x.text.length < 1099511627776) : Kc cfg 22 [.int .i64 n, R fl0 eE l, R fl0 eS ws] (.ret (.tuple [.bool (saysS n l ws).1, .int .i64 (saysS n l ws).2])) := by
  by_cases hck : checkE n l = 0
  · have hA : saysS n l ws = (saidE n l ws, 0) := by unfold saysS; rw [if_pos hck]
    rw [hA]
    obtain ⟨hn, hl, hok⟩ := checkE_ok hck
    have hin := checkE_in hck
    unfold saidE
    obtain ⟨N, rfl⟩ : ∃ N : Nat, n = N := ⟨n.toNat, by omega⟩
    simp only [Int.toNat_natCast] at *
    have hN1 : ((N : Int) + 1).toNat = N + 1 := by omega
    refine outS_of_wp cfg (fn := Tryd.f22) Tryd.func22 rfl (by simp [Tryd.f22]) ?_
    simp (disch := first | assumption | omega | (simp; done) | (simp; omega)) [-getElem?_pos, List.getElem?_cons_zero, List.getElem?_cons_succ, Tryd.f22, hck, emptyH]
    repeat' (first | (refine wpc_split _ (fun hc => ?_) (fun hc => ?_) <;> (try simp at hc)) | (refine ww_split _ (fun hc => ?_) (fun hc => ?_) <;> (try simp at hc)) | (refine wp_drawF (by kernel_rfl) ?_) | (refine wk_yldW _ ?_) | (refine layOwe _ (by kernel_rfl) ?_) | (refine owe ?_ (fun ho => ?_)) | (simp (disch := first | assumption | omega | (simp; done) | (simp; omega)) [hck, emptyH, cB_repf, hN1, tab_set, at0_upd, -getElem?_pos, List.getElem?_cons_zero, List.getElem?_cons_succ]))
    refine wp_loopE cfg rfl (fun f0 h0 m fr h => ∃ k : Nat, ∃ X : List Blk, fr 0 = f0 0 ∧ fr 1 = f0 1 ∧ fr 2 = f0 2 ∧ fr 9 = .slice X.length 0 (N + 1) 1 ∧ fr 10 = .int .i64 k ∧ (h.bs = X ++ [.cells (tab (N + 1) (cB (runE l (ws.take k) at0)))]) ∧ (k + m = ws.length)) (ws.length) _ _ ⟨0, [], rfl, rfl, rfl, by first | rfl | (simp; done) | (simp [R]; done) | simp [R], by first | rfl | (simp; done) | (simp [R]; done) | simp [R], by simp [runE, at0_upd, cB_rep, tab_set], by first | rfl | (simp; done) | omega⟩ ?_
    rintro Am Af Ah ⟨k, X, A0, A1, A2, A9, A10, hb, hm⟩ Aih
    try simp at A0 A1 A2
    by_cases hk : k < ws.length
    · have hrt := runE_take (l := l) (a := at0) hk
      generalize hat : runE l (ws.take k) at0 = at' at *
      repeat' (first | (refine wpc_split _ (fun hc => ?_) (fun hc => ?_) <;> (try simp at hc)) | (refine ww_split _ (fun hc => ?_) (fun hc => ?_) <;> (try simp at hc)) | (refine wp_drawF (by kernel_rfl) ?_) | (refine wk_yldW _ ?_) | (refine layOwe _ (by kernel_rfl) ?_) | (refine owe ?_ (fun ho => ?_)) | (simp (disch := first | assumption | omega | (simp; done) | (simp; omega)) [A0, A1, A2, A9, A10, hb, cB_repf, hN1, -getElem?_pos, List.getElem?_cons_zero, List.getElem?_cons_succ]))
      refine wp_loopE cfg rfl (fun f0 h0 m fr h => ∃ i : Nat, fr 0 = f0 0 ∧ fr 1 = f0 1 ∧ fr 2 = f0 2 ∧ fr 9 = f0 9 ∧ fr 10 = f0 10 ∧ fr 11 = f0 11 ∧ fr 12 = .int .i64 i ∧ (h.bs = X ++ [.cells (tab (N + 1) (cB at')), .cells (tab (N + 1) (cB (nxR l at' (nth ws k) i)))]) ∧ (i + m = l.length)) (l.length) _ _ ⟨0, rfl, rfl, rfl, rfl, rfl, rfl, by first | rfl | (simp; done) | (simp [R]; done) | simp [R], by simp [hb, nxR_zero, cB_rep], by first | rfl | (simp; done) | omega⟩ ?_
      rintro Bm Bf Bh ⟨i, B0, B1, B2, B9, B10, B11, B12, hb2, hm2⟩ Bih
      try simp [A0, A1, A2, A9, A10] at B0 B1 B2 B9 B10 B11
      by_cases hi : i < l.length
      · have hii := hin i hi
        obtain ⟨d, hd⟩ : ∃ d : Nat, (nth l i).dst = d := ⟨(nth l i).dst.toNat, by omega⟩
        obtain ⟨v, hv⟩ : ∃ v : Nat, (nth l i).src = v := ⟨(nth l i).src.toNat, by omega⟩
        have hd1 : d < N + 1 := by omega
        have hv1 : v < N + 1 := by omega
        by_cases c1 : at' v = true
        · by_cases c2 : (nth l i).text = nth ws k
          · have hst := nxR_yes (l := l) (a := at') (w := nth ws k) (i := i) (d := d) (by rw [hv]; exact c1) hd c2
            repeat' (first | (refine wpc_split _ (fun hc => ?_) (fun hc => ?_) <;> (try simp at hc)) | (refine ww_split _ (fun hc => ?_) (fun hc => ?_) <;> (try simp at hc)) | (refine wp_drawF (by kernel_rfl) ?_) | (refine wk_yldW _ ?_) | (refine layOwe _ (by kernel_rfl) ?_) | (refine owe ?_ (fun ho => ?_)) | (simp (disch := first | assumption | omega | (simp; done) | (simp; omega)) [A0, A1, A2, A9, A10, B0, B1, B2, B9, B10, B11, B12, hb2, eE, eS, hd, hv, c1, c2, tab_get1, app_at, app_at0, app_set, app_set0, tab_set, -getElem?_pos, List.getElem?_cons_zero, List.getElem?_cons_succ]))
            exact Bih (Bm - 1) _ _ (by omega) ⟨i + 1, by simp [B0, B1, B2, B9, B10, B11, B12, A0, A1, A2, A9, A10, hb2, hst], by simp [B0, B1, B2, B9, B10, B11, B12, A0, A1, A2, A9, A10, hb2, hst], by simp [B0, B1, B2, B9, B10, B11, B12, A0, A1, A2, A9, A10, hb2, hst], by simp [B0, B1, B2, B9, B10, B11, B12, A0, A1, A2, A9, A10, hb2, hst], by simp [B0, B1, B2, B9, B10, B11, B12, A0, A1, A2, A9, A10, hb2, hst], by simp [B0, B1, B2, B9, B10, B11, B12, A0, A1, A2, A9, A10, hb2, hst], by simp [B0, B1, B2, B9, B10, B11, B12, A0, A1, A2, A9, A10, hb2, hst], (by simp [hb2, hst]), by omega⟩
          · have hst := nxR_no (l := l) (a := at') (w := nth ws k) (i := i) (fun e => c2 e.2)
            have c3 : ((nth l i).text == nth ws k) = false := by rw [beqS_dec]; exact decide_eq_false c2
            repeat' (first | (refine wpc_split _ (fun hc => ?_) (fun hc => ?_) <;> (try simp at hc)) | (refine ww_split _ (fun hc => ?_) (fun hc => ?_) <;> (try simp at hc)) | (refine wp_drawF (by kernel_rfl) ?_) | (refine wk_yldW _ ?_) | (refine layOwe _ (by kernel_rfl) ?_) | (refine owe ?_ (fun ho => ?_)) | (simp (disch := first | assumption | omega | (simp; done) | (simp; omega)) [A0, A1, A2, A9, A10, B0, B1, B2, B9, B10, B11, B12, hb2, eE, eS, hd, hv, c1, c3, tab_get1, app_at, app_at0, -getElem?_pos, List.getElem?_cons_zero, List.getElem?_cons_succ]))
            exact Bih (Bm - 1) _ _ (by omega) ⟨i + 1, by simp [B0, B1, B2, B9, B10, B11, B12, A0, A1, A2, A9, A10, hb2, hst], by simp [B0, B1, B2, B9, B10, B11, B12, A0, A1, A2, A9, A10, hb2, hst], by simp [B0, B1, B2, B9, B10, B11, B12, A0, A1, A2, A9, A10, hb2, hst], by simp [B0, B1, B2, B9, B10, B11, B12, A0, A1, A2, A9, A10, hb2, hst], by simp [B0, B1, B2, B9, B10, B11, B12, A0, A1, A2, A9, A10, hb2, hst], by simp [B0, B1, B2, B9, B10, B11, B12, A0, A1, A2, A9, A10, hb2, hst], by simp [B0, B1, B2, B9, B10, B11, B12, A0, A1, A2, A9, A10, hb2, hst], (by simp [hb2, hst]), by omega⟩
        · have c3 : at' v = false := by simpa using c1
          have hst := nxR_no (l := l) (a := at') (w := nth ws k) (i := i) (fun e => c1 (by rw [hv] at e; exact e.1))
          repeat' (first | (refine wpc_split _ (fun hc => ?_) (fun hc => ?_) <;> (try simp at hc)) | (refine ww_split _ (fun hc => ?_) (fun hc => ?_) <;> (try simp at hc)) | (refine wp_drawF (by kernel_rfl) ?_) | (refine wk_yldW _ ?_) | (refine layOwe _ (by kernel_rfl) ?_) | (refine owe ?_ (fun ho => ?_)) | (simp (disch := first | assumption | omega | (simp; done) | (simp; omega)) [A0, A1, A2, A9, A10, B0, B1, B2, B9, B10, B11, B12, hb2, eE, eS, hd, hv, c3, tab_get1, app_at, app_at0, -getElem?_pos, List.getElem?_cons_zero, List.getElem?_cons_succ]))
          exact Bih (Bm - 1) _ _ (by omega) ⟨i + 1, by simp [B0, B1, B2, B9, B10, B11, B12, A0, A1, A2, A9, A10, hb2, hst], by simp [B0, B1, B2, B9, B10, B11, B12, A0, A1, A2, A9, A10, hb2, hst], by simp [B0, B1, B2, B9, B10, B11, B12, A0, A1, A2, A9, A10, hb2, hst], by simp [B0, B1, B2, B9, B10, B11, B12, A0, A1, A2, A9, A10, hb2, hst], by simp [B0, B1, B2, B9, B10, B11, B12, A0, A1, A2, A9, A10, hb2, hst], by simp [B0, B1, B2, B9, B10, B11, B12, A0, A1, A2, A9, A10, hb2, hst], by simp [B0, B1, B2, B9, B10, B11, B12, A0, A1, A2, A9, A10, hb2, hst], (by simp [hb2, hst]), by omega⟩
      · obtain rfl : i = l.length := by omega
        rw [nxR_all, ← hrt] at hb2
        repeat' (first | (refine wpc_split _ (fun hc => ?_) (fun hc => ?_) <;> (try simp at hc)) | (refine ww_split _ (fun hc => ?_) (fun hc => ?_) <;> (try simp at hc)) | (refine wp_drawF (by kernel_rfl) ?_) | (refine wk_yldW _ ?_) | (refine layOwe _ (by kernel_rfl) ?_) | (refine owe ?_ (fun ho => ?_)) | (simp (disch := first | assumption | omega | (simp; done) | (simp; omega)) [A0, A1, A2, A9, A10, B0, B1, B2, B9, B10, B11, B12, hb2, -getElem?_pos, List.getElem?_cons_zero, List.getElem?_cons_succ]))
        exact Aih (Am - 1) _ _ (by omega) ⟨k + 1, X ++ [.cells (tab (N + 1) (cB at'))], by simp [B0, B1, B2, B9, B10, B11, B12, A0, A1, A2, A9, A10, hb2], by simp [B0, B1, B2, B9, B10, B11, B12, A0, A1, A2, A9, A10, hb2], by simp [B0, B1, B2, B9, B10, B11, B12, A0, A1, A2, A9, A10, hb2], by simp [B0, B1, B2, B9, B10, B11, B12, A0, A1, A2, A9, A10, hb2], by simp [B0, B1, B2, B9, B10, B11, B12, A0, A1, A2, A9, A10, hb2], (by simp [hb2]), by omega⟩
    · have h1 : ws.take k = ws := List.take_of_length_le (by omega)
      rw [h1] at hb
      repeat' (first | (refine wpc_split _ (fun hc => ?_) (fun hc => ?_) <;> (try simp at hc)) | (refine ww_split _ (fun hc => ?_) (fun hc => ?_) <;> (try simp at hc)) | (refine wp_drawF (by kernel_rfl) ?_) | (refine wk_yldW _ ?_) | (refine layOwe _ (by kernel_rfl) ?_) | (refine owe ?_ (fun ho => ?_)) | (simp (disch := first | assumption | omega | (simp; done) | (simp; omega)) [A0, A1, A2, A9, A10, hb, tab_get1, app_at, app_at0, -getElem?_pos, List.getElem?_cons_zero, List.getElem?_cons_succ]))
  · have hA : saysS n l ws = (false, checkE n l) := by unfold saysS; rw [if_neg hck]
    rw [hA]
    generalize hE : checkE n l = E at *
    refine outS_of_wp cfg (fn := Tryd.f22) Tryd.func22 rfl (by simp [Tryd.f22]) ?_
    simp (disch := first | assumption | omega | (simp; done) | (simp; omega)) [-getElem?_pos, List.getElem?_cons_zero, List.getElem?_cons_succ, Tryd.f22, hE]
    repeat' (first | (refine wpc_split _ (fun hc => ?_) (fun hc => ?_) <;> (try simp at hc)) | (refine ww_split _ (fun hc => ?_) (fun hc => ?_) <;> (try simp at hc)) | (refine wp_drawF (by kernel_rfl) ?_) | (refine wk_yldW _ ?_) | (refine layOwe _ (by kernel_rfl) ?_) | (refine owe ?_ (fun ho => ?_)) | (simp (disch := first | assumption | omega | (simp; done) | (simp; omega)) [hE, -getElem?_pos, List.getElem?_cons_zero, List.getElem?_cons_succ]))
@[simp] theorem S22 (n : Int) (l : List Edge) (ws : List (List UInt8)) (hs : l.length < 1099511627776) (hs2 : ws.length < 1099511627776) (ht : ∀ x ∈ l, x.text.length < 1099511627776) (q1 q2 : Fl) (hh : Heap) : Ci cfg (.func (.func 22) [] []) [.int .i64 n, R  q1 eE l, R  q2 eS ws] hh = some (.ret (.tuple [.bool (saysS n l ws).1, .int .i64 (saysS n l ws).2]), hh) :=
  Ci_K cfg rfl rfl (by simp) (by simp) (C22 n l ws hs hs2 ht)
end Go.Ab
