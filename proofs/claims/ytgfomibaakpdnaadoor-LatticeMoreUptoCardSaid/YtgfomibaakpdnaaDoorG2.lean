/- Layer 20 (lattice): the specification's costs, Best and Prove. -/
import Derived.Test.YtgfomibaakpdnaaDoorG1
set_option linter.unusedVariables false
set_option linter.unusedSimpArgs false
set_option linter.unusedSectionVars false
set_option linter.deprecated false
namespace Go.Ab
open Go.Proofs
set_option maxRecDepth 100000
set_option maxHeartbeats 4000000
theorem stpE_1 {l : List Edge} {far : Int} {h : Nat → Int} {v i : Nat} {s : Int × Int} : (stpE l far h v s i).1 = if (nth l i).src = v ∧ h (nth l i).dst.toNat < far then min s.1 ((nth l i).cost + h (nth l i).dst.toNat) else s.1 := by
  unfold stpE
  by_cases c : (nth l i).src = v ∧ h (nth l i).dst.toNat < far
  · rw [if_pos c]
    by_cases d : (nth l i).cost + h (nth l i).dst.toNat < s.1
    · rw [if_pos ⟨c.1, c.2, d⟩]; simp only; omega
    · rw [if_neg (fun x => d x.2.2)]; omega
  · rw [if_neg c, if_neg (fun x => c ⟨x.1, x.2.1⟩)]
/-- numbers below those of n -/
theorem tabE_in {n : Nat} {l : List Edge} {far : Int} (h0 : 0 ≤ far) (hc : ∀ x ∈ l, 0 ≤ x.cost) : ∀ (k v : Nat), 0 ≤ (tabE n l far k).1 v ∧ (tabE n l far k).1 v ≤ far
  | 0, v => ⟨Int.le_refl _, h0⟩
  | k + 1, v => by
    have ih := tabE_in (n := n) h0 hc k
    rw [tabE_1]
    split
    · obtain ⟨h1, _, h3⟩ := bestE_spec (l := l) (far := far) (h := (tabE n l far k).1) (v := n - 1 - k) l.length
      refine ⟨?_, h1⟩
      rcases h3 with h3 | ⟨_, i, hi, _, _, _, h7, _⟩
      · omega
      · have := hc _ (nth_mem hi)
        have := (ih (nth l i).dst.toNat).1
        omega
    · exact ih v
theorem bestE_in {n : Nat} {l : List Edge} {far : Int} (h0 : 0 ≤ far) (hc : ∀ x ∈ l, 0 ≤ x.cost) (k v i : Nat) : 0 ≤ (bestE l far (tabE n l far k).1 v i).1 ∧ (i ≤ l.length → (bestE l far (tabE n l far k).1 v i).1 ≤ far) := by
  obtain ⟨h1, _, h3⟩ := bestE_spec (l := l) (far := far) (h := (tabE n l far k).1) (v := v) i
  refine ⟨?_, fun _ => h1⟩
  rcases h3 with h3 | ⟨_, j, hj, _, _, _, h7, _⟩
  · omega
  · have := (tabE_in (n := n) h0 hc k (nth l j).dst.toNat).1
    have : 0 ≤ (nth l j).cost := by
      by_cases e : j < l.length
      · exact hc _ (nth_mem e)
      · simp [nth, List.getElem?_eq_none (show l.length ≤ j by omega)]; exact Int.le_refl _
    omega
@[simp] theorem idx_dst {l : List Edge} {n : Int} {i : Nat} (h : EdgesIn n.toNat l) (hi : i < l.length) (h1 : 1 ≤ n) : (nth l i).dst.toNat < n.toNat + 1 := by
  have := h i hi; omega
theorem C31 (n : Int) (l : List Edge) (hck : checkE n l = 0) : Kc cfg 31 [.int .i64 n, R fl0 eE l] (.ret (R fl0 eI (rowF (n.toNat + 1) (DE n l)))) := by
  obtain ⟨hn, hl, _⟩ := checkE_ok hck
  have hin := checkE_in hck
  have hco := edges_cost hin
  obtain ⟨hs0, hs1⟩ := checkE_sum hck
  have hs : l.length < 1099511627776 := by omega
  have hDE : DE n l = (tabE n.toNat l (sumE l + 1) n.toNat).1 := rfl
  have hT := tabE_in (n := n.toNat) (l := l) (far := sumE l + 1) (by omega) hco
  have hB := bestE_in (n := n.toNat) (l := l) (far := sumE l + 1) (by omega) hco
  obtain ⟨far, hfar⟩ : ∃ far, far = sumE l + 1 := ⟨_, rfl⟩
  rw [← hfar] at hDE hT hB
  generalize hR : rowF (n.toNat + 1) (DE n l) = RR
  obtain ⟨N, rfl⟩ : ∃ N : Nat, n = N := ⟨n.toNat, by omega⟩
  simp only [Int.toNat_natCast] at *
  refine outS_of_wp cfg (fn := Tryd.f31) Tryd.func31 rfl (by simp [Tryd.f31]) ?_
  simp (disch := first | assumption | omega | (simp; done) | (simp; omega)) [-getElem?_pos, List.getElem?_cons_zero, List.getElem?_cons_succ, Tryd.f31]
  repeat' (first | (refine wpc_split _ (fun hc => ?_) (fun hc => ?_) <;> (try simp at hc)) | (refine ww_split _ (fun hc => ?_) (fun hc => ?_) <;> (try simp at hc)) | (refine wp_drawF (by kernel_rfl) ?_) | (refine wk_yldW _ ?_) | (refine layOwe _ (by kernel_rfl) ?_) | (refine owe ?_ (fun ho => ?_)) | (simp (disch := first | assumption | omega | (simp; done) | (simp; omega)) [cI_repf, -getElem?_pos, List.getElem?_cons_zero, List.getElem?_cons_succ]))
  refine wp_loopE cfg rfl (fun f0 h0 m fr h => ∃ k : Nat, fr 0 = f0 0 ∧ fr 1 = f0 1 ∧ fr 5 = f0 5 ∧ fr 6 = .int .i64 ((N : Int) - 1 - k) ∧ (h.bs = [.cells (tab (N + 1) (cI (tabE N l far k).1))]) ∧ (k + m = N)) (N) _ _ ⟨0, rfl, rfl, rfl, by first | rfl | (simp; done) | (simp [R]; done) | simp [R], by simp [tabE, cI_rep], by first | rfl | (simp; done) | omega⟩ ?_
  rintro Am Af Ah ⟨k, A0, A1, A5, A6, hb, hm⟩ Aih
  try simp at A0 A1 A5
  by_cases hk : k < N
  · obtain ⟨v, hv⟩ : ∃ v, v = N - 1 - k := ⟨_, rfl⟩
    have hvi : (N : Int) - 1 - k = v := by omega
    have g1 : v < N + 1 := by omega
    rw [hvi] at A6
    repeat' (first | (refine wpc_split _ (fun hc => ?_) (fun hc => ?_) <;> (try simp at hc)) | (refine ww_split _ (fun hc => ?_) (fun hc => ?_) <;> (try simp at hc)) | (refine wp_drawF (by kernel_rfl) ?_) | (refine wk_yldW _ ?_) | (refine layOwe _ (by kernel_rfl) ?_) | (refine owe ?_ (fun ho => ?_)) | (simp (disch := first | assumption | omega | (simp; done) | (simp; omega)) [A0, A1, A5, A6, hb, ← hfar, tab_set, -getElem?_pos, List.getElem?_cons_zero, List.getElem?_cons_succ]))
    refine wp_loopE cfg rfl (fun f0 h0 m fr h => ∃ i : Nat, fr 0 = f0 0 ∧ fr 1 = f0 1 ∧ fr 5 = f0 5 ∧ fr 6 = f0 6 ∧ fr 7 = .int .i64 i ∧ (h.bs = [.cells (tab (N + 1) (cI (updI (tabE N l far k).1 v (bestE l far (tabE N l far k).1 v i).1)))]) ∧ (i + m = l.length)) (l.length) _ _ ⟨0, rfl, rfl, rfl, rfl, by first | rfl | (simp; done) | (simp [R]; done) | simp [R], by simp [hb, bestE_zero, tab_set], by first | rfl | (simp; done) | omega⟩ ?_
    rintro Bm Bf Bh ⟨i, B0, B1, B5, B6, B7, hb2, hm2⟩ Bih
    try simp [A0, A1, A5, A6] at B0 B1 B5 B6
    by_cases hi : i < l.length
    · have he := hin i hi
      obtain ⟨d, hd⟩ : ∃ d : Nat, d = (nth l i).dst.toNat := ⟨_, rfl⟩
      have hdi : (nth l i).dst = d := by omega
      have hd1 : d < N + 1 := by omega
      have hsp := bestE_succ l far (tabE N l far k).1 v i
      have hst := stpE_1 (l := l) (far := far) (h := (tabE N l far k).1) (v := v) (i := i) (s := bestE l far (tabE N l far k).1 v i)
      rw [← hsp, ← hd] at hst
      have t1 := hT k d
      have t2 := hB k v i
      have hco1 := (checkE_ok hck).2.2 i hi
      have hco2 := edgeOk_at hco1
      by_cases c1 : (nth l i).src = v
      · have hne : ¬ d = v := by omega
        by_cases c2 : (tabE N l far k).1 d < far
        · have c3 : (tabE N l far k).1 d ≤ sumE l := by omega
          rw [if_pos ⟨c1, c2⟩] at hst
          repeat' (first | (refine wpc_split _ (fun hc => ?_) (fun hc => ?_) <;> (try simp at hc)) | (refine ww_split _ (fun hc => ?_) (fun hc => ?_) <;> (try simp at hc)) | (refine wp_drawF (by kernel_rfl) ?_) | (refine wk_yldW _ ?_) | (refine layOwe _ (by kernel_rfl) ?_) | (refine owe ?_ (fun ho => ?_)) | (simp (disch := first | assumption | omega | (simp; done) | (simp; omega)) [B0, B1, B5, B6, B7, hb2, eE, c1, c3, hdi, tab_get1, updI_ne, tab_set, -getElem?_pos, List.getElem?_cons_zero, List.getElem?_cons_succ]))
          exact Bih (Bm - 1) _ _ (by omega) ⟨i + 1, by simp [B0, B1, B5, B6, B7, A0, A1, A5, A6, hb2], by simp [B0, B1, B5, B6, B7, A0, A1, A5, A6, hb2], by simp [B0, B1, B5, B6, B7, A0, A1, A5, A6, hb2], by simp [B0, B1, B5, B6, B7, A0, A1, A5, A6, hb2], by simp [B0, B1, B5, B6, B7, A0, A1, A5, A6, hb2], (by simp [hb2, hst]), by omega⟩
        · have c3 : ¬ (tabE N l far k).1 d ≤ sumE l := by omega
          rw [if_neg (fun x => c2 x.2)] at hst
          repeat' (first | (refine wpc_split _ (fun hc => ?_) (fun hc => ?_) <;> (try simp at hc)) | (refine ww_split _ (fun hc => ?_) (fun hc => ?_) <;> (try simp at hc)) | (refine wp_drawF (by kernel_rfl) ?_) | (refine wk_yldW _ ?_) | (refine layOwe _ (by kernel_rfl) ?_) | (refine owe ?_ (fun ho => ?_)) | (simp (disch := first | assumption | omega | (simp; done) | (simp; omega)) [B0, B1, B5, B6, B7, hb2, eE, c1, c3, hdi, tab_get1, updI_ne, -getElem?_pos, List.getElem?_cons_zero, List.getElem?_cons_succ]))
          exact Bih (Bm - 1) _ _ (by omega) ⟨i + 1, by simp [B0, B1, B5, B6, B7, A0, A1, A5, A6, hb2], by simp [B0, B1, B5, B6, B7, A0, A1, A5, A6, hb2], by simp [B0, B1, B5, B6, B7, A0, A1, A5, A6, hb2], by simp [B0, B1, B5, B6, B7, A0, A1, A5, A6, hb2], by simp [B0, B1, B5, B6, B7, A0, A1, A5, A6, hb2], (by simp [hb2, hst]), by omega⟩
      · rw [if_neg (fun x => c1 x.1)] at hst
        repeat' (first | (refine wpc_split _ (fun hc => ?_) (fun hc => ?_) <;> (try simp at hc)) | (refine ww_split _ (fun hc => ?_) (fun hc => ?_) <;> (try simp at hc)) | (refine wp_drawF (by kernel_rfl) ?_) | (refine wk_yldW _ ?_) | (refine layOwe _ (by kernel_rfl) ?_) | (refine owe ?_ (fun ho => ?_)) | (simp (disch := first | assumption | omega | (simp; done) | (simp; omega)) [B0, B1, B5, B6, B7, hb2, eE, c1, -getElem?_pos, List.getElem?_cons_zero, List.getElem?_cons_succ]))
        exact Bih (Bm - 1) _ _ (by omega) ⟨i + 1, by simp [B0, B1, B5, B6, B7, A0, A1, A5, A6, hb2], by simp [B0, B1, B5, B6, B7, A0, A1, A5, A6, hb2], by simp [B0, B1, B5, B6, B7, A0, A1, A5, A6, hb2], by simp [B0, B1, B5, B6, B7, A0, A1, A5, A6, hb2], by simp [B0, B1, B5, B6, B7, A0, A1, A5, A6, hb2], (by simp [hb2, hst]), by omega⟩
    · obtain rfl : i = l.length := by omega
      have hst : updI (tabE N l far k).1 v (bestE l far (tabE N l far k).1 v l.length).1 = (tabE N l far (k + 1)).1 := by subst hv; rfl
      have hvk : (v : Int) - 1 = (N : Int) - 1 - ((k : Int) + 1) := by omega
      repeat' (first | (refine wpc_split _ (fun hc => ?_) (fun hc => ?_) <;> (try simp at hc)) | (refine ww_split _ (fun hc => ?_) (fun hc => ?_) <;> (try simp at hc)) | (refine wp_drawF (by kernel_rfl) ?_) | (refine wk_yldW _ ?_) | (refine layOwe _ (by kernel_rfl) ?_) | (refine owe ?_ (fun ho => ?_)) | (simp (disch := first | assumption | omega | (simp; done) | (simp; omega)) [B0, B1, B5, B6, B7, hb2, -getElem?_pos, List.getElem?_cons_zero, List.getElem?_cons_succ]))
      exact Aih (Am - 1) _ _ (by omega) ⟨k + 1, by simp [B0, B1, B5, B6, B7, A0, A1, A5, A6, hb2, hvk], by simp [B0, B1, B5, B6, B7, A0, A1, A5, A6, hb2, hvk], by simp [B0, B1, B5, B6, B7, A0, A1, A5, A6, hb2, hvk], by simp [B0, B1, B5, B6, B7, A0, A1, A5, A6, hb2, hvk], (by simp [hb2, hst]), by omega⟩
  · obtain rfl : k = N := by omega
    repeat' (first | (refine wpc_split _ (fun hc => ?_) (fun hc => ?_) <;> (try simp at hc)) | (refine ww_split _ (fun hc => ?_) (fun hc => ?_) <;> (try simp at hc)) | (refine wp_drawF (by kernel_rfl) ?_) | (refine wk_yldW _ ?_) | (refine layOwe _ (by kernel_rfl) ?_) | (refine owe ?_ (fun ho => ?_)) | (simp (disch := first | assumption | omega | (simp; done) | (simp; omega)) [A0, A1, A5, A6, hb, -getElem?_pos, List.getElem?_cons_zero, List.getElem?_cons_succ]))
    rw [← hR]
    refine outS_sl (E := eI) (by simp) (by rw [hb, hDE, rowF_cI]; rfl)
@[simp] theorem S31 (n : Int) (l : List Edge) (hck : checkE n l = 0) (q1 : Fl) (hh : Heap) : Ci cfg (.func (.func 31) [] []) [.int .i64 n, R  q1 eE l] hh = some (.ret (R fl0 eI (rowF (n.toNat + 1) (DE n l))), hh) :=
  Ci_K cfg rfl rfl (by simp) (by simp) (C31 n l hck)
/-- a node on the way: its first edge -/
theorem node_first {n : Int} {l : List Edge} (hck : checkE n l = 0) {v : Nat} (hv : v < n.toNat) (hd : DE n l v ≤ sumE l) : ∃ i : Nat, i < l.length ∧ FE n l v = i ∧ (nth l i).src = v ∧ DE n l (nth l i).dst.toNat ≤ sumE l ∧ DE n l v = (nth l i).cost + DE n l (nth l i).dst.toNat ∧
    ∀ j, j < i → (nth l j).src = v → DE n l (nth l j).dst.toNat ≤ sumE l → ¬ (nth l j).cost + DE n l (nth l j).dst.toNat = DE n l v := by
  have N := nums_DE hck
  obtain ⟨_, _, h3⟩ := bestE_spec (l := l) (far := sumE l + 1) (h := DE n l) (v := v) l.length
  rw [← (N.node v hv).1, ← (N.node v hv).2] at h3
  rcases h3 with h3 | ⟨_, i, h5, h5b, h6, h6b, h7, h8⟩
  · omega
  · refine ⟨i, h5, h5b, h6, by omega, h7, fun j hj h9 h10 => ?_⟩
    have := h8 j hj h9 (by omega)
    omega
theorem C12 (n : Int) (l : List Edge) (hs : l.length < 1099511627776) (ht : ∀ x ∈ l, x.text.length < 1099511627776) : Kc cfg 12 [.int .i64 n, R fl0 eE l] (.ret (.tuple [R fl0 eI (bestS n l).1, .int .i64 (bestS n l).2.1, .bool (bestS n l).2.2.1, .int .i64 (bestS n l).2.2.2])) := by
  by_cases hck : checkE n l = 0
  · obtain ⟨hn, hl, hok⟩ := checkE_ok hck
    have hin := checkE_in hck
    have hc0 := edges_cost hin
    obtain ⟨hs0, hsum0⟩ := checkE_sum hck
    have hsum : sumE l ≤ 268435456 := by omega
    have hDb := fun v => DE_bound hck (v := v)
    have hnf := fun v => node_first hck (v := v)
    have hrow := fun v => nth_rowF (m := n.toNat + 1) (g := DE n l) (k := v)
    have hrl : (rowF (n.toNat + 1) (DE n l)).length = n.toNat + 1 := rowF_len _ _
    have hD0 := hDb 0 (Nat.zero_le _)
    have hr0 := hrow 0 (by omega)
    have S := S31 n l hck
    have hz : DE n l n.toNat = 0 := (nums_DE hck).fin
    by_cases hd : DE n l 0 ≤ sumE l
    · have hB : bestS n l = (pathE l (FE n l) n.toNat n.toNat 0, DE n l 0, true, 0) := by unfold bestS; rw [if_pos hck, if_pos hd]
      rw [hB]
      generalize hP : pathE l (FE n l) n.toNat n.toNat 0 = P
      generalize hW : rowF (n.toNat + 1) (DE n l) = W at *
      refine outS_of_wp cfg (fn := Tryd.f12) Tryd.func12 rfl (by simp [Tryd.f12]) ?_
      simp (disch := first | assumption | omega | (simp; done) | (simp; omega)) [-getElem?_pos, List.getElem?_cons_zero, List.getElem?_cons_succ, Tryd.f12, hck]
      repeat' (first | (refine wpc_split _ (fun hc => ?_) (fun hc => ?_) <;> (try simp at hc)) | (refine ww_split _ (fun hc => ?_) (fun hc => ?_) <;> (try simp at hc)) | (refine wp_drawF (by kernel_rfl) ?_) | (refine wk_yldW _ ?_) | (refine layOwe _ (by kernel_rfl) ?_) | (refine owe ?_ (fun ho => ?_)) | (simp (disch := first | assumption | omega | (simp; done) | (simp; omega)) [hck, hW, hr0, eI, -getElem?_pos, List.getElem?_cons_zero, List.getElem?_cons_succ]))
      all_goals first
        | (exfalso; omega)
        | skip
      refine wp_loopE cfg rfl (fun f0 h0 m fr h => ∃ v : Nat, ∃ k : Nat, ∃ out : List Int, ∃ fl : Fl, fr 0 = f0 0 ∧ fr 1 = f0 1 ∧ fr 9 = f0 9 ∧ fr 10 = R fl eI out ∧ fr 11 = .int .i64 v ∧ (App h.ts 1 fl) ∧ (v ≤ n.toNat ∧ n.toNat ≤ v + k) ∧ (m + v = n.toNat) ∧ (out.length ≤ v) ∧ (DE n l v ≤ sumE l) ∧ (out ++ pathE l (FE n l) n.toNat k v = P)) (n.toNat) _ _ ⟨0, n.toNat, [], (false, true, none), rfl, rfl, rfl, by first | rfl | (simp; done) | (simp [R]; done) | simp [R], by first | rfl | (simp; done) | (simp [R]; done) | simp [R], App.full _ _ _, by first | rfl | (simp; done) | omega, by first | rfl | (simp; done) | omega, by simp, hd, by simpa using hP⟩ ?_
      rintro Am Af Ah ⟨v, k, out, fl, A0, A1, A9, A10, A11, hap, hv, hm, hol, hdv, hpa⟩ Aih
      try simp at A0 A1 A9
      by_cases hvn : v < n.toNat
      · obtain ⟨i0, q1, q2, q3, q4, q5, q6⟩ := hnf v hvn hdv
        have hrv := hrow v (by omega)
        have hin0 := hin i0 q1
        obtain ⟨k', rfl⟩ : ∃ k', k = k' + 1 := ⟨k - 1, by omega⟩
        unfold pathE at hpa
        rw [if_neg (by omega), q2] at hpa
        simp only [Int.toNat_natCast] at hpa
        repeat' (first | (refine wpc_split _ (fun hc => ?_) (fun hc => ?_) <;> (try simp at hc)) | (refine ww_split _ (fun hc => ?_) (fun hc => ?_) <;> (try simp at hc)) | (refine wp_drawF (by kernel_rfl) ?_) | (refine wk_yldW _ ?_) | (refine layOwe _ (by kernel_rfl) ?_) | (refine owe ?_ (fun ho => ?_)) | (simp (disch := first | assumption | omega | (simp; done) | (simp; omega)) [A0, A1, A9, A10, A11, -getElem?_pos, List.getElem?_cons_zero, List.getElem?_cons_succ]))
        refine wp_loopE cfg rfl (fun f0 h0 m fr h => ∃ i : Nat, fr 0 = f0 0 ∧ fr 1 = f0 1 ∧ fr 9 = f0 9 ∧ fr 10 = f0 10 ∧ fr 11 = f0 11 ∧ fr 12 = .int .i64 i ∧ h.bs = h0.bs ∧ (App h.ts 1 fl) ∧ (i + m = i0)) (i0) _ _ ⟨0, rfl, rfl, rfl, rfl, rfl, by first | rfl | (simp; done) | (simp [R]; done) | simp [R], rfl, hap, by first | rfl | (simp; done) | omega⟩ ?_
        rintro Bm Bf Bh ⟨i, B0, B1, B9, B10, B11, B12, Bbs, hap2, hm2⟩ Bih
        try simp [A0, A1, A9, A10, A11] at B0 B1 B9 B10 B11 Bbs
        have hil : i < l.length := by omega
        have hii := hin i hil
        have hri := hrow (nth l i).dst.toNat (by omega)
        have hdi := hDb (nth l i).dst.toNat (by omega)
        have hco := (edgeOk_at (hok i hil)).2.2.2
        by_cases e : i = i0
        · subst e
          obtain ⟨d, hd1⟩ : ∃ d : Nat, d = (nth l i).dst.toNat := ⟨_, rfl⟩
          have hd2 : (nth l i).dst = d := by omega
          rw [hd2] at q4 q5 hri hdi hpa
          simp only [Int.toNat_natCast] at q4 q5 hri hdi hpa
          repeat' (first | (refine wpc_split _ (fun hc => ?_) (fun hc => ?_) <;> (try simp at hc)) | (refine ww_split _ (fun hc => ?_) (fun hc => ?_) <;> (try simp at hc)) | (refine wp_drawF (by kernel_rfl) ?_) | (refine wk_yldW _ ?_) | (refine layOwe _ (by kernel_rfl) ?_) | (refine owe ?_ (fun ho => ?_)) | (simp (disch := first | assumption | omega | (simp; done) | (simp; omega)) [B0, B1, B9, B10, B11, B12, Bbs, eE, eI, hri, hrv, q3, q5, hd2, fold_I1, hrl, -getElem?_pos, List.getElem?_cons_zero, List.getElem?_cons_succ]))
          all_goals first
            | (exfalso; omega)
            | exact Aih (n.toNat - d) _ _ (by omega) ⟨d, k', out ++ [(i : Int)], _, by simp [B0, B1, B9, B10, B11, B12, Bbs, A0, A1, A9, A10, A11], by simp [B0, B1, B9, B10, B11, B12, Bbs, A0, A1, A9, A10, A11], by simp [B0, B1, B9, B10, B11, B12, Bbs, A0, A1, A9, A10, A11], by simp [B0, B1, B9, B10, B11, B12, Bbs, A0, A1, A9, A10, A11], by simp [B0, B1, B9, B10, B11, B12, Bbs, A0, A1, A9, A10, A11], App.new _ _ _, by omega, by omega, (by simp; omega), q4, by simpa using hpa⟩
        · have hlt : i < i0 := by omega
          by_cases c1 : (nth l i).src = v
          · by_cases c2 : DE n l (nth l i).dst.toNat ≤ sumE l
            · have c3 := q6 i hlt c1 c2
              repeat' (first | (refine wpc_split _ (fun hc => ?_) (fun hc => ?_) <;> (try simp at hc)) | (refine ww_split _ (fun hc => ?_) (fun hc => ?_) <;> (try simp at hc)) | (refine wp_drawF (by kernel_rfl) ?_) | (refine wk_yldW _ ?_) | (refine layOwe _ (by kernel_rfl) ?_) | (refine owe ?_ (fun ho => ?_)) | (simp (disch := first | assumption | omega | (simp; done) | (simp; omega)) [B0, B1, B9, B10, B11, B12, Bbs, eE, eI, hri, hrv, c1, c2, c3, hrl, -getElem?_pos, List.getElem?_cons_zero, List.getElem?_cons_succ]))
              all_goals first
                | (exfalso; omega)
                | exact Bih (Bm - 1) _ _ (by omega) ⟨i + 1, by simp [B0, B1, B9, B10, B11, B12, Bbs, A0, A1, A9, A10, A11], by simp [B0, B1, B9, B10, B11, B12, Bbs, A0, A1, A9, A10, A11], by simp [B0, B1, B9, B10, B11, B12, Bbs, A0, A1, A9, A10, A11], by simp [B0, B1, B9, B10, B11, B12, Bbs, A0, A1, A9, A10, A11], by simp [B0, B1, B9, B10, B11, B12, Bbs, A0, A1, A9, A10, A11], by simp [B0, B1, B9, B10, B11, B12, Bbs, A0, A1, A9, A10, A11], by simp [B0, B1, B9, B10, B11, B12, Bbs, A0, A1, A9, A10, A11], by simpa using hap2, by omega⟩
            · repeat' (first | (refine wpc_split _ (fun hc => ?_) (fun hc => ?_) <;> (try simp at hc)) | (refine ww_split _ (fun hc => ?_) (fun hc => ?_) <;> (try simp at hc)) | (refine wp_drawF (by kernel_rfl) ?_) | (refine wk_yldW _ ?_) | (refine layOwe _ (by kernel_rfl) ?_) | (refine owe ?_ (fun ho => ?_)) | (simp (disch := first | assumption | omega | (simp; done) | (simp; omega)) [B0, B1, B9, B10, B11, B12, Bbs, eE, eI, hri, c1, c2, hrl, -getElem?_pos, List.getElem?_cons_zero, List.getElem?_cons_succ]))
              all_goals first
                | (exfalso; omega)
                | exact Bih (Bm - 1) _ _ (by omega) ⟨i + 1, by simp [B0, B1, B9, B10, B11, B12, Bbs, A0, A1, A9, A10, A11], by simp [B0, B1, B9, B10, B11, B12, Bbs, A0, A1, A9, A10, A11], by simp [B0, B1, B9, B10, B11, B12, Bbs, A0, A1, A9, A10, A11], by simp [B0, B1, B9, B10, B11, B12, Bbs, A0, A1, A9, A10, A11], by simp [B0, B1, B9, B10, B11, B12, Bbs, A0, A1, A9, A10, A11], by simp [B0, B1, B9, B10, B11, B12, Bbs, A0, A1, A9, A10, A11], by simp [B0, B1, B9, B10, B11, B12, Bbs, A0, A1, A9, A10, A11], by simpa using hap2, by omega⟩
          · repeat' (first | (refine wpc_split _ (fun hc => ?_) (fun hc => ?_) <;> (try simp at hc)) | (refine ww_split _ (fun hc => ?_) (fun hc => ?_) <;> (try simp at hc)) | (refine wp_drawF (by kernel_rfl) ?_) | (refine wk_yldW _ ?_) | (refine layOwe _ (by kernel_rfl) ?_) | (refine owe ?_ (fun ho => ?_)) | (simp (disch := first | assumption | omega | (simp; done) | (simp; omega)) [B0, B1, B9, B10, B11, B12, Bbs, eE, c1, -getElem?_pos, List.getElem?_cons_zero, List.getElem?_cons_succ]))
            all_goals first
              | (exfalso; omega)
              | exact Bih (Bm - 1) _ _ (by omega) ⟨i + 1, by simp [B0, B1, B9, B10, B11, B12, Bbs, A0, A1, A9, A10, A11], by simp [B0, B1, B9, B10, B11, B12, Bbs, A0, A1, A9, A10, A11], by simp [B0, B1, B9, B10, B11, B12, Bbs, A0, A1, A9, A10, A11], by simp [B0, B1, B9, B10, B11, B12, Bbs, A0, A1, A9, A10, A11], by simp [B0, B1, B9, B10, B11, B12, Bbs, A0, A1, A9, A10, A11], by simp [B0, B1, B9, B10, B11, B12, Bbs, A0, A1, A9, A10, A11], by simp [B0, B1, B9, B10, B11, B12, Bbs, A0, A1, A9, A10, A11], by simpa using hap2, by omega⟩
      · have hvn2 : v = n.toNat := by omega
        subst hvn2
        have hpn : pathE l (FE n l) n.toNat k n.toNat = [] := by cases k <;> simp [pathE]
        rw [hpn, List.append_nil] at hpa
        subst hpa
        repeat' (first | (refine wpc_split _ (fun hc => ?_) (fun hc => ?_) <;> (try simp at hc)) | (refine ww_split _ (fun hc => ?_) (fun hc => ?_) <;> (try simp at hc)) | (refine wp_drawF (by kernel_rfl) ?_) | (refine wk_yldW _ ?_) | (refine layOwe _ (by kernel_rfl) ?_) | (refine owe ?_ (fun ho => ?_)) | (simp (disch := first | assumption | omega | (simp; done) | (simp; omega)) [A0, A1, A9, A10, A11, hr0, eI, hrl, -getElem?_pos, List.getElem?_cons_zero, List.getElem?_cons_succ]))
        try rfl
    · have hB : bestS n l = ([], 0, false, 0) := by unfold bestS; rw [if_pos hck, if_neg hd]
      rw [hB]
      generalize hW : rowF (n.toNat + 1) (DE n l) = W at *
      refine outS_of_wp cfg (fn := Tryd.f12) Tryd.func12 rfl (by simp [Tryd.f12]) ?_
      simp (disch := first | assumption | omega | (simp; done) | (simp; omega)) [-getElem?_pos, List.getElem?_cons_zero, List.getElem?_cons_succ, Tryd.f12, hck]
      repeat' (first | (refine wpc_split _ (fun hc => ?_) (fun hc => ?_) <;> (try simp at hc)) | (refine ww_split _ (fun hc => ?_) (fun hc => ?_) <;> (try simp at hc)) | (refine wp_drawF (by kernel_rfl) ?_) | (refine wk_yldW _ ?_) | (refine layOwe _ (by kernel_rfl) ?_) | (refine owe ?_ (fun ho => ?_)) | (simp (disch := first | assumption | omega | (simp; done) | (simp; omega)) [hck, hW, hr0, eI, -getElem?_pos, List.getElem?_cons_zero, List.getElem?_cons_succ]))
      all_goals first
        | (exfalso; omega)
        | rfl
  · have hB : bestS n l = ([], 0, false, checkE n l) := by unfold bestS; rw [if_neg hck]
    rw [hB]
    generalize hE : checkE n l = E at *
    refine outS_of_wp cfg (fn := Tryd.f12) Tryd.func12 rfl (by simp [Tryd.f12]) ?_
    simp (disch := first | assumption | omega | (simp; done) | (simp; omega)) [-getElem?_pos, List.getElem?_cons_zero, List.getElem?_cons_succ, Tryd.f12, hE]
    repeat' (first | (refine wpc_split _ (fun hc => ?_) (fun hc => ?_) <;> (try simp at hc)) | (refine ww_split _ (fun hc => ?_) (fun hc => ?_) <;> (try simp at hc)) | (refine wp_drawF (by kernel_rfl) ?_) | (refine wk_yldW _ ?_) | (refine layOwe _ (by kernel_rfl) ?_) | (refine owe ?_ (fun ho => ?_)) | (simp (disch := first | assumption | omega | (simp; done) | (simp; omega)) [hE, -getElem?_pos, List.getElem?_cons_zero, List.getElem?_cons_succ]))
    all_goals rfl
@[simp] theorem S12 (n : Int) (l : List Edge) (hs : l.length < 1099511627776) (ht : ∀ x ∈ l, x.text.length < 1099511627776) (q1 : Fl) (hh : Heap) : Ci cfg (.func (.func 12) [] []) [.int .i64 n, R  q1 eE l] hh = some (.ret (.tuple [R fl0 eI (bestS n l).1, .int .i64 (bestS n l).2.1, .bool (bestS n l).2.2.1, .int .i64 (bestS n l).2.2.2]), hh) :=
  Ci_K cfg rfl rfl (by simp) (by simp) (C12 n l hs ht)
theorem C18 (n : Int) (l : List Edge) (hs : l.length < 1099511627776) (ht : ∀ x ∈ l, x.text.length < 1099511627776) : Kc cfg 18 [.int .i64 n, R fl0 eE l] (.ret (.tuple [R fl0 eI (proveS n l).1, .bool (proveS n l).2.1, .int .i64 (proveS n l).2.2])) := by
  by_cases hck : checkE n l = 0
  · have hin := checkE_in hck
    have hc0 := edges_cost hin
    obtain ⟨hs0, hsum0⟩ := checkE_sum hck
    have hsum : sumE l ≤ 268435456 := by omega
    have hr0 := nth_rowF (m := n.toNat + 1) (g := DE n l) (k := 0) (by omega)
    have hrl : (rowF (n.toNat + 1) (DE n l)).length = n.toNat + 1 := rowF_len _ _
    have S := S31 n l hck
    by_cases hd : DE n l 0 ≤ sumE l
    · have hB : proveS n l = (rowF (n.toNat + 1) (DE n l), true, 0) := by unfold proveS; rw [if_pos hck, if_pos hd]
      rw [hB]
      generalize hW : rowF (n.toNat + 1) (DE n l) = W at *
      refine outS_of_wp cfg (fn := Tryd.f18) Tryd.func18 rfl (by simp [Tryd.f18]) ?_
      simp (disch := first | assumption | omega | (simp; done) | (simp; omega)) [-getElem?_pos, List.getElem?_cons_zero, List.getElem?_cons_succ, Tryd.f18, hck]
      repeat' (first | (refine wpc_split _ (fun hc => ?_) (fun hc => ?_) <;> (try simp at hc)) | (refine ww_split _ (fun hc => ?_) (fun hc => ?_) <;> (try simp at hc)) | (refine wp_drawF (by kernel_rfl) ?_) | (refine wk_yldW _ ?_) | (refine layOwe _ (by kernel_rfl) ?_) | (refine owe ?_ (fun ho => ?_)) | (simp (disch := first | assumption | omega | (simp; done) | (simp; omega)) [hck, hW, hr0, eI, hrl, -getElem?_pos, List.getElem?_cons_zero, List.getElem?_cons_succ]))
      all_goals first
        | (exfalso; omega)
        | skip
    · have hB : proveS n l = ([], false, 0) := by unfold proveS; rw [if_pos hck, if_neg hd]
      rw [hB]
      generalize hW : rowF (n.toNat + 1) (DE n l) = W at *
      refine outS_of_wp cfg (fn := Tryd.f18) Tryd.func18 rfl (by simp [Tryd.f18]) ?_
      simp (disch := first | assumption | omega | (simp; done) | (simp; omega)) [-getElem?_pos, List.getElem?_cons_zero, List.getElem?_cons_succ, Tryd.f18, hck]
      repeat' (first | (refine wpc_split _ (fun hc => ?_) (fun hc => ?_) <;> (try simp at hc)) | (refine ww_split _ (fun hc => ?_) (fun hc => ?_) <;> (try simp at hc)) | (refine wp_drawF (by kernel_rfl) ?_) | (refine wk_yldW _ ?_) | (refine layOwe _ (by kernel_rfl) ?_) | (refine owe ?_ (fun ho => ?_)) | (simp (disch := first | assumption | omega | (simp; done) | (simp; omega)) [hck, hW, hr0, eI, hrl, -getElem?_pos, List.getElem?_cons_zero, List.getElem?_cons_succ]))
      all_goals first
        | (exfalso; omega)
        | rfl
  · have hB : proveS n l = ([], false, checkE n l) := by unfold proveS; rw [if_neg hck]
    rw [hB]
    generalize hE : checkE n l = E at *
    refine outS_of_wp cfg (fn := Tryd.f18) Tryd.func18 rfl (by simp [Tryd.f18]) ?_
    simp (disch := first | assumption | omega | (simp; done) | (simp; omega)) [-getElem?_pos, List.getElem?_cons_zero, List.getElem?_cons_succ, Tryd.f18, hE]
    repeat' (first | (refine wpc_split _ (fun hc => ?_) (fun hc => ?_) <;> (try simp at hc)) | (refine ww_split _ (fun hc => ?_) (fun hc => ?_) <;> (try simp at hc)) | (refine wp_drawF (by kernel_rfl) ?_) | (refine wk_yldW _ ?_) | (refine layOwe _ (by kernel_rfl) ?_) | (refine owe ?_ (fun ho => ?_)) | (simp (disch := first | assumption | omega | (simp; done) | (simp; omega)) [hE, -getElem?_pos, List.getElem?_cons_zero, List.getElem?_cons_succ]))
    all_goals rfl
@[simp] theorem S18 (n : Int) (l : List Edge) (hs : l.length < 1099511627776) (ht : ∀ x ∈ l, x.text.length < 1099511627776) (q1 : Fl) (hh : Heap) : Ci cfg (.func (.func 18) [] []) [.int .i64 n, R  q1 eE l] hh = some (.ret (.tuple [R fl0 eI (proveS n l).1, .bool (proveS n l).2.1, .int .i64 (proveS n l).2.2]), hh) :=
  Ci_K cfg rfl rfl (by simp) (by simp) (C18 n l hs ht)
end Go.Ab
