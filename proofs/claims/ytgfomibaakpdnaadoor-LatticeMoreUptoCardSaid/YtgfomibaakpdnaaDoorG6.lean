/- Layer 20 (lattice): what is accepted. -/
import Derived.Test.YtgfomibaakpdnaaDoorG5
set_option linter.unusedVariables false
set_option linter.unusedSimpArgs false
set_option linter.unusedSectionVars false
set_option linter.deprecated false
namespace Go.Ab
open Go.Proofs
set_option maxRecDepth 100000
set_option maxHeartbeats 4000000
theorem le_min {m a : Int} : ∀ {l : List Int}, m ≤ l.foldl min a ↔ m ≤ a ∧ ∀ x ∈ l, m ≤ x := by
  intro l
  induction l generalizing a with
  | nil => simp
  | cons x r ih =>
    rw [List.foldl_cons, ih]
    constructor
    · rintro ⟨h1, h2⟩
      refine ⟨by omega, fun y hy => ?_⟩
      rcases List.mem_cons.1 hy with rfl | hy
      · omega
      · exact h2 y hy
    · rintro ⟨h1, h2⟩
      have := h2 x (by simp)
      exact ⟨by omega, fun y hy => h2 y (List.mem_cons_of_mem _ hy)⟩
theorem max_le {m a : Int} : ∀ {l : List Int}, l.foldl max a ≤ m ↔ a ≤ m ∧ ∀ x ∈ l, x ≤ m := by
  intro l
  induction l generalizing a with
  | nil => simp
  | cons x r ih =>
    rw [List.foldl_cons, ih]
    constructor
    · rintro ⟨h1, h2⟩
      refine ⟨by omega, fun y hy => ?_⟩
      rcases List.mem_cons.1 hy with rfl | hy
      · omega
      · exact h2 y hy
    · rintro ⟨h1, h2⟩
      have := h2 x (by simp)
      exact ⟨by omega, fun y hy => h2 y (List.mem_cons_of_mem _ hy)⟩
section
variable {n : Int} {l : List Edge} {p h : List Int}
theorem acc_path (hp : pathP n.toNat l p 0 = false) : accE n l p h = false := by unfold accE; rw [hp]; rfl
theorem acc_len (hl : ¬ (h.length : Int) = n + 1) : accE n l p h = false := by unfold accE; rw [decide_eq_false hl]; simp
theorem acc_rng {i : Nat} (hi : i < h.length) (hb : ¬ (0 ≤ nth h i ∧ nth h i ≤ 1099511627776)) : accE n l p h = false := by
  have : h.all (fun x => decide (0 ≤ x ∧ x ≤ 1099511627776)) = false := by
    rw [← Bool.not_eq_true, List.all_eq_true]
    intro hx; exact hb (of_decide_eq_true (hx _ (nth_mem hi)))
  unfold accE; rw [this]; simp
theorem acc_edge {i : Nat} (hi : i < l.length) (hb : ¬ nth h (nth l i).src.toNat ≤ (nth l i).cost + nth h (nth l i).dst.toNat) : accE n l p h = false := by
  have : l.all (fun x => decide (nth h x.src.toNat ≤ x.cost + nth h x.dst.toNat)) = false := by
    rw [← Bool.not_eq_true, List.all_eq_true]
    intro hx; exact hb (of_decide_eq_true (hx _ (nth_mem hi)))
  unfold accE; rw [this]; simp
theorem acc_end (hp : pathP n.toNat l p 0 = true) (hl : (h.length : Int) = n + 1) (hr : ∀ i, i < h.length → 0 ≤ nth h i ∧ nth h i ≤ 1099511627776) (he : ∀ i, i < l.length → nth h (nth l i).src.toNat ≤ (nth l i).cost + nth h (nth l i).dst.toNat) :
    accE n l p h = decide (nth h 0 - nth h n.toNat = wtP l p) := by
  have h1 : h.all (fun x => decide (0 ≤ x ∧ x ≤ 1099511627776)) = true := by
    rw [List.all_eq_true]
    intro x hx
    obtain ⟨i, hi, rfl⟩ := List.mem_iff_getElem.1 hx
    rw [← nth_eq hi]; exact decide_eq_true (hr i hi)
  have h2 : l.all (fun x => decide (nth h x.src.toNat ≤ x.cost + nth h x.dst.toNat)) = true := by
    rw [List.all_eq_true]
    intro x hx
    obtain ⟨i, hi, rfl⟩ := List.mem_iff_getElem.1 hx
    rw [← nth_eq hi]; exact decide_eq_true (he i hi)
  unfold accE; rw [hp, decide_eq_true hl, h1, h2]; simp
end
theorem beq_dec (a b : Int) : (a == b) = decide (a = b) := by by_cases h : a = b <;> simp [h]
theorem C20 (n : Int) (l : List Edge) (p g : List Int) (hs : l.length < 1099511627776) (hs2 : p.length < 1099511627776 ∧ g.length < 1099511627776) (ht : ∀ x ∈ l, x.text.length < 1099511627776) : Kc cfg 20 [.int .i64 n, R fl0 eE l, R fl0 eI p, R fl0 eI g] (.ret (.tuple [.bool (accS n l p g).1, .int .i64 (accS n l p g).2])) := by
  by_cases hck : checkE n l = 0
  · have hA : accS n l p g = (accE n l p g, 0) := by unfold accS; rw [if_pos hck]
    rw [hA]
    obtain ⟨hn, hl, hok⟩ := checkE_ok hck
    have hin := checkE_in hck
    have hs3 : l.length < 1099511627776 ∧ p.length < 1099511627776 := ⟨hs, hs2.1⟩
    have hn0 : 0 ≤ n := by omega
    cases hp : pathP n.toNat l p 0 with
    | false =>
      rw [acc_path hp]
      refine outS_of_wp cfg (fn := Tryd.f20) Tryd.func20 rfl (by simp [Tryd.f20]) ?_
      simp (disch := first | assumption | omega | (simp; done) | (simp; omega)) [-getElem?_pos, List.getElem?_cons_zero, List.getElem?_cons_succ, Tryd.f20, hck, hp]
      repeat' (first | (refine wpc_split _ (fun hc => ?_) (fun hc => ?_) <;> (try simp at hc)) | (refine ww_split _ (fun hc => ?_) (fun hc => ?_) <;> (try simp at hc)) | (refine wp_drawF (by kernel_rfl) ?_) | (refine wk_yldW _ ?_) | (refine layOwe _ (by kernel_rfl) ?_) | (refine owe ?_ (fun ho => ?_)) | (simp (disch := first | assumption | omega | (simp; done) | (simp; omega)) [hck, hp, -getElem?_pos, List.getElem?_cons_zero, List.getElem?_cons_succ]))
    | true =>
      have hb := path_all hp
      have hc : ∀ x ∈ l, 0 ≤ x.cost ∧ x.cost ≤ 1048576 := by
        intro x hx
        obtain ⟨i, hi, rfl⟩ := List.mem_iff_getElem.1 hx
        have := edgeOk_at (hok i hi)
        rw [nth_eq hi] at this; omega
      by_cases hlen : (g.length : Int) = n + 1
      · generalize hE : accE n l p g = E
        refine outS_of_wp cfg (fn := Tryd.f20) Tryd.func20 rfl (by simp [Tryd.f20]) ?_
        simp (disch := first | assumption | omega | (simp; done) | (simp; omega)) [-getElem?_pos, List.getElem?_cons_zero, List.getElem?_cons_succ, Tryd.f20, hck, hp]
        repeat' (first | (refine wpc_split _ (fun hc => ?_) (fun hc => ?_) <;> (try simp at hc)) | (refine ww_split _ (fun hc => ?_) (fun hc => ?_) <;> (try simp at hc)) | (refine wp_drawF (by kernel_rfl) ?_) | (refine wk_yldW _ ?_) | (refine layOwe _ (by kernel_rfl) ?_) | (refine owe ?_ (fun ho => ?_)) | (simp (disch := first | assumption | omega | (simp; done) | (simp; omega)) [hck, hp, hlen, -getElem?_pos, List.getElem?_cons_zero, List.getElem?_cons_succ]))
        all_goals first
          | (exfalso; omega)
          | skip
        refine wp_loopE cfg rfl (fun f0 h0 m fr h => ∃ i : Nat, fr 0 = f0 0 ∧ fr 1 = f0 1 ∧ fr 2 = f0 2 ∧ fr 3 = f0 3 ∧ fr 11 = .int .i64 i ∧ (i + m = g.length) ∧ (∀ j, j < i → 0 ≤ nth g j ∧ nth g j ≤ 1099511627776)) (g.length) _ _ ⟨0, rfl, rfl, rfl, rfl, by first | rfl | (simp; done) | (simp [R]; done) | simp [R], by first | rfl | (simp; done) | omega, fun j hj => by omega⟩ ?_
        rintro Am Af Ah ⟨i, A0, A1, A2, A3, A11, hm, hr⟩ Aih
        try simp at A0 A1 A2 A3
        by_cases hi : i < g.length
        · by_cases c : 0 ≤ nth g i ∧ nth g i ≤ 1099511627776
          · repeat' (first | (refine wpc_split _ (fun hc => ?_) (fun hc => ?_) <;> (try simp at hc)) | (refine ww_split _ (fun hc => ?_) (fun hc => ?_) <;> (try simp at hc)) | (refine wp_drawF (by kernel_rfl) ?_) | (refine wk_yldW _ ?_) | (refine layOwe _ (by kernel_rfl) ?_) | (refine owe ?_ (fun ho => ?_)) | (simp (disch := first | assumption | omega | (simp; done) | (simp; omega)) [A0, A1, A2, A3, A11, eI, -getElem?_pos, List.getElem?_cons_zero, List.getElem?_cons_succ]))
            all_goals first
              | (exfalso; omega)
              | exact Aih (Am - 1) _ _ (by omega) ⟨i + 1, by simp [A0, A1, A2, A3, A11], by simp [A0, A1, A2, A3, A11], by simp [A0, A1, A2, A3, A11], by simp [A0, A1, A2, A3, A11], by simp [A0, A1, A2, A3, A11], by omega, fun j hj => by (by_cases e : j = i; (subst e; exact c); exact hr j (by omega))⟩
          · have h2 : E = false := by rw [← hE]; exact acc_rng hi c
            repeat' (first | (refine wpc_split _ (fun hc => ?_) (fun hc => ?_) <;> (try simp at hc)) | (refine ww_split _ (fun hc => ?_) (fun hc => ?_) <;> (try simp at hc)) | (refine wp_drawF (by kernel_rfl) ?_) | (refine wk_yldW _ ?_) | (refine layOwe _ (by kernel_rfl) ?_) | (refine owe ?_ (fun ho => ?_)) | (simp (disch := first | assumption | omega | (simp; done) | (simp; omega)) [A0, A1, A2, A3, A11, eI, -getElem?_pos, List.getElem?_cons_zero, List.getElem?_cons_succ]))
            all_goals first
              | (exfalso; omega)
              | rw [h2]
        · have hr2 : ∀ j, j < g.length → 0 ≤ nth g j ∧ nth g j ≤ 1099511627776 := fun j hj => hr j (by omega)
          repeat' (first | (refine wpc_split _ (fun hc => ?_) (fun hc => ?_) <;> (try simp at hc)) | (refine ww_split _ (fun hc => ?_) (fun hc => ?_) <;> (try simp at hc)) | (refine wp_drawF (by kernel_rfl) ?_) | (refine wk_yldW _ ?_) | (refine layOwe _ (by kernel_rfl) ?_) | (refine owe ?_ (fun ho => ?_)) | (simp (disch := first | assumption | omega | (simp; done) | (simp; omega)) [A0, A1, A2, A3, A11, -getElem?_pos, List.getElem?_cons_zero, List.getElem?_cons_succ]))
          all_goals first
            | (exfalso; omega)
            | skip
          refine wp_loopE cfg rfl (fun f0 h0 m fr h => ∃ i : Nat, fr 0 = f0 0 ∧ fr 1 = f0 1 ∧ fr 2 = f0 2 ∧ fr 3 = f0 3 ∧ fr 12 = .int .i64 i ∧ (i + m = l.length) ∧ (∀ j, j < i → nth g (nth l j).src.toNat ≤ (nth l j).cost + nth g (nth l j).dst.toNat)) (l.length) _ _ ⟨0, rfl, rfl, rfl, rfl, by first | rfl | (simp; done) | (simp [R]; done) | simp [R], by first | rfl | (simp; done) | omega, fun j hj => by omega⟩ ?_
          rintro Bm Bf Bh ⟨i, B0, B1, B2, B3, B12, hm2, he⟩ Bih
          try simp [A0, A1, A2, A3, A11] at B0 B1 B2 B3
          by_cases hi2 : i < l.length
          · have hii := hin i hi2
            have hco := edgeOk_at (hok i hi2)
            have b1 := hr2 (nth l i).src.toNat (by omega)
            have b2 := hr2 (nth l i).dst.toNat (by omega)
            have b3 : (nth l i).src.toNat < g.length := by omega
            have b4 : (nth l i).dst.toNat < g.length := by omega
            by_cases c : nth g (nth l i).src.toNat ≤ (nth l i).cost + nth g (nth l i).dst.toNat
            · repeat' (first | (refine wpc_split _ (fun hc => ?_) (fun hc => ?_) <;> (try simp at hc)) | (refine ww_split _ (fun hc => ?_) (fun hc => ?_) <;> (try simp at hc)) | (refine wp_drawF (by kernel_rfl) ?_) | (refine wk_yldW _ ?_) | (refine layOwe _ (by kernel_rfl) ?_) | (refine owe ?_ (fun ho => ?_)) | (simp (disch := first | assumption | omega | (simp; done) | (simp; omega)) [B0, B1, B2, B3, B12, eI, eE, -getElem?_pos, List.getElem?_cons_zero, List.getElem?_cons_succ]))
              all_goals first
                | (exfalso; omega)
                | exact Bih (Bm - 1) _ _ (by omega) ⟨i + 1, by simp [B0, B1, B2, B3, B12, A0, A1, A2, A3, A11], by simp [B0, B1, B2, B3, B12, A0, A1, A2, A3, A11], by simp [B0, B1, B2, B3, B12, A0, A1, A2, A3, A11], by simp [B0, B1, B2, B3, B12, A0, A1, A2, A3, A11], by simp [B0, B1, B2, B3, B12, A0, A1, A2, A3, A11], by omega, fun j hj => by (by_cases e : j = i; (subst e; exact c); exact he j (by omega))⟩
            · have h2 : E = false := by rw [← hE]; exact acc_edge hi2 c
              repeat' (first | (refine wpc_split _ (fun hc => ?_) (fun hc => ?_) <;> (try simp at hc)) | (refine ww_split _ (fun hc => ?_) (fun hc => ?_) <;> (try simp at hc)) | (refine wp_drawF (by kernel_rfl) ?_) | (refine wk_yldW _ ?_) | (refine layOwe _ (by kernel_rfl) ?_) | (refine owe ?_ (fun ho => ?_)) | (simp (disch := first | assumption | omega | (simp; done) | (simp; omega)) [B0, B1, B2, B3, B12, eI, eE, -getElem?_pos, List.getElem?_cons_zero, List.getElem?_cons_succ]))
              all_goals first
                | (exfalso; omega)
                | rw [h2]
          · have h2 := acc_end (h := g) hp hlen hr2 (fun j hj => he j (by omega))
            rw [hE] at h2
            have b1 := hr2 0 (by omega)
            have b2 := hr2 n.toNat (by omega)
            have b3 : 0 < g.length := by omega
            have b4 : n.toNat < g.length := by omega
            repeat' (first | (refine wpc_split _ (fun hc => ?_) (fun hc => ?_) <;> (try simp at hc)) | (refine ww_split _ (fun hc => ?_) (fun hc => ?_) <;> (try simp at hc)) | (refine wp_drawF (by kernel_rfl) ?_) | (refine wk_yldW _ ?_) | (refine layOwe _ (by kernel_rfl) ?_) | (refine owe ?_ (fun ho => ?_)) | (simp (disch := first | assumption | omega | (simp; done) | (simp; omega)) [B0, B1, B2, B3, B12, eI, beq_dec, -getElem?_pos, List.getElem?_cons_zero, List.getElem?_cons_succ]))
            rw [h2]
      · rw [acc_len hlen]
        refine outS_of_wp cfg (fn := Tryd.f20) Tryd.func20 rfl (by simp [Tryd.f20]) ?_
        simp (disch := first | assumption | omega | (simp; done) | (simp; omega)) [-getElem?_pos, List.getElem?_cons_zero, List.getElem?_cons_succ, Tryd.f20, hck, hp]
        repeat' (first | (refine wpc_split _ (fun hc => ?_) (fun hc => ?_) <;> (try simp at hc)) | (refine ww_split _ (fun hc => ?_) (fun hc => ?_) <;> (try simp at hc)) | (refine wp_drawF (by kernel_rfl) ?_) | (refine wk_yldW _ ?_) | (refine layOwe _ (by kernel_rfl) ?_) | (refine owe ?_ (fun ho => ?_)) | (simp (disch := first | assumption | omega | (simp; done) | (simp; omega)) [hck, hp, -getElem?_pos, List.getElem?_cons_zero, List.getElem?_cons_succ]))
        all_goals first
          | (exfalso; omega)
          | rfl
  · have hA : accS n l p g = (false, checkE n l) := by unfold accS; rw [if_neg hck]
    rw [hA]
    generalize hE : checkE n l = E at *
    refine outS_of_wp cfg (fn := Tryd.f20) Tryd.func20 rfl (by simp [Tryd.f20]) ?_
    simp (disch := first | assumption | omega | (simp; done) | (simp; omega)) [-getElem?_pos, List.getElem?_cons_zero, List.getElem?_cons_succ, Tryd.f20, hE]
    repeat' (first | (refine wpc_split _ (fun hc => ?_) (fun hc => ?_) <;> (try simp at hc)) | (refine ww_split _ (fun hc => ?_) (fun hc => ?_) <;> (try simp at hc)) | (refine wp_drawF (by kernel_rfl) ?_) | (refine wk_yldW _ ?_) | (refine layOwe _ (by kernel_rfl) ?_) | (refine owe ?_ (fun ho => ?_)) | (simp (disch := first | assumption | omega | (simp; done) | (simp; omega)) [hE, -getElem?_pos, List.getElem?_cons_zero, List.getElem?_cons_succ]))
@[simp] theorem S20 (n : Int) (l : List Edge) (p g : List Int) (hs : l.length < 1099511627776) (hs2 : p.length < 1099511627776 ∧ g.length < 1099511627776) (ht : ∀ x ∈ l, x.text.length < 1099511627776) (q1 q2 q3 : Fl) (hh : Heap) : Ci cfg (.func (.func 20) [] []) [.int .i64 n, R  q1 eE l, R  q2 eI p, R  q3 eI g] hh = some (.ret (.tuple [.bool (accS n l p g).1, .int .i64 (accS n l p g).2]), hh) :=
  Ci_K cfg rfl rfl (by simp) (by simp) (C20 n l p g hs hs2 ht)
theorem C19 (n : Int) (l : List Edge) (p g : List Int) (hs : l.length < 1099511627776) (hs2 : p.length < 1099511627776 ∧ g.length < 1099511627776) (ht : ∀ x ∈ l, x.text.length < 1099511627776) : Kc cfg 19 [.int .i64 n, R fl0 eE l, R fl0 eI p, R fl0 eI g] (.ret (.tuple [.bool (accS n l p g).1, .int .i64 (accS n l p g).2])) := by
  by_cases hck : checkE n l = 0
  · have hA : accS n l p g = (accE n l p g, 0) := by unfold accS; rw [if_pos hck]
    rw [hA]
    obtain ⟨hn, hl, hok⟩ := checkE_ok hck
    have hin := checkE_in hck
    have hs3 := hs2.2
    generalize hE : accE n l p g = E
    have hEp := acc_path (n := n) (l := l) (p := p) (h := g)
    have hEl := acc_len (n := n) (l := l) (p := p) (h := g)
    have hEr := fun i => acc_rng (n := n) (l := l) (p := p) (h := g) (i := i)
    have hEe := fun i => acc_edge (n := n) (l := l) (p := p) (h := g) (i := i)
    have hEn := acc_end (n := n) (l := l) (p := p) (h := g)
    rw [hE] at hEp hEl hEn
    simp only [hE] at hEr hEe
    generalize hF : pathP n.toNat l p 0 = F at *
    refine outS_of_wp cfg (fn := Tryd.f19) Tryd.func19 rfl (by simp [Tryd.f19]) ?_
    simp (disch := first | assumption | omega | (simp; done) | (simp; omega)) [-getElem?_pos, List.getElem?_cons_zero, List.getElem?_cons_succ, Tryd.f19, hck]
    repeat' (first | (refine wpc_split _ (fun hc => ?_) (fun hc => ?_) <;> (try simp at hc)) | (refine ww_split _ (fun hc => ?_) (fun hc => ?_) <;> (try simp at hc)) | (refine wp_drawF (by kernel_rfl) ?_) | (refine wk_yldW _ ?_) | (refine layOwe _ (by kernel_rfl) ?_) | (refine owe ?_ (fun ho => ?_)) | (simp (disch := first | assumption | omega | (simp; done) | (simp; omega)) [hck, -getElem?_pos, List.getElem?_cons_zero, List.getElem?_cons_succ]))
    refine wp_loopE cfg rfl (fun f0 h0 m fr h => ∃ i : Nat, ∃ v : Int, fr 0 = f0 0 ∧ fr 1 = f0 1 ∧ fr 2 = f0 2 ∧ fr 3 = f0 3 ∧ fr 22 = f0 22 ∧ fr 23 = f0 23 ∧ fr 10 = .int .i64 v ∧ fr 11 = .int .i64 (wtP l (p.take i)) ∧ fr 24 = .int .i64 i ∧ (i + m = p.length) ∧ (pathP n.toNat l (p.drop i) v = F) ∧ (0 ≤ wtP l (p.take i) ∧ wtP l (p.take i) ≤ 1048576 * i)) (p.length) _ _ ⟨0, 0, rfl, rfl, rfl, rfl, rfl, rfl, by first | rfl | (simp; done) | (simp [R]; done) | simp [R], by first | rfl | (simp; done) | (simp [R]; done) | simp [R], by first | rfl | (simp; done) | (simp [R]; done) | simp [R], by first | rfl | (simp; done) | omega, hF, by simp [wtP]⟩ ?_
    rintro Am Af Ah ⟨i, v, A0, A1, A2, A3, A22, A23, A10, A11, A24, hm, hpa, hwb⟩ Aih
    try simp at A0 A1 A2 A3 A22 A23
    by_cases hi : i < p.length
    · rw [nth_drop hi] at hpa
      simp only [pathP] at hpa
      by_cases c : 0 ≤ nth p i ∧ nth p i < l.length ∧ (nth l (nth p i).toNat).src = v
      · rw [decide_eq_true c, Bool.true_and] at hpa
        obtain ⟨c1, c2, c3⟩ := c
        have c4 : (nth p i).toNat < l.length := by omega
        have c5 := edgeOk_at (hok _ c4)
        have c6 := wtP_take (l := l) hi
        repeat' (first | (refine wpc_split _ (fun hc => ?_) (fun hc => ?_) <;> (try simp at hc)) | (refine ww_split _ (fun hc => ?_) (fun hc => ?_) <;> (try simp at hc)) | (refine wp_drawF (by kernel_rfl) ?_) | (refine wk_yldW _ ?_) | (refine layOwe _ (by kernel_rfl) ?_) | (refine owe ?_ (fun ho => ?_)) | (simp (disch := first | assumption | omega | (simp; done) | (simp; omega)) [A0, A1, A2, A3, A22, A23, A10, A11, A24, eI, eE, c3, -getElem?_pos, List.getElem?_cons_zero, List.getElem?_cons_succ]))
        all_goals first
          | (exfalso; omega)
          | exact Aih (Am - 1) _ _ (by omega) ⟨i + 1, (nth l (nth p i).toNat).dst, by simp [A0, A1, A2, A3, A22, A23, A10, A11, A24, c6], by simp [A0, A1, A2, A3, A22, A23, A10, A11, A24, c6], by simp [A0, A1, A2, A3, A22, A23, A10, A11, A24, c6], by simp [A0, A1, A2, A3, A22, A23, A10, A11, A24, c6], by simp [A0, A1, A2, A3, A22, A23, A10, A11, A24, c6], by simp [A0, A1, A2, A3, A22, A23, A10, A11, A24, c6], by simp [A0, A1, A2, A3, A22, A23, A10, A11, A24, c6], by simp [A0, A1, A2, A3, A22, A23, A10, A11, A24, c6], by simp [A0, A1, A2, A3, A22, A23, A10, A11, A24, c6], by omega, hpa, by omega⟩
      · rw [decide_eq_false c, Bool.false_and] at hpa
        have h2 := hEp hpa.symm
        by_cases c1 : 0 ≤ nth p i
        · by_cases c2 : nth p i < l.length
          · have c4 : (nth p i).toNat < l.length := by omega
            have c3 : ¬ v = (nth l (nth p i).toNat).src := fun e => c ⟨c1, c2, e.symm⟩
            have c5 : ¬ (nth l (nth p i).toNat).src = v := fun e => c ⟨c1, c2, e⟩
            repeat' (first | (refine wpc_split _ (fun hc => ?_) (fun hc => ?_) <;> (try simp at hc)) | (refine ww_split _ (fun hc => ?_) (fun hc => ?_) <;> (try simp at hc)) | (refine wp_drawF (by kernel_rfl) ?_) | (refine wk_yldW _ ?_) | (refine layOwe _ (by kernel_rfl) ?_) | (refine owe ?_ (fun ho => ?_)) | (simp (disch := first | assumption | omega | (simp; done) | (simp; omega)) [A0, A1, A2, A3, A22, A23, A10, A11, A24, eI, eE, c3, c5, -getElem?_pos, List.getElem?_cons_zero, List.getElem?_cons_succ]))
            all_goals first
              | (exfalso; omega)
              | rw [h2]
          · repeat' (first | (refine wpc_split _ (fun hc => ?_) (fun hc => ?_) <;> (try simp at hc)) | (refine ww_split _ (fun hc => ?_) (fun hc => ?_) <;> (try simp at hc)) | (refine wp_drawF (by kernel_rfl) ?_) | (refine wk_yldW _ ?_) | (refine layOwe _ (by kernel_rfl) ?_) | (refine owe ?_ (fun ho => ?_)) | (simp (disch := first | assumption | omega | (simp; done) | (simp; omega)) [A0, A1, A2, A3, A22, A23, A10, A11, A24, eI, eE, -getElem?_pos, List.getElem?_cons_zero, List.getElem?_cons_succ]))
            all_goals first
              | (exfalso; omega)
              | rw [h2]
        · repeat' (first | (refine wpc_split _ (fun hc => ?_) (fun hc => ?_) <;> (try simp at hc)) | (refine ww_split _ (fun hc => ?_) (fun hc => ?_) <;> (try simp at hc)) | (refine wp_drawF (by kernel_rfl) ?_) | (refine wk_yldW _ ?_) | (refine layOwe _ (by kernel_rfl) ?_) | (refine owe ?_ (fun ho => ?_)) | (simp (disch := first | assumption | omega | (simp; done) | (simp; omega)) [A0, A1, A2, A3, A22, A23, A10, A11, A24, eI, eE, -getElem?_pos, List.getElem?_cons_zero, List.getElem?_cons_succ]))
          all_goals first
            | (exfalso; omega)
            | rw [h2]
    · rw [List.drop_of_length_le (by omega)] at hpa
      simp only [pathP] at hpa
      have hti : p.take i = p := List.take_of_length_le (by omega)
      rw [hti] at A11 hwb
      by_cases hv : v = n
      · have hFt : F = true := by rw [← hpa]; simp; omega
        by_cases hlen : (g.length : Int) = n + 1
        · have hpos : 0 < g.length := by omega
          by_cases hmin : 0 ≤ g.foldl min (nth g 0)
          · by_cases hmax : g.foldl max (nth g 0) ≤ 1099511627776
            · have hr2 : ∀ j, j < g.length → 0 ≤ nth g j ∧ nth g j ≤ 1099511627776 := fun j hj => ⟨(le_min.1 hmin).2 _ (nth_mem hj), (max_le.1 hmax).2 _ (nth_mem hj)⟩
              repeat' (first | (refine wpc_split _ (fun hc => ?_) (fun hc => ?_) <;> (try simp at hc)) | (refine ww_split _ (fun hc => ?_) (fun hc => ?_) <;> (try simp at hc)) | (refine wp_drawF (by kernel_rfl) ?_) | (refine wk_yldW _ ?_) | (refine layOwe _ (by kernel_rfl) ?_) | (refine owe ?_ (fun ho => ?_)) | (simp (disch := first | assumption | omega | (simp; done) | (simp; omega)) [A0, A1, A2, A3, A22, A23, A10, A11, A24, hv, hlen, -getElem?_pos, List.getElem?_cons_zero, List.getElem?_cons_succ]))
              all_goals first
                | (exfalso; omega)
                | skip
              refine wp_loopE cfg rfl (fun f0 h0 m fr h => ∃ i : Nat, ∃ BX : List Blk, fr 0 = f0 0 ∧ fr 1 = f0 1 ∧ fr 2 = f0 2 ∧ fr 3 = f0 3 ∧ fr 10 = f0 10 ∧ fr 11 = f0 11 ∧ fr 78 = f0 78 ∧ fr 79 = f0 79 ∧ fr 80 = .int .i64 i ∧ h.bs = h0.bs ++ BX ∧ (i + m = l.length) ∧ (∀ j, j < i → nth g (nth l j).src.toNat ≤ (nth l j).cost + nth g (nth l j).dst.toNat)) (l.length) _ _ ⟨0, [], rfl, rfl, rfl, rfl, rfl, rfl, rfl, rfl, by first | rfl | (simp; done) | (simp [R]; done) | simp [R], by simp, by first | rfl | (simp; done) | omega, fun j hj => by omega⟩ ?_
              rintro Bm Bf Bh ⟨i, BX, B0, B1, B2, B3, B10, B11, B78, B79, B80, Bbs, hm2, he⟩ Bih
              try simp [A0, A1, A2, A3, A22, A23, A10, A11, A24] at B0 B1 B2 B3 B10 B11 B78 B79 Bbs
              by_cases hi2 : i < l.length
              · have hii := hin i hi2
                have hco := edgeOk_at (hok i hi2)
                have b1 := hr2 (nth l i).src.toNat (by omega)
                have b2 := hr2 (nth l i).dst.toNat (by omega)
                have b3 : (nth l i).src.toNat < g.length := by omega
                have b4 : (nth l i).dst.toNat < g.length := by omega
                by_cases c : nth g (nth l i).src.toNat ≤ (nth l i).cost + nth g (nth l i).dst.toNat
                · repeat' (first | (refine wpc_split _ (fun hc => ?_) (fun hc => ?_) <;> (try simp at hc)) | (refine ww_split _ (fun hc => ?_) (fun hc => ?_) <;> (try simp at hc)) | (refine wp_drawF (by kernel_rfl) ?_) | (refine wk_yldW _ ?_) | (refine layOwe _ (by kernel_rfl) ?_) | (refine owe ?_ (fun ho => ?_)) | (simp (disch := first | assumption | omega | (simp; done) | (simp; omega)) [B0, B1, B2, B3, B10, B11, B78, B79, B80, Bbs, eI, eE, -getElem?_pos, List.getElem?_cons_zero, List.getElem?_cons_succ]))
                  all_goals first
                    | (exfalso; omega)
                    | exact Bih (Bm - 1) _ _ (by omega) ⟨i + 1, BX ++ [.cells (eE (nth l i))], by simp [B0, B1, B2, B3, B10, B11, B78, B79, B80, Bbs, A0, A1, A2, A3, A22, A23, A10, A11, A24, eE], by simp [B0, B1, B2, B3, B10, B11, B78, B79, B80, Bbs, A0, A1, A2, A3, A22, A23, A10, A11, A24, eE], by simp [B0, B1, B2, B3, B10, B11, B78, B79, B80, Bbs, A0, A1, A2, A3, A22, A23, A10, A11, A24, eE], by simp [B0, B1, B2, B3, B10, B11, B78, B79, B80, Bbs, A0, A1, A2, A3, A22, A23, A10, A11, A24, eE], by simp [B0, B1, B2, B3, B10, B11, B78, B79, B80, Bbs, A0, A1, A2, A3, A22, A23, A10, A11, A24, eE], by simp [B0, B1, B2, B3, B10, B11, B78, B79, B80, Bbs, A0, A1, A2, A3, A22, A23, A10, A11, A24, eE], by simp [B0, B1, B2, B3, B10, B11, B78, B79, B80, Bbs, A0, A1, A2, A3, A22, A23, A10, A11, A24, eE], by simp [B0, B1, B2, B3, B10, B11, B78, B79, B80, Bbs, A0, A1, A2, A3, A22, A23, A10, A11, A24, eE], by simp [B0, B1, B2, B3, B10, B11, B78, B79, B80, Bbs, A0, A1, A2, A3, A22, A23, A10, A11, A24, eE], by simp [B0, B1, B2, B3, B10, B11, B78, B79, B80, Bbs, A0, A1, A2, A3, A22, A23, A10, A11, A24, eE], by omega, fun j hj => by (by_cases e : j = i; (subst e; exact c); exact he j (by omega))⟩
                · have h2 := hEe i hi2 c
                  repeat' (first | (refine wpc_split _ (fun hc => ?_) (fun hc => ?_) <;> (try simp at hc)) | (refine ww_split _ (fun hc => ?_) (fun hc => ?_) <;> (try simp at hc)) | (refine wp_drawF (by kernel_rfl) ?_) | (refine wk_yldW _ ?_) | (refine layOwe _ (by kernel_rfl) ?_) | (refine owe ?_ (fun ho => ?_)) | (simp (disch := first | assumption | omega | (simp; done) | (simp; omega)) [B0, B1, B2, B3, B10, B11, B78, B79, B80, Bbs, eI, eE, -getElem?_pos, List.getElem?_cons_zero, List.getElem?_cons_succ]))
                  all_goals first
                    | (exfalso; omega)
                    | rw [h2]
              · have h2 := hEn hFt hlen hr2 (fun j hj => he j (by omega))
                have b1 := hr2 0 (by omega)
                have b2 := hr2 n.toNat (by omega)
                have b3 : 0 < g.length := by omega
                have b4 : n.toNat < g.length := by omega
                repeat' (first | (refine wpc_split _ (fun hc => ?_) (fun hc => ?_) <;> (try simp at hc)) | (refine ww_split _ (fun hc => ?_) (fun hc => ?_) <;> (try simp at hc)) | (refine wp_drawF (by kernel_rfl) ?_) | (refine wk_yldW _ ?_) | (refine layOwe _ (by kernel_rfl) ?_) | (refine owe ?_ (fun ho => ?_)) | (simp (disch := first | assumption | omega | (simp; done) | (simp; omega)) [B0, B1, B2, B3, B10, B11, B78, B79, B80, Bbs, eI, beq_dec, -getElem?_pos, List.getElem?_cons_zero, List.getElem?_cons_succ]))
                rw [h2]
            · have h2 : E = false := by
                by_cases hx : ∃ j, j < g.length ∧ ¬ (0 ≤ nth g j ∧ nth g j ≤ 1099511627776)
                · obtain ⟨j, hj, hx⟩ := hx; exact hEr j hj hx
                · exfalso
                  apply hmax
                  rw [max_le]
                  have key : ∀ x ∈ g, x ≤ 1099511627776 := by
                    intro x hxm
                    obtain ⟨j, hj, rfl⟩ := List.mem_iff_getElem.1 hxm
                    rw [← nth_eq hj]
                    apply Decidable.byContradiction
                    intro hno
                    exact hx ⟨j, hj, fun e => hno e.2⟩
                  exact ⟨key _ (nth_mem hpos), key⟩
              repeat' (first | (refine wpc_split _ (fun hc => ?_) (fun hc => ?_) <;> (try simp at hc)) | (refine ww_split _ (fun hc => ?_) (fun hc => ?_) <;> (try simp at hc)) | (refine wp_drawF (by kernel_rfl) ?_) | (refine wk_yldW _ ?_) | (refine layOwe _ (by kernel_rfl) ?_) | (refine owe ?_ (fun ho => ?_)) | (simp (disch := first | assumption | omega | (simp; done) | (simp; omega)) [A0, A1, A2, A3, A22, A23, A10, A11, A24, hv, hlen, -getElem?_pos, List.getElem?_cons_zero, List.getElem?_cons_succ]))
              all_goals first
                | (exfalso; omega)
                | rw [h2]
          · have h2 : E = false := by
              by_cases hx : ∃ j, j < g.length ∧ ¬ (0 ≤ nth g j ∧ nth g j ≤ 1099511627776)
              · obtain ⟨j, hj, hx⟩ := hx; exact hEr j hj hx
              · exfalso
                apply hmin
                rw [le_min]
                have key : ∀ x ∈ g, 0 ≤ x := by
                  intro x hxm
                  obtain ⟨j, hj, rfl⟩ := List.mem_iff_getElem.1 hxm
                  rw [← nth_eq hj]
                  apply Decidable.byContradiction
                  intro hno
                  exact hx ⟨j, hj, fun e => hno e.1⟩
                exact ⟨key _ (nth_mem hpos), key⟩
            repeat' (first | (refine wpc_split _ (fun hc => ?_) (fun hc => ?_) <;> (try simp at hc)) | (refine ww_split _ (fun hc => ?_) (fun hc => ?_) <;> (try simp at hc)) | (refine wp_drawF (by kernel_rfl) ?_) | (refine wk_yldW _ ?_) | (refine layOwe _ (by kernel_rfl) ?_) | (refine owe ?_ (fun ho => ?_)) | (simp (disch := first | assumption | omega | (simp; done) | (simp; omega)) [A0, A1, A2, A3, A22, A23, A10, A11, A24, hv, hlen, -getElem?_pos, List.getElem?_cons_zero, List.getElem?_cons_succ]))
            all_goals first
              | (exfalso; omega)
              | rw [h2]
        · have h2 := hEl hlen
          repeat' (first | (refine wpc_split _ (fun hc => ?_) (fun hc => ?_) <;> (try simp at hc)) | (refine ww_split _ (fun hc => ?_) (fun hc => ?_) <;> (try simp at hc)) | (refine wp_drawF (by kernel_rfl) ?_) | (refine wk_yldW _ ?_) | (refine layOwe _ (by kernel_rfl) ?_) | (refine owe ?_ (fun ho => ?_)) | (simp (disch := first | assumption | omega | (simp; done) | (simp; omega)) [A0, A1, A2, A3, A22, A23, A10, A11, A24, hv, -getElem?_pos, List.getElem?_cons_zero, List.getElem?_cons_succ]))
          all_goals first
            | (exfalso; omega)
            | rw [h2]
      · have h2 := hEp (by rw [← hpa]; simp; omega)
        repeat' (first | (refine wpc_split _ (fun hc => ?_) (fun hc => ?_) <;> (try simp at hc)) | (refine ww_split _ (fun hc => ?_) (fun hc => ?_) <;> (try simp at hc)) | (refine wp_drawF (by kernel_rfl) ?_) | (refine wk_yldW _ ?_) | (refine layOwe _ (by kernel_rfl) ?_) | (refine owe ?_ (fun ho => ?_)) | (simp (disch := first | assumption | omega | (simp; done) | (simp; omega)) [A0, A1, A2, A3, A22, A23, A10, A11, A24, -getElem?_pos, List.getElem?_cons_zero, List.getElem?_cons_succ]))
        all_goals first
          | (exfalso; omega)
          | rw [h2]
  · have hA : accS n l p g = (false, checkE n l) := by unfold accS; rw [if_neg hck]
    rw [hA]
    generalize hE : checkE n l = E at *
    refine outS_of_wp cfg (fn := Tryd.f19) Tryd.func19 rfl (by simp [Tryd.f19]) ?_
    simp (disch := first | assumption | omega | (simp; done) | (simp; omega)) [-getElem?_pos, List.getElem?_cons_zero, List.getElem?_cons_succ, Tryd.f19, hE]
    repeat' (first | (refine wpc_split _ (fun hc => ?_) (fun hc => ?_) <;> (try simp at hc)) | (refine ww_split _ (fun hc => ?_) (fun hc => ?_) <;> (try simp at hc)) | (refine wp_drawF (by kernel_rfl) ?_) | (refine wk_yldW _ ?_) | (refine layOwe _ (by kernel_rfl) ?_) | (refine owe ?_ (fun ho => ?_)) | (simp (disch := first | assumption | omega | (simp; done) | (simp; omega)) [hE, -getElem?_pos, List.getElem?_cons_zero, List.getElem?_cons_succ]))
@[simp] theorem S19 (n : Int) (l : List Edge) (p g : List Int) (hs : l.length < 1099511627776) (hs2 : p.length < 1099511627776 ∧ g.length < 1099511627776) (ht : ∀ x ∈ l, x.text.length < 1099511627776) (q1 q2 q3 : Fl) (hh : Heap) : Ci cfg (.func (.func 19) [] []) [.int .i64 n, R  q1 eE l, R  q2 eI p, R  q3 eI g] hh = some (.ret (.tuple [.bool (accS n l p g).1, .int .i64 (accS n l p g).2]), hh) :=
  Ci_K cfg rfl rfl (by simp) (by simp) (C19 n l p g hs hs2 ht)
end Go.Ab
