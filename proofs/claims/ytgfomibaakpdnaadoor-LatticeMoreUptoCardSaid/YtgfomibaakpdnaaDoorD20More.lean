/- LatticeMore: the law. -/
import Derived.Test.YtgfomibaakpdnaaDoorD20
set_option linter.unusedVariables false
set_option linter.unusedSimpArgs false
set_option linter.unusedSectionVars false
set_option linter.deprecated false
namespace Go.Ab
open Go.Proofs
set_option maxRecDepth 100000
set_option maxHeartbeats 8000000
theorem app_any {h : Heap} {fl : Fl} {l m : List Edge} (ha : App h.ts 4 fl) (hl : l.length + m.length ≤ 4294967296) :
    ∃ F H, (∀ fl2, appendV Tryd.prog h false #[22, 22] (R fl eE l) (R fl2 eE m) = some (R F eE (l ++ m), H)) ∧ App H.ts 4 F ∧ H.bs = h.bs := by
  obtain ⟨b, hb1, hb2⟩ := apok_apz (P := Tryd.prog) (ts := #[22, 22]) (sz := 4) (by kernel_rfl)
  by_cases hm : m = []
  · subst hm
    refine ⟨fl, h, fun fl2 => ?_, ha, rfl⟩
    rw [List.append_nil]
    exact append_R_nil hb1 (by simpa using hl) hb2
  · exact ⟨_, _, fun fl2 => append_R hb1 hm ha hl hb2, App.new _ _ _, rfl⟩
theorem rowsE_cost {l : List Edge} {q : Nat} (h : q < l.length) : List.take 1 (List.drop (q * 4 + 2) (rows eE l)) = [.int .i64 (nth l q).cost] := by
  rw [← List.drop_drop, rows_drop, nth_drop h, rows_cons]; rfl
theorem rowsE_set {l : List Edge} {q : Nat} {c : Int} (h : q < l.length) : (rows eE l).set (q * 4 + 2) (.int .i64 c) = rows eE (lowE l q c) := by
  have hlen : (rows eE (l.take q)).length = q * 4 := by rw [rows_length, List.length_take, Nat.min_eq_left (by omega)]
  have e1 : rows eE l = rows eE (l.take q) ++ (eE (nth l q) ++ rows eE (l.drop (q + 1))) := by
    have := congrArg (rows eE) (List.take_append_drop q l)
    rw [← this, rows_append, nth_drop h, rows_cons]
  have e2 : rows eE (lowE l q c) = rows eE (l.take q) ++ (eE { nth l q with cost := c } ++ rows eE (l.drop (q + 1))) := by
    unfold lowE; rw [List.set_eq_take_append_cons_drop, if_pos h, rows_append, rows_cons]
  rw [e1, e2, ← hlen, List.set_append_right _ _ (by omega), show (rows eE (l.take q)).length + 2 - (rows eE (l.take q)).length = 2 by omega]
  rfl
theorem nth_map' {f : Int → Int} {l : List Int} {i : Nat} (h : i < l.length) : nth (l.map f) i = f (nth l i) := by
  rw [nth_eq (by simpa using h), nth_eq h]; simp
theorem handV_IS {α : Type} {E : α → List V} {sz : Nat} [EncP E] [hE : EncC E sz] {h : Heap} {a n : Nat} {x : Int} {L : List α} (hb : h.bs[a]? = some (.cells (rows E L))) (hn : n = L.length) :
    handV h [.int .i64 x, .slice a 0 n sz] = some ([.int .i64 x, R fl0 E L], freezeB h a) := by
  obtain ⟨h1, h2⟩ := sl_pure hn hb
  unfold handV
  rw [if_neg (by simp [V.closed.closedL, V.closed])]
  have hr : [V.int .i64 x, V.slice a 0 n sz].flatMap (reachN h 8) = [a] := by
    rw [List.flatMap_cons]
    exact h1
  rw [hr]
  have p1 : pureN (freezeAll h [a]) 8 (V.int .i64 x) = some (.int .i64 x) := rfl
  have p2 : pureN (freezeAll h [a]) 8 (V.slice a 0 n sz) = some (R fl0 E L) := h2
  simp only [pure1.mapO, p1, p2]
  rfl
theorem C8 (n : Int) (l : List Edge) (x : Edge) (p c : Int) (hs : l.length < 1048577) (ht : ∀ x ∈ l, x.text.length < 1099511627776) (hx : x.text.length < 1099511627776) (hp : 0 ≤ p ∧ p ≤ 255) : Kc cfg 8 [.int .i64 n, R fl0 eE l, .agg [.int .i64 x.src, .int .i64 x.dst, .int .i64 x.cost, .str x.text], .int .u8 p, .int .i64 c] (.ret (.bool true)) := by
  have hs1 : l.length < 1099511627776 := by omega
  have hnl : V.row false true [] 0 none = R (false, true, none) eE [] := rfl
  have hf1 : V.row false true [.int .i64 x.src, .int .i64 x.dst, .int .i64 x.cost, .str x.text] 1 none = R (false, true, none) eE [x] := rfl
  cases hr : rightE n l with
  | false =>
    refine outS_of_wp cfg (fn := Tryd.f8) Tryd.func8 rfl (by simp [Tryd.f8]) ?_
    simp (disch := first | assumption | omega | (simp; done) | (simp; omega)) [-getElem?_pos, List.getElem?_cons_zero, List.getElem?_cons_succ, Tryd.f8, hr, emptyH]
    repeat' (first | (refine wpc_split _ (fun hc => ?_) (fun hc => ?_) <;> (try simp at hc)) | (refine ww_split _ (fun hc => ?_) (fun hc => ?_) <;> (try simp at hc)) | (refine wp_drawF (by kernel_rfl) ?_) | (refine wk_yldW _ ?_) | (refine layOwe _ (by kernel_rfl) ?_) | (refine owe ?_ (fun ho => ?_)) | (simp (disch := first | assumption | omega | (simp; done) | (simp; omega)) [hr, emptyH, -getElem?_pos, List.getElem?_cons_zero, List.getElem?_cons_succ]))
  | true =>
    obtain ⟨hl30, hck⟩ := rightE_ok hr
    have hbl := best_len n l
    have hs2 : (l ++ [x]).length < 1099511627776 := by simp; omega
    have ht2 : ∀ y ∈ l ++ [x], y.text.length < 1099511627776 := by
      intro y hy
      rcases List.mem_append.1 hy with h | h
      · exact ht y h
      · simp at h; subst h; exact hx
    have S1 := S23 n (l ++ [x]) hs2 ht2
    have S2 := S11 n (l ++ [x]) hs2 ht2
    obtain ⟨F1, H1, e1, a1, b1⟩ := app_any (h := ⟨[.cells (eE x)], []⟩) (fl := (false, true, none)) (l := []) (m := l) (App.full _ _ _) (by simp; omega)
    obtain ⟨F2, H2, e2, a2, b2⟩ := app_any (h := H1) (fl := F1) (l := l) (m := [x]) a1 (by simp; omega)
    rw [List.nil_append] at e1
    rw [b1] at b2
    simp only [eE] at e1 b1 b2
    have hB0 : (bestS n l).2.2.2 = 0 := by
      by_cases hd : DE n l 0 ≤ sumE l
      · rw [best_yes hck hd]
      · rw [best_no hck hd]
    have hmore : rightE n (l ++ [x]) = true → (bestS n (l ++ [x])).2.2.2 = 0 ∧ ((bestS n l).2.2.1 = true → (bestS n (l ++ [x])).2.2.1 = true ∧ (bestS n (l ++ [x])).2.1 ≤ (bestS n l).2.1) := by
      intro h
      have hck2 := (rightE_ok h).2
      by_cases hd2 : DE n (l ++ [x]) 0 ≤ sumE (l ++ [x])
      · rw [best_yes hck2 hd2]
        refine ⟨rfl, fun hok => ?_⟩
        by_cases hd : DE n l 0 ≤ sumE l
        · rw [best_yes hck hd]; exact ⟨rfl, (more_cost hck hck2 hd).2⟩
        · rw [best_no hck hd] at hok; cases hok
      · rw [best_no hck2 hd2]
        refine ⟨rfl, fun hok => ?_⟩
        by_cases hd : DE n l 0 ≤ sumE l
        · exact absurd (more_cost hck hck2 hd).1 hd2
        · rw [best_no hck hd] at hok; cases hok
    have hBl : ∀ y ∈ (bestS n l).1, 0 ≤ y ∧ y < (l.length : Int) := by
      by_cases hd : DE n l 0 ≤ sumE l
      · rw [best_yes hck hd]; exact path_all (best_ok hck hd).1
      · rw [best_no hck hd]; simp
    by_cases hl0 : l.length = 0
    · cases hm : rightE n (l ++ [x]) with
      | false =>
        refine outS_of_wp cfg (fn := Tryd.f8) Tryd.func8 rfl (by simp [Tryd.f8]) ?_
        simp (disch := first | assumption | omega | (simp; done) | (simp; omega)) [-getElem?_pos, List.getElem?_cons_zero, List.getElem?_cons_succ, Tryd.f8, hr, emptyH, hB0]
        repeat' (first | (refine wpc_split _ (fun hc => ?_) (fun hc => ?_) <;> (try simp at hc)) | (refine ww_split _ (fun hc => ?_) (fun hc => ?_) <;> (try simp at hc)) | (refine wp_drawF (by kernel_rfl) ?_) | (refine wk_yldW _ ?_) | (refine layOwe _ (by kernel_rfl) ?_) | (refine owe ?_ (fun ho => ?_)) | (simp (disch := first | assumption | omega | (simp; done) | (simp; omega)) [hr, emptyH, hB0, hnl, hf1, e1, e2, b1, b2, S1, hm, hl0, -getElem?_pos, List.getElem?_cons_zero, List.getElem?_cons_succ]))
      | true =>
        obtain ⟨m1, m2⟩ := hmore hm
        generalize hBB : bestS n l = BB at *
        generalize hBM : bestS n (l ++ [x]) = BM at *
        cases hok : BB.2.2.1 with
        | false =>
          refine outS_of_wp cfg (fn := Tryd.f8) Tryd.func8 rfl (by simp [Tryd.f8]) ?_
          simp (disch := first | assumption | omega | (simp; done) | (simp; omega)) [-getElem?_pos, List.getElem?_cons_zero, List.getElem?_cons_succ, Tryd.f8, hr, emptyH, hBB, hB0]
          repeat' (first | (refine wpc_split _ (fun hc => ?_) (fun hc => ?_) <;> (try simp at hc)) | (refine ww_split _ (fun hc => ?_) (fun hc => ?_) <;> (try simp at hc)) | (refine wp_drawF (by kernel_rfl) ?_) | (refine wk_yldW _ ?_) | (refine layOwe _ (by kernel_rfl) ?_) | (refine owe ?_ (fun ho => ?_)) | (simp (disch := first | assumption | omega | (simp; done) | (simp; omega)) [hr, emptyH, hBB, hBM, hB0, hnl, hf1, e1, e2, b1, b2, S1, S2, hm, m1, hok, hl0, -getElem?_pos, List.getElem?_cons_zero, List.getElem?_cons_succ]))
        | true =>
          obtain ⟨m3, m4⟩ := m2 hok
          refine outS_of_wp cfg (fn := Tryd.f8) Tryd.func8 rfl (by simp [Tryd.f8]) ?_
          simp (disch := first | assumption | omega | (simp; done) | (simp; omega)) [-getElem?_pos, List.getElem?_cons_zero, List.getElem?_cons_succ, Tryd.f8, hr, emptyH, hBB, hB0]
          repeat' (first | (refine wpc_split _ (fun hc => ?_) (fun hc => ?_) <;> (try simp at hc)) | (refine ww_split _ (fun hc => ?_) (fun hc => ?_) <;> (try simp at hc)) | (refine wp_drawF (by kernel_rfl) ?_) | (refine wk_yldW _ ?_) | (refine layOwe _ (by kernel_rfl) ?_) | (refine owe ?_ (fun ho => ?_)) | (simp (disch := first | assumption | omega | (simp; done) | (simp; omega)) [hr, emptyH, hBB, hBM, hB0, hnl, hf1, e1, e2, b1, b2, S1, S2, hm, m1, hok, m3, hl0, -getElem?_pos, List.getElem?_cons_zero, List.getElem?_cons_succ]))
          all_goals first | rfl | (exfalso; omega)
    have hpos : 0 < l.length := by omega
    have hl1 : ¬ l = [] := fun e => hl0 (by rw [e]; rfl)
    have hmod := tmod_nat (k := l.length) hp.1
    have hmod2 : p % (l.length : Int) = ((p.toNat % l.length : Nat) : Int) := by rw [← hmod, Int.tmod_eq_emod_of_nonneg hp.1]
    have hql := Nat.mod_lt p.toNat hpos
    have hz : ¬ (l.length : Int) = 0 := by omega
    generalize hqq : p.toNat % l.length = q at *
    have hout := out_ok hck hql
    have hlo : ∀ c, 0 ≤ c → c ≤ (nth l q).cost → (bestS n (lowE l q c)).2.2.2 = 0 ∧ (bestS n (lowE l q c)).2.2.1 = (bestS n l).2.2.1 ∧ (bestS n (lowE l q c)).2.1 ≤ (bestS n l).2.1 := by
      intro c h0 h1
      have hck3 := lowE_check hck hql h0 h1
      obtain ⟨k1, k2⟩ := low_ok hck hql h0 h1
      by_cases hd : DE n l 0 ≤ sumE l
      · rw [best_yes hck hd, best_yes hck3 (k1.2 hd)]; exact ⟨rfl, rfl, k2 hd⟩
      · rw [best_no hck hd, best_no hck3 (fun e => hd (k1.1 e))]; exact ⟨rfl, rfl, Int.le_refl _⟩
    have hapB : ∀ h fl2, appendV Tryd.prog h true #[22, 22] (R (false, true, none) eE []) (R fl2 eE l) = some (.slice h.bs.length 0 l.length 4, newB h (.cells (rows eE l))) := fun h fl2 => by
      have := append_Bn (P := Tryd.prog) (E := eE) (h := h) (fl := (false, true, none)) (l := ([] : List Edge)) (m := l) (ts := #[22, 22]) (fl2 := fl2) (by kernel_rfl) hl1 rfl (by simp; omega)
      simpa using this
    have hrc := rowsE_cost hql
    have hlow : ∀ ts b0, Ci cfg (.func (.func 11) [] []) [.int .i64 n, .slice 1 0 l.length 4] ⟨[b0, .cells (rows eE (lowE l q c))], ts⟩ = some (.ret (.tuple [R fl0 eI (bestS n (lowE l q c)).1, .int .i64 (bestS n (lowE l q c)).2.1, .bool (bestS n (lowE l q c)).2.2.1, .int .i64 (bestS n (lowE l q c)).2.2.2]), freezeB ⟨[b0, .cells (rows eE (lowE l q c))], ts⟩ 1) := fun ts b0 =>
      Ci_K2 cfg rfl rfl (handV_IS (E := eE) (a := 1) rfl (by simp [lowE])) (C11 n (lowE l q c) (by simp [lowE]; omega) (fun y hy => by
        obtain ⟨i, hi, rfl⟩ := List.mem_iff_getElem.1 hy
        have h1 : i < l.length := by simpa [lowE] using hi
        rw [← nth_eq hi, lowE_nth hql]
        split
        · exact (ht (nth l q) (nth_mem hql) : (nth l q).text.length < 1099511627776)
        · exact ht _ (nth_mem h1)))
    have hSo := S11 n (outE l q) (by rw [outE_len hql]; omega) (fun y hy => by
      unfold outE at hy
      rcases List.mem_append.1 hy with h | h
      · exact ht y (List.mem_of_mem_take h)
      · exact ht y (List.mem_of_mem_drop h))
    have hrs := rowsE_set (c := c) hql
    have hrl := rows_length (E := eE) l
    have hlc := hlo c
    generalize hBB : bestS n l = BB at *
    generalize hBM : bestS n (l ++ [x]) = BM at *
    generalize hBL : bestS n (lowE l q c) = BL at *
    obtain ⟨mode, hmode⟩ : ∃ mode : Nat, (mode = 0 ∧ rightE n (l ++ [x]) = false) ∨ (mode = 1 ∧ rightE n (l ++ [x]) = true ∧ BM.2.2.2 = 0 ∧ BB.2.2.1 = false) ∨ (mode = 2 ∧ rightE n (l ++ [x]) = true ∧ BM.2.2.2 = 0 ∧ BB.2.2.1 = true ∧ BM.2.2.1 = true ∧ BM.2.1 ≤ BB.2.1) := by
      cases hm : rightE n (l ++ [x]) with
      | false => exact ⟨0, .inl ⟨rfl, rfl⟩⟩
      | true =>
        obtain ⟨m1, m2⟩ := hmore hm
        cases hok : BB.2.2.1 with
        | false => exact ⟨1, .inr (.inl ⟨rfl, rfl, m1, rfl⟩)⟩
        | true => exact ⟨2, .inr (.inr ⟨rfl, rfl, m1, rfl, m2 hok⟩)⟩
    clear hmore S1 S2
    have S1 := S23 n (l ++ [x]) hs2 ht2
    have S2 := S11 n (l ++ [x]) hs2 ht2
    rw [hBM] at S2
    by_cases hcc : 0 ≤ c ∧ c ≤ (nth l q).cost
    · obtain ⟨k1, k2, k3⟩ := hlc hcc.1 hcc.2
      rcases hmode with ⟨_, hm⟩ | ⟨_, hm, m1, hok⟩ | ⟨_, hm, m1, hok, m3, m4⟩
      · skip
        refine outS_of_wp cfg (fn := Tryd.f8) Tryd.func8 rfl (by simp [Tryd.f8]) ?_
        simp (config := { maxSteps := 2000000 }) (disch := first | assumption | omega | (simp; done) | (simp; omega)) [-getElem?_pos, List.getElem?_cons_zero, List.getElem?_cons_succ, Tryd.f8, hr, emptyH, hBB, hB0]
        repeat' (first | (refine wpc_split _ (fun hc => ?_) (fun hc => ?_) <;> (try simp at hc)) | (refine ww_split _ (fun hc => ?_) (fun hc => ?_) <;> (try simp at hc)) | (refine wp_drawF (by kernel_rfl) ?_) | (refine wk_yldW _ ?_) | (refine layOwe _ (by kernel_rfl) ?_) | (refine owe ?_ (fun ho => ?_)) | (simp (config := { maxSteps := 2000000 }) (disch := first | assumption | omega | (simp; done) | (simp; omega)) [hr, emptyH, hBB, hB0, hnl, hf1, e1, e2, b1, b2, S1, hm, hmod, hmod2, hz, hapB, hrc, eE, hrs, hrl, hlow, k1, k2, -getElem?_pos, List.getElem?_cons_zero, List.getElem?_cons_succ]))
        all_goals first
          | (exfalso; omega)
          | skip
        refine wp_loopE cfg rfl (fun f0 h0 m fr h => ∃ i : Nat, fr 0 = f0 0 ∧ fr 1 = f0 1 ∧ fr 11 = f0 11 ∧ fr 12 = f0 12 ∧ fr 13 = f0 13 ∧ fr 20 = f0 20 ∧ fr 128 = f0 128 ∧ fr 129 = f0 129 ∧ fr 130 = .int .i64 i ∧ (i + m = BB.1.length) ∧ (∀ j, j < i → ¬ nth BB.1 j = (q : Int))) (BB.1.length) _ _ ⟨0, rfl, rfl, rfl, rfl, rfl, rfl, rfl, rfl, by first | rfl | (simp; done) | (simp [R]; done) | simp [R], by first | rfl | (simp; done) | omega, fun j hj => by omega⟩ ?_
        rintro Am Af Ah ⟨i, A0, A1, A11, A12, A13, A20, A128, A129, A130, hm9, hne⟩ Aih
        try simp at A0 A1 A11 A12 A13 A20 A128 A129
        by_cases hi : i < BB.1.length
        · by_cases hy : nth BB.1 i = (q : Int)
          · repeat' (first | (refine wpc_split _ (fun hc => ?_) (fun hc => ?_) <;> (try simp at hc)) | (refine ww_split _ (fun hc => ?_) (fun hc => ?_) <;> (try simp at hc)) | (refine wp_drawF (by kernel_rfl) ?_) | (refine wk_yldW _ ?_) | (refine layOwe _ (by kernel_rfl) ?_) | (refine owe ?_ (fun ho => ?_)) | (simp (disch := first | assumption | omega | (simp; done) | (simp; omega)) [A0, A1, A11, A12, A13, A20, A128, A129, A130, eI, hy, -getElem?_pos, List.getElem?_cons_zero, List.getElem?_cons_succ]))
          · have hy2 : (nth BB.1 i == (q : Int)) = false := by rw [beq_eq_false_iff_ne]; exact hy
            repeat' (first | (refine wpc_split _ (fun hc => ?_) (fun hc => ?_) <;> (try simp at hc)) | (refine ww_split _ (fun hc => ?_) (fun hc => ?_) <;> (try simp at hc)) | (refine wp_drawF (by kernel_rfl) ?_) | (refine wk_yldW _ ?_) | (refine layOwe _ (by kernel_rfl) ?_) | (refine owe ?_ (fun ho => ?_)) | (simp (disch := first | assumption | omega | (simp; done) | (simp; omega)) [A0, A1, A11, A12, A13, A20, A128, A129, A130, eI, hy2, -getElem?_pos, List.getElem?_cons_zero, List.getElem?_cons_succ]))
            exact Aih (Am - 1) _ _ (by omega) ⟨i + 1, by simp [A0, A1, A11, A12, A13, A20, A128, A129, A130], by simp [A0, A1, A11, A12, A13, A20, A128, A129, A130], by simp [A0, A1, A11, A12, A13, A20, A128, A129, A130], by simp [A0, A1, A11, A12, A13, A20, A128, A129, A130], by simp [A0, A1, A11, A12, A13, A20, A128, A129, A130], by simp [A0, A1, A11, A12, A13, A20, A128, A129, A130], by simp [A0, A1, A11, A12, A13, A20, A128, A129, A130], by simp [A0, A1, A11, A12, A13, A20, A128, A129, A130], by simp [A0, A1, A11, A12, A13, A20, A128, A129, A130], by omega, fun j hj => by (by_cases e : j = i; (subst e; exact hy); exact hne j (by omega))⟩
        have hno : ∀ y ∈ BB.1, ¬ y = (q : Int) := by
          intro y hy
          obtain ⟨j, hj, rfl⟩ := List.mem_iff_getElem.1 hy
          rw [← nth_eq hj]; exact hne j (by omega)
        have hO := hout hno
        obtain ⟨F3, H3, e3, a3, b3⟩ := app_any (h := Ah) (fl := (false, true, none)) (l := []) (m := l.take q) (App.full _ _ _) (by simp; omega)
        obtain ⟨F4, H4, e4, a4, b4⟩ := app_any (h := H3) (fl := F3) (l := l.take q) (m := l.drop (q + 1)) a3 (by simp; omega)
        rw [List.nil_append] at e3
        have e4' : ∀ fl2, appendV Tryd.prog H3 false #[22, 22] (R F3 eE (l.take q)) (R fl2 eE (l.drop (q + 1))) = some (R F4 eE (outE l q), H4) := e4
        rw [hO] at hSo
        simp only at hSo
        repeat' (first | (refine wpc_split _ (fun hc => ?_) (fun hc => ?_) <;> (try simp at hc)) | (refine ww_split _ (fun hc => ?_) (fun hc => ?_) <;> (try simp at hc)) | (refine wp_drawF (by kernel_rfl) ?_) | (refine wk_yldW _ ?_) | (refine layOwe _ (by kernel_rfl) ?_) | (refine owe ?_ (fun ho => ?_)) | (simp (disch := first | assumption | omega | (simp; done) | (simp; omega)) [A0, A1, A11, A12, A13, A20, A128, A129, A130, hnl, e3, e4', hSo, List.take_length, -getElem?_pos, List.getElem?_cons_zero, List.getElem?_cons_succ]))
        refine wp_loopE cfg rfl (fun f0 h0 m fr h => ∃ i : Nat, fr 11 = f0 11 ∧ fr 20 = f0 20 ∧ fr 28 = f0 28 ∧ fr 174 = f0 174 ∧ fr 175 = f0 175 ∧ fr 176 = .int .i64 i ∧ (i + m = BB.1.length)) (BB.1.length) _ _ ⟨0, rfl, rfl, rfl, rfl, rfl, by first | rfl | (simp; done) | (simp [R]; done) | simp [R], by first | rfl | (simp; done) | omega⟩ ?_
        rintro Bm Bf Bh ⟨i, B11, B20, B28, B174, B175, B176, hm8⟩ Bih
        try simp [A0, A1, A11, A12, A13, A20, A128, A129, A130] at B11 B20 B28 B174 B175
        by_cases hi2 : i < BB.1.length
        · have hmm := nth_map' (f := dnI q) hi2
          have hyb := hBl _ (nth_mem hi2)
          have hlm : (BB.1.map (dnI q)).length = BB.1.length := by simp
          by_cases hgt : (q : Int) < nth BB.1 i
          · have hd : dnI q (nth BB.1 i) = nth BB.1 i - 1 := by unfold dnI; rw [if_pos hgt]
            rw [hd] at hmm
            repeat' (first | (refine wpc_split _ (fun hc => ?_) (fun hc => ?_) <;> (try simp at hc)) | (refine ww_split _ (fun hc => ?_) (fun hc => ?_) <;> (try simp at hc)) | (refine wp_drawF (by kernel_rfl) ?_) | (refine wk_yldW _ ?_) | (refine layOwe _ (by kernel_rfl) ?_) | (refine owe ?_ (fun ho => ?_)) | (simp (disch := first | assumption | omega | (simp; done) | (simp; omega)) [B11, B20, B28, B174, B175, B176, eI, hmm, hlm, -getElem?_pos, List.getElem?_cons_zero, List.getElem?_cons_succ]))
            all_goals first
              | (exfalso; omega)
              | exact Bih (Bm - 1) _ _ (by omega) ⟨i + 1, by simp [B11, B20, B28, B174, B175, B176, A0, A1, A11, A12, A13, A20, A128, A129, A130], by simp [B11, B20, B28, B174, B175, B176, A0, A1, A11, A12, A13, A20, A128, A129, A130], by simp [B11, B20, B28, B174, B175, B176, A0, A1, A11, A12, A13, A20, A128, A129, A130], by simp [B11, B20, B28, B174, B175, B176, A0, A1, A11, A12, A13, A20, A128, A129, A130], by simp [B11, B20, B28, B174, B175, B176, A0, A1, A11, A12, A13, A20, A128, A129, A130], by simp [B11, B20, B28, B174, B175, B176, A0, A1, A11, A12, A13, A20, A128, A129, A130], by omega⟩
          · have hd : dnI q (nth BB.1 i) = nth BB.1 i := by unfold dnI; rw [if_neg hgt]
            rw [hd] at hmm
            repeat' (first | (refine wpc_split _ (fun hc => ?_) (fun hc => ?_) <;> (try simp at hc)) | (refine ww_split _ (fun hc => ?_) (fun hc => ?_) <;> (try simp at hc)) | (refine wp_drawF (by kernel_rfl) ?_) | (refine wk_yldW _ ?_) | (refine layOwe _ (by kernel_rfl) ?_) | (refine owe ?_ (fun ho => ?_)) | (simp (disch := first | assumption | omega | (simp; done) | (simp; omega)) [B11, B20, B28, B174, B175, B176, eI, hmm, hlm, -getElem?_pos, List.getElem?_cons_zero, List.getElem?_cons_succ]))
            all_goals first
              | (exfalso; omega)
              | exact Bih (Bm - 1) _ _ (by omega) ⟨i + 1, by simp [B11, B20, B28, B174, B175, B176, A0, A1, A11, A12, A13, A20, A128, A129, A130], by simp [B11, B20, B28, B174, B175, B176, A0, A1, A11, A12, A13, A20, A128, A129, A130], by simp [B11, B20, B28, B174, B175, B176, A0, A1, A11, A12, A13, A20, A128, A129, A130], by simp [B11, B20, B28, B174, B175, B176, A0, A1, A11, A12, A13, A20, A128, A129, A130], by simp [B11, B20, B28, B174, B175, B176, A0, A1, A11, A12, A13, A20, A128, A129, A130], by simp [B11, B20, B28, B174, B175, B176, A0, A1, A11, A12, A13, A20, A128, A129, A130], by omega⟩
        · repeat' (first | (refine wpc_split _ (fun hc => ?_) (fun hc => ?_) <;> (try simp at hc)) | (refine ww_split _ (fun hc => ?_) (fun hc => ?_) <;> (try simp at hc)) | (refine wp_drawF (by kernel_rfl) ?_) | (refine wk_yldW _ ?_) | (refine layOwe _ (by kernel_rfl) ?_) | (refine owe ?_ (fun ho => ?_)) | (simp (disch := first | assumption | omega | (simp; done) | (simp; omega)) [B11, B20, B28, B174, B175, B176, -getElem?_pos, List.getElem?_cons_zero, List.getElem?_cons_succ]))
      · skip
        refine outS_of_wp cfg (fn := Tryd.f8) Tryd.func8 rfl (by simp [Tryd.f8]) ?_
        simp (config := { maxSteps := 2000000 }) (disch := first | assumption | omega | (simp; done) | (simp; omega)) [-getElem?_pos, List.getElem?_cons_zero, List.getElem?_cons_succ, Tryd.f8, hr, emptyH, hBB, hB0]
        repeat' (first | (refine wpc_split _ (fun hc => ?_) (fun hc => ?_) <;> (try simp at hc)) | (refine ww_split _ (fun hc => ?_) (fun hc => ?_) <;> (try simp at hc)) | (refine wp_drawF (by kernel_rfl) ?_) | (refine wk_yldW _ ?_) | (refine layOwe _ (by kernel_rfl) ?_) | (refine owe ?_ (fun ho => ?_)) | (simp (config := { maxSteps := 2000000 }) (disch := first | assumption | omega | (simp; done) | (simp; omega)) [hr, emptyH, hBB, hB0, hnl, hf1, e1, e2, b1, b2, S1, hm, hmod, hmod2, hz, hapB, hrc, eE, hrs, hrl, hlow, k1, k2, S2, m1, hok, -getElem?_pos, List.getElem?_cons_zero, List.getElem?_cons_succ]))
        all_goals first
          | (exfalso; omega)
          | skip
        refine wp_loopE cfg rfl (fun f0 h0 m fr h => ∃ i : Nat, fr 0 = f0 0 ∧ fr 1 = f0 1 ∧ fr 11 = f0 11 ∧ fr 12 = f0 12 ∧ fr 13 = f0 13 ∧ fr 20 = f0 20 ∧ fr 128 = f0 128 ∧ fr 129 = f0 129 ∧ fr 130 = .int .i64 i ∧ (i + m = BB.1.length) ∧ (∀ j, j < i → ¬ nth BB.1 j = (q : Int))) (BB.1.length) _ _ ⟨0, rfl, rfl, rfl, rfl, rfl, rfl, rfl, rfl, by first | rfl | (simp; done) | (simp [R]; done) | simp [R], by first | rfl | (simp; done) | omega, fun j hj => by omega⟩ ?_
        rintro Am Af Ah ⟨i, A0, A1, A11, A12, A13, A20, A128, A129, A130, hm9, hne⟩ Aih
        try simp at A0 A1 A11 A12 A13 A20 A128 A129
        by_cases hi : i < BB.1.length
        · by_cases hy : nth BB.1 i = (q : Int)
          · repeat' (first | (refine wpc_split _ (fun hc => ?_) (fun hc => ?_) <;> (try simp at hc)) | (refine ww_split _ (fun hc => ?_) (fun hc => ?_) <;> (try simp at hc)) | (refine wp_drawF (by kernel_rfl) ?_) | (refine wk_yldW _ ?_) | (refine layOwe _ (by kernel_rfl) ?_) | (refine owe ?_ (fun ho => ?_)) | (simp (disch := first | assumption | omega | (simp; done) | (simp; omega)) [A0, A1, A11, A12, A13, A20, A128, A129, A130, eI, hy, -getElem?_pos, List.getElem?_cons_zero, List.getElem?_cons_succ]))
          · have hy2 : (nth BB.1 i == (q : Int)) = false := by rw [beq_eq_false_iff_ne]; exact hy
            repeat' (first | (refine wpc_split _ (fun hc => ?_) (fun hc => ?_) <;> (try simp at hc)) | (refine ww_split _ (fun hc => ?_) (fun hc => ?_) <;> (try simp at hc)) | (refine wp_drawF (by kernel_rfl) ?_) | (refine wk_yldW _ ?_) | (refine layOwe _ (by kernel_rfl) ?_) | (refine owe ?_ (fun ho => ?_)) | (simp (disch := first | assumption | omega | (simp; done) | (simp; omega)) [A0, A1, A11, A12, A13, A20, A128, A129, A130, eI, hy2, -getElem?_pos, List.getElem?_cons_zero, List.getElem?_cons_succ]))
            exact Aih (Am - 1) _ _ (by omega) ⟨i + 1, by simp [A0, A1, A11, A12, A13, A20, A128, A129, A130], by simp [A0, A1, A11, A12, A13, A20, A128, A129, A130], by simp [A0, A1, A11, A12, A13, A20, A128, A129, A130], by simp [A0, A1, A11, A12, A13, A20, A128, A129, A130], by simp [A0, A1, A11, A12, A13, A20, A128, A129, A130], by simp [A0, A1, A11, A12, A13, A20, A128, A129, A130], by simp [A0, A1, A11, A12, A13, A20, A128, A129, A130], by simp [A0, A1, A11, A12, A13, A20, A128, A129, A130], by simp [A0, A1, A11, A12, A13, A20, A128, A129, A130], by omega, fun j hj => by (by_cases e : j = i; (subst e; exact hy); exact hne j (by omega))⟩
        have hno : ∀ y ∈ BB.1, ¬ y = (q : Int) := by
          intro y hy
          obtain ⟨j, hj, rfl⟩ := List.mem_iff_getElem.1 hy
          rw [← nth_eq hj]; exact hne j (by omega)
        have hO := hout hno
        obtain ⟨F3, H3, e3, a3, b3⟩ := app_any (h := Ah) (fl := (false, true, none)) (l := []) (m := l.take q) (App.full _ _ _) (by simp; omega)
        obtain ⟨F4, H4, e4, a4, b4⟩ := app_any (h := H3) (fl := F3) (l := l.take q) (m := l.drop (q + 1)) a3 (by simp; omega)
        rw [List.nil_append] at e3
        have e4' : ∀ fl2, appendV Tryd.prog H3 false #[22, 22] (R F3 eE (l.take q)) (R fl2 eE (l.drop (q + 1))) = some (R F4 eE (outE l q), H4) := e4
        rw [hO] at hSo
        simp only at hSo
        repeat' (first | (refine wpc_split _ (fun hc => ?_) (fun hc => ?_) <;> (try simp at hc)) | (refine ww_split _ (fun hc => ?_) (fun hc => ?_) <;> (try simp at hc)) | (refine wp_drawF (by kernel_rfl) ?_) | (refine wk_yldW _ ?_) | (refine layOwe _ (by kernel_rfl) ?_) | (refine owe ?_ (fun ho => ?_)) | (simp (disch := first | assumption | omega | (simp; done) | (simp; omega)) [A0, A1, A11, A12, A13, A20, A128, A129, A130, hnl, e3, e4', hSo, List.take_length, -getElem?_pos, List.getElem?_cons_zero, List.getElem?_cons_succ]))
        refine wp_loopE cfg rfl (fun f0 h0 m fr h => ∃ i : Nat, fr 11 = f0 11 ∧ fr 20 = f0 20 ∧ fr 28 = f0 28 ∧ fr 174 = f0 174 ∧ fr 175 = f0 175 ∧ fr 176 = .int .i64 i ∧ (i + m = BB.1.length)) (BB.1.length) _ _ ⟨0, rfl, rfl, rfl, rfl, rfl, by first | rfl | (simp; done) | (simp [R]; done) | simp [R], by first | rfl | (simp; done) | omega⟩ ?_
        rintro Bm Bf Bh ⟨i, B11, B20, B28, B174, B175, B176, hm8⟩ Bih
        try simp [A0, A1, A11, A12, A13, A20, A128, A129, A130] at B11 B20 B28 B174 B175
        by_cases hi2 : i < BB.1.length
        · have hmm := nth_map' (f := dnI q) hi2
          have hyb := hBl _ (nth_mem hi2)
          have hlm : (BB.1.map (dnI q)).length = BB.1.length := by simp
          by_cases hgt : (q : Int) < nth BB.1 i
          · have hd : dnI q (nth BB.1 i) = nth BB.1 i - 1 := by unfold dnI; rw [if_pos hgt]
            rw [hd] at hmm
            repeat' (first | (refine wpc_split _ (fun hc => ?_) (fun hc => ?_) <;> (try simp at hc)) | (refine ww_split _ (fun hc => ?_) (fun hc => ?_) <;> (try simp at hc)) | (refine wp_drawF (by kernel_rfl) ?_) | (refine wk_yldW _ ?_) | (refine layOwe _ (by kernel_rfl) ?_) | (refine owe ?_ (fun ho => ?_)) | (simp (disch := first | assumption | omega | (simp; done) | (simp; omega)) [B11, B20, B28, B174, B175, B176, eI, hmm, hlm, -getElem?_pos, List.getElem?_cons_zero, List.getElem?_cons_succ]))
            all_goals first
              | (exfalso; omega)
              | exact Bih (Bm - 1) _ _ (by omega) ⟨i + 1, by simp [B11, B20, B28, B174, B175, B176, A0, A1, A11, A12, A13, A20, A128, A129, A130], by simp [B11, B20, B28, B174, B175, B176, A0, A1, A11, A12, A13, A20, A128, A129, A130], by simp [B11, B20, B28, B174, B175, B176, A0, A1, A11, A12, A13, A20, A128, A129, A130], by simp [B11, B20, B28, B174, B175, B176, A0, A1, A11, A12, A13, A20, A128, A129, A130], by simp [B11, B20, B28, B174, B175, B176, A0, A1, A11, A12, A13, A20, A128, A129, A130], by simp [B11, B20, B28, B174, B175, B176, A0, A1, A11, A12, A13, A20, A128, A129, A130], by omega⟩
          · have hd : dnI q (nth BB.1 i) = nth BB.1 i := by unfold dnI; rw [if_neg hgt]
            rw [hd] at hmm
            repeat' (first | (refine wpc_split _ (fun hc => ?_) (fun hc => ?_) <;> (try simp at hc)) | (refine ww_split _ (fun hc => ?_) (fun hc => ?_) <;> (try simp at hc)) | (refine wp_drawF (by kernel_rfl) ?_) | (refine wk_yldW _ ?_) | (refine layOwe _ (by kernel_rfl) ?_) | (refine owe ?_ (fun ho => ?_)) | (simp (disch := first | assumption | omega | (simp; done) | (simp; omega)) [B11, B20, B28, B174, B175, B176, eI, hmm, hlm, -getElem?_pos, List.getElem?_cons_zero, List.getElem?_cons_succ]))
            all_goals first
              | (exfalso; omega)
              | exact Bih (Bm - 1) _ _ (by omega) ⟨i + 1, by simp [B11, B20, B28, B174, B175, B176, A0, A1, A11, A12, A13, A20, A128, A129, A130], by simp [B11, B20, B28, B174, B175, B176, A0, A1, A11, A12, A13, A20, A128, A129, A130], by simp [B11, B20, B28, B174, B175, B176, A0, A1, A11, A12, A13, A20, A128, A129, A130], by simp [B11, B20, B28, B174, B175, B176, A0, A1, A11, A12, A13, A20, A128, A129, A130], by simp [B11, B20, B28, B174, B175, B176, A0, A1, A11, A12, A13, A20, A128, A129, A130], by simp [B11, B20, B28, B174, B175, B176, A0, A1, A11, A12, A13, A20, A128, A129, A130], by omega⟩
        · repeat' (first | (refine wpc_split _ (fun hc => ?_) (fun hc => ?_) <;> (try simp at hc)) | (refine ww_split _ (fun hc => ?_) (fun hc => ?_) <;> (try simp at hc)) | (refine wp_drawF (by kernel_rfl) ?_) | (refine wk_yldW _ ?_) | (refine layOwe _ (by kernel_rfl) ?_) | (refine owe ?_ (fun ho => ?_)) | (simp (disch := first | assumption | omega | (simp; done) | (simp; omega)) [B11, B20, B28, B174, B175, B176, -getElem?_pos, List.getElem?_cons_zero, List.getElem?_cons_succ]))
      · skip
        refine outS_of_wp cfg (fn := Tryd.f8) Tryd.func8 rfl (by simp [Tryd.f8]) ?_
        simp (config := { maxSteps := 2000000 }) (disch := first | assumption | omega | (simp; done) | (simp; omega)) [-getElem?_pos, List.getElem?_cons_zero, List.getElem?_cons_succ, Tryd.f8, hr, emptyH, hBB, hB0]
        repeat' (first | (refine wpc_split _ (fun hc => ?_) (fun hc => ?_) <;> (try simp at hc)) | (refine ww_split _ (fun hc => ?_) (fun hc => ?_) <;> (try simp at hc)) | (refine wp_drawF (by kernel_rfl) ?_) | (refine wk_yldW _ ?_) | (refine layOwe _ (by kernel_rfl) ?_) | (refine owe ?_ (fun ho => ?_)) | (simp (config := { maxSteps := 2000000 }) (disch := first | assumption | omega | (simp; done) | (simp; omega)) [hr, emptyH, hBB, hB0, hnl, hf1, e1, e2, b1, b2, S1, hm, hmod, hmod2, hz, hapB, hrc, eE, hrs, hrl, hlow, k1, k2, S2, m1, hok, m3, -getElem?_pos, List.getElem?_cons_zero, List.getElem?_cons_succ]))
        all_goals first
          | (exfalso; omega)
          | skip
        refine wp_loopE cfg rfl (fun f0 h0 m fr h => ∃ i : Nat, fr 0 = f0 0 ∧ fr 1 = f0 1 ∧ fr 11 = f0 11 ∧ fr 12 = f0 12 ∧ fr 13 = f0 13 ∧ fr 20 = f0 20 ∧ fr 128 = f0 128 ∧ fr 129 = f0 129 ∧ fr 130 = .int .i64 i ∧ (i + m = BB.1.length) ∧ (∀ j, j < i → ¬ nth BB.1 j = (q : Int))) (BB.1.length) _ _ ⟨0, rfl, rfl, rfl, rfl, rfl, rfl, rfl, rfl, by first | rfl | (simp; done) | (simp [R]; done) | simp [R], by first | rfl | (simp; done) | omega, fun j hj => by omega⟩ ?_
        rintro Am Af Ah ⟨i, A0, A1, A11, A12, A13, A20, A128, A129, A130, hm9, hne⟩ Aih
        try simp at A0 A1 A11 A12 A13 A20 A128 A129
        by_cases hi : i < BB.1.length
        · by_cases hy : nth BB.1 i = (q : Int)
          · repeat' (first | (refine wpc_split _ (fun hc => ?_) (fun hc => ?_) <;> (try simp at hc)) | (refine ww_split _ (fun hc => ?_) (fun hc => ?_) <;> (try simp at hc)) | (refine wp_drawF (by kernel_rfl) ?_) | (refine wk_yldW _ ?_) | (refine layOwe _ (by kernel_rfl) ?_) | (refine owe ?_ (fun ho => ?_)) | (simp (disch := first | assumption | omega | (simp; done) | (simp; omega)) [A0, A1, A11, A12, A13, A20, A128, A129, A130, eI, hy, -getElem?_pos, List.getElem?_cons_zero, List.getElem?_cons_succ]))
          · have hy2 : (nth BB.1 i == (q : Int)) = false := by rw [beq_eq_false_iff_ne]; exact hy
            repeat' (first | (refine wpc_split _ (fun hc => ?_) (fun hc => ?_) <;> (try simp at hc)) | (refine ww_split _ (fun hc => ?_) (fun hc => ?_) <;> (try simp at hc)) | (refine wp_drawF (by kernel_rfl) ?_) | (refine wk_yldW _ ?_) | (refine layOwe _ (by kernel_rfl) ?_) | (refine owe ?_ (fun ho => ?_)) | (simp (disch := first | assumption | omega | (simp; done) | (simp; omega)) [A0, A1, A11, A12, A13, A20, A128, A129, A130, eI, hy2, -getElem?_pos, List.getElem?_cons_zero, List.getElem?_cons_succ]))
            exact Aih (Am - 1) _ _ (by omega) ⟨i + 1, by simp [A0, A1, A11, A12, A13, A20, A128, A129, A130], by simp [A0, A1, A11, A12, A13, A20, A128, A129, A130], by simp [A0, A1, A11, A12, A13, A20, A128, A129, A130], by simp [A0, A1, A11, A12, A13, A20, A128, A129, A130], by simp [A0, A1, A11, A12, A13, A20, A128, A129, A130], by simp [A0, A1, A11, A12, A13, A20, A128, A129, A130], by simp [A0, A1, A11, A12, A13, A20, A128, A129, A130], by simp [A0, A1, A11, A12, A13, A20, A128, A129, A130], by simp [A0, A1, A11, A12, A13, A20, A128, A129, A130], by omega, fun j hj => by (by_cases e : j = i; (subst e; exact hy); exact hne j (by omega))⟩
        have hno : ∀ y ∈ BB.1, ¬ y = (q : Int) := by
          intro y hy
          obtain ⟨j, hj, rfl⟩ := List.mem_iff_getElem.1 hy
          rw [← nth_eq hj]; exact hne j (by omega)
        have hO := hout hno
        obtain ⟨F3, H3, e3, a3, b3⟩ := app_any (h := Ah) (fl := (false, true, none)) (l := []) (m := l.take q) (App.full _ _ _) (by simp; omega)
        obtain ⟨F4, H4, e4, a4, b4⟩ := app_any (h := H3) (fl := F3) (l := l.take q) (m := l.drop (q + 1)) a3 (by simp; omega)
        rw [List.nil_append] at e3
        have e4' : ∀ fl2, appendV Tryd.prog H3 false #[22, 22] (R F3 eE (l.take q)) (R fl2 eE (l.drop (q + 1))) = some (R F4 eE (outE l q), H4) := e4
        rw [hO] at hSo
        simp only at hSo
        repeat' (first | (refine wpc_split _ (fun hc => ?_) (fun hc => ?_) <;> (try simp at hc)) | (refine ww_split _ (fun hc => ?_) (fun hc => ?_) <;> (try simp at hc)) | (refine wp_drawF (by kernel_rfl) ?_) | (refine wk_yldW _ ?_) | (refine layOwe _ (by kernel_rfl) ?_) | (refine owe ?_ (fun ho => ?_)) | (simp (disch := first | assumption | omega | (simp; done) | (simp; omega)) [A0, A1, A11, A12, A13, A20, A128, A129, A130, hnl, e3, e4', hSo, List.take_length, -getElem?_pos, List.getElem?_cons_zero, List.getElem?_cons_succ]))
        refine wp_loopE cfg rfl (fun f0 h0 m fr h => ∃ i : Nat, fr 11 = f0 11 ∧ fr 20 = f0 20 ∧ fr 28 = f0 28 ∧ fr 174 = f0 174 ∧ fr 175 = f0 175 ∧ fr 176 = .int .i64 i ∧ (i + m = BB.1.length)) (BB.1.length) _ _ ⟨0, rfl, rfl, rfl, rfl, rfl, by first | rfl | (simp; done) | (simp [R]; done) | simp [R], by first | rfl | (simp; done) | omega⟩ ?_
        rintro Bm Bf Bh ⟨i, B11, B20, B28, B174, B175, B176, hm8⟩ Bih
        try simp [A0, A1, A11, A12, A13, A20, A128, A129, A130] at B11 B20 B28 B174 B175
        by_cases hi2 : i < BB.1.length
        · have hmm := nth_map' (f := dnI q) hi2
          have hyb := hBl _ (nth_mem hi2)
          have hlm : (BB.1.map (dnI q)).length = BB.1.length := by simp
          by_cases hgt : (q : Int) < nth BB.1 i
          · have hd : dnI q (nth BB.1 i) = nth BB.1 i - 1 := by unfold dnI; rw [if_pos hgt]
            rw [hd] at hmm
            repeat' (first | (refine wpc_split _ (fun hc => ?_) (fun hc => ?_) <;> (try simp at hc)) | (refine ww_split _ (fun hc => ?_) (fun hc => ?_) <;> (try simp at hc)) | (refine wp_drawF (by kernel_rfl) ?_) | (refine wk_yldW _ ?_) | (refine layOwe _ (by kernel_rfl) ?_) | (refine owe ?_ (fun ho => ?_)) | (simp (disch := first | assumption | omega | (simp; done) | (simp; omega)) [B11, B20, B28, B174, B175, B176, eI, hmm, hlm, -getElem?_pos, List.getElem?_cons_zero, List.getElem?_cons_succ]))
            all_goals first
              | (exfalso; omega)
              | exact Bih (Bm - 1) _ _ (by omega) ⟨i + 1, by simp [B11, B20, B28, B174, B175, B176, A0, A1, A11, A12, A13, A20, A128, A129, A130], by simp [B11, B20, B28, B174, B175, B176, A0, A1, A11, A12, A13, A20, A128, A129, A130], by simp [B11, B20, B28, B174, B175, B176, A0, A1, A11, A12, A13, A20, A128, A129, A130], by simp [B11, B20, B28, B174, B175, B176, A0, A1, A11, A12, A13, A20, A128, A129, A130], by simp [B11, B20, B28, B174, B175, B176, A0, A1, A11, A12, A13, A20, A128, A129, A130], by simp [B11, B20, B28, B174, B175, B176, A0, A1, A11, A12, A13, A20, A128, A129, A130], by omega⟩
          · have hd : dnI q (nth BB.1 i) = nth BB.1 i := by unfold dnI; rw [if_neg hgt]
            rw [hd] at hmm
            repeat' (first | (refine wpc_split _ (fun hc => ?_) (fun hc => ?_) <;> (try simp at hc)) | (refine ww_split _ (fun hc => ?_) (fun hc => ?_) <;> (try simp at hc)) | (refine wp_drawF (by kernel_rfl) ?_) | (refine wk_yldW _ ?_) | (refine layOwe _ (by kernel_rfl) ?_) | (refine owe ?_ (fun ho => ?_)) | (simp (disch := first | assumption | omega | (simp; done) | (simp; omega)) [B11, B20, B28, B174, B175, B176, eI, hmm, hlm, -getElem?_pos, List.getElem?_cons_zero, List.getElem?_cons_succ]))
            all_goals first
              | (exfalso; omega)
              | exact Bih (Bm - 1) _ _ (by omega) ⟨i + 1, by simp [B11, B20, B28, B174, B175, B176, A0, A1, A11, A12, A13, A20, A128, A129, A130], by simp [B11, B20, B28, B174, B175, B176, A0, A1, A11, A12, A13, A20, A128, A129, A130], by simp [B11, B20, B28, B174, B175, B176, A0, A1, A11, A12, A13, A20, A128, A129, A130], by simp [B11, B20, B28, B174, B175, B176, A0, A1, A11, A12, A13, A20, A128, A129, A130], by simp [B11, B20, B28, B174, B175, B176, A0, A1, A11, A12, A13, A20, A128, A129, A130], by simp [B11, B20, B28, B174, B175, B176, A0, A1, A11, A12, A13, A20, A128, A129, A130], by omega⟩
        · repeat' (first | (refine wpc_split _ (fun hc => ?_) (fun hc => ?_) <;> (try simp at hc)) | (refine ww_split _ (fun hc => ?_) (fun hc => ?_) <;> (try simp at hc)) | (refine wp_drawF (by kernel_rfl) ?_) | (refine wk_yldW _ ?_) | (refine layOwe _ (by kernel_rfl) ?_) | (refine owe ?_ (fun ho => ?_)) | (simp (disch := first | assumption | omega | (simp; done) | (simp; omega)) [B11, B20, B28, B174, B175, B176, -getElem?_pos, List.getElem?_cons_zero, List.getElem?_cons_succ]))
    · by_cases hc0 : 0 ≤ c
      · have hc1 : ¬ c ≤ (nth l q).cost := fun e => hcc ⟨hc0, e⟩
        rcases hmode with ⟨_, hm⟩ | ⟨_, hm, m1, hok⟩ | ⟨_, hm, m1, hok, m3, m4⟩
        · skip
          refine outS_of_wp cfg (fn := Tryd.f8) Tryd.func8 rfl (by simp [Tryd.f8]) ?_
          simp (config := { maxSteps := 2000000 }) (disch := first | assumption | omega | (simp; done) | (simp; omega)) [-getElem?_pos, List.getElem?_cons_zero, List.getElem?_cons_succ, Tryd.f8, hr, emptyH, hBB, hB0]
          repeat' (first | (refine wpc_split _ (fun hc => ?_) (fun hc => ?_) <;> (try simp at hc)) | (refine ww_split _ (fun hc => ?_) (fun hc => ?_) <;> (try simp at hc)) | (refine wp_drawF (by kernel_rfl) ?_) | (refine wk_yldW _ ?_) | (refine layOwe _ (by kernel_rfl) ?_) | (refine owe ?_ (fun ho => ?_)) | (simp (config := { maxSteps := 2000000 }) (disch := first | assumption | omega | (simp; done) | (simp; omega)) [hr, emptyH, hBB, hB0, hnl, hf1, e1, e2, b1, b2, S1, hm, hmod, hmod2, hz, hapB, hrc, eE, hrl, -getElem?_pos, List.getElem?_cons_zero, List.getElem?_cons_succ]))
          all_goals first
            | (exfalso; omega)
            | skip
          refine wp_loopE cfg rfl (fun f0 h0 m fr h => ∃ i : Nat, fr 0 = f0 0 ∧ fr 1 = f0 1 ∧ fr 11 = f0 11 ∧ fr 12 = f0 12 ∧ fr 13 = f0 13 ∧ fr 20 = f0 20 ∧ fr 128 = f0 128 ∧ fr 129 = f0 129 ∧ fr 130 = .int .i64 i ∧ (i + m = BB.1.length) ∧ (∀ j, j < i → ¬ nth BB.1 j = (q : Int))) (BB.1.length) _ _ ⟨0, rfl, rfl, rfl, rfl, rfl, rfl, rfl, rfl, by first | rfl | (simp; done) | (simp [R]; done) | simp [R], by first | rfl | (simp; done) | omega, fun j hj => by omega⟩ ?_
          rintro Am Af Ah ⟨i, A0, A1, A11, A12, A13, A20, A128, A129, A130, hm9, hne⟩ Aih
          try simp at A0 A1 A11 A12 A13 A20 A128 A129
          by_cases hi : i < BB.1.length
          · by_cases hy : nth BB.1 i = (q : Int)
            · repeat' (first | (refine wpc_split _ (fun hc => ?_) (fun hc => ?_) <;> (try simp at hc)) | (refine ww_split _ (fun hc => ?_) (fun hc => ?_) <;> (try simp at hc)) | (refine wp_drawF (by kernel_rfl) ?_) | (refine wk_yldW _ ?_) | (refine layOwe _ (by kernel_rfl) ?_) | (refine owe ?_ (fun ho => ?_)) | (simp (disch := first | assumption | omega | (simp; done) | (simp; omega)) [A0, A1, A11, A12, A13, A20, A128, A129, A130, eI, hy, -getElem?_pos, List.getElem?_cons_zero, List.getElem?_cons_succ]))
            · have hy2 : (nth BB.1 i == (q : Int)) = false := by rw [beq_eq_false_iff_ne]; exact hy
              repeat' (first | (refine wpc_split _ (fun hc => ?_) (fun hc => ?_) <;> (try simp at hc)) | (refine ww_split _ (fun hc => ?_) (fun hc => ?_) <;> (try simp at hc)) | (refine wp_drawF (by kernel_rfl) ?_) | (refine wk_yldW _ ?_) | (refine layOwe _ (by kernel_rfl) ?_) | (refine owe ?_ (fun ho => ?_)) | (simp (disch := first | assumption | omega | (simp; done) | (simp; omega)) [A0, A1, A11, A12, A13, A20, A128, A129, A130, eI, hy2, -getElem?_pos, List.getElem?_cons_zero, List.getElem?_cons_succ]))
              exact Aih (Am - 1) _ _ (by omega) ⟨i + 1, by simp [A0, A1, A11, A12, A13, A20, A128, A129, A130], by simp [A0, A1, A11, A12, A13, A20, A128, A129, A130], by simp [A0, A1, A11, A12, A13, A20, A128, A129, A130], by simp [A0, A1, A11, A12, A13, A20, A128, A129, A130], by simp [A0, A1, A11, A12, A13, A20, A128, A129, A130], by simp [A0, A1, A11, A12, A13, A20, A128, A129, A130], by simp [A0, A1, A11, A12, A13, A20, A128, A129, A130], by simp [A0, A1, A11, A12, A13, A20, A128, A129, A130], by simp [A0, A1, A11, A12, A13, A20, A128, A129, A130], by omega, fun j hj => by (by_cases e : j = i; (subst e; exact hy); exact hne j (by omega))⟩
          have hno : ∀ y ∈ BB.1, ¬ y = (q : Int) := by
            intro y hy
            obtain ⟨j, hj, rfl⟩ := List.mem_iff_getElem.1 hy
            rw [← nth_eq hj]; exact hne j (by omega)
          have hO := hout hno
          obtain ⟨F3, H3, e3, a3, b3⟩ := app_any (h := Ah) (fl := (false, true, none)) (l := []) (m := l.take q) (App.full _ _ _) (by simp; omega)
          obtain ⟨F4, H4, e4, a4, b4⟩ := app_any (h := H3) (fl := F3) (l := l.take q) (m := l.drop (q + 1)) a3 (by simp; omega)
          rw [List.nil_append] at e3
          have e4' : ∀ fl2, appendV Tryd.prog H3 false #[22, 22] (R F3 eE (l.take q)) (R fl2 eE (l.drop (q + 1))) = some (R F4 eE (outE l q), H4) := e4
          rw [hO] at hSo
          simp only at hSo
          repeat' (first | (refine wpc_split _ (fun hc => ?_) (fun hc => ?_) <;> (try simp at hc)) | (refine ww_split _ (fun hc => ?_) (fun hc => ?_) <;> (try simp at hc)) | (refine wp_drawF (by kernel_rfl) ?_) | (refine wk_yldW _ ?_) | (refine layOwe _ (by kernel_rfl) ?_) | (refine owe ?_ (fun ho => ?_)) | (simp (disch := first | assumption | omega | (simp; done) | (simp; omega)) [A0, A1, A11, A12, A13, A20, A128, A129, A130, hnl, e3, e4', hSo, List.take_length, -getElem?_pos, List.getElem?_cons_zero, List.getElem?_cons_succ]))
          refine wp_loopE cfg rfl (fun f0 h0 m fr h => ∃ i : Nat, fr 11 = f0 11 ∧ fr 20 = f0 20 ∧ fr 28 = f0 28 ∧ fr 174 = f0 174 ∧ fr 175 = f0 175 ∧ fr 176 = .int .i64 i ∧ (i + m = BB.1.length)) (BB.1.length) _ _ ⟨0, rfl, rfl, rfl, rfl, rfl, by first | rfl | (simp; done) | (simp [R]; done) | simp [R], by first | rfl | (simp; done) | omega⟩ ?_
          rintro Bm Bf Bh ⟨i, B11, B20, B28, B174, B175, B176, hm8⟩ Bih
          try simp [A0, A1, A11, A12, A13, A20, A128, A129, A130] at B11 B20 B28 B174 B175
          by_cases hi2 : i < BB.1.length
          · have hmm := nth_map' (f := dnI q) hi2
            have hyb := hBl _ (nth_mem hi2)
            have hlm : (BB.1.map (dnI q)).length = BB.1.length := by simp
            by_cases hgt : (q : Int) < nth BB.1 i
            · have hd : dnI q (nth BB.1 i) = nth BB.1 i - 1 := by unfold dnI; rw [if_pos hgt]
              rw [hd] at hmm
              repeat' (first | (refine wpc_split _ (fun hc => ?_) (fun hc => ?_) <;> (try simp at hc)) | (refine ww_split _ (fun hc => ?_) (fun hc => ?_) <;> (try simp at hc)) | (refine wp_drawF (by kernel_rfl) ?_) | (refine wk_yldW _ ?_) | (refine layOwe _ (by kernel_rfl) ?_) | (refine owe ?_ (fun ho => ?_)) | (simp (disch := first | assumption | omega | (simp; done) | (simp; omega)) [B11, B20, B28, B174, B175, B176, eI, hmm, hlm, -getElem?_pos, List.getElem?_cons_zero, List.getElem?_cons_succ]))
              all_goals first
                | (exfalso; omega)
                | exact Bih (Bm - 1) _ _ (by omega) ⟨i + 1, by simp [B11, B20, B28, B174, B175, B176, A0, A1, A11, A12, A13, A20, A128, A129, A130], by simp [B11, B20, B28, B174, B175, B176, A0, A1, A11, A12, A13, A20, A128, A129, A130], by simp [B11, B20, B28, B174, B175, B176, A0, A1, A11, A12, A13, A20, A128, A129, A130], by simp [B11, B20, B28, B174, B175, B176, A0, A1, A11, A12, A13, A20, A128, A129, A130], by simp [B11, B20, B28, B174, B175, B176, A0, A1, A11, A12, A13, A20, A128, A129, A130], by simp [B11, B20, B28, B174, B175, B176, A0, A1, A11, A12, A13, A20, A128, A129, A130], by omega⟩
            · have hd : dnI q (nth BB.1 i) = nth BB.1 i := by unfold dnI; rw [if_neg hgt]
              rw [hd] at hmm
              repeat' (first | (refine wpc_split _ (fun hc => ?_) (fun hc => ?_) <;> (try simp at hc)) | (refine ww_split _ (fun hc => ?_) (fun hc => ?_) <;> (try simp at hc)) | (refine wp_drawF (by kernel_rfl) ?_) | (refine wk_yldW _ ?_) | (refine layOwe _ (by kernel_rfl) ?_) | (refine owe ?_ (fun ho => ?_)) | (simp (disch := first | assumption | omega | (simp; done) | (simp; omega)) [B11, B20, B28, B174, B175, B176, eI, hmm, hlm, -getElem?_pos, List.getElem?_cons_zero, List.getElem?_cons_succ]))
              all_goals first
                | (exfalso; omega)
                | exact Bih (Bm - 1) _ _ (by omega) ⟨i + 1, by simp [B11, B20, B28, B174, B175, B176, A0, A1, A11, A12, A13, A20, A128, A129, A130], by simp [B11, B20, B28, B174, B175, B176, A0, A1, A11, A12, A13, A20, A128, A129, A130], by simp [B11, B20, B28, B174, B175, B176, A0, A1, A11, A12, A13, A20, A128, A129, A130], by simp [B11, B20, B28, B174, B175, B176, A0, A1, A11, A12, A13, A20, A128, A129, A130], by simp [B11, B20, B28, B174, B175, B176, A0, A1, A11, A12, A13, A20, A128, A129, A130], by simp [B11, B20, B28, B174, B175, B176, A0, A1, A11, A12, A13, A20, A128, A129, A130], by omega⟩
          · repeat' (first | (refine wpc_split _ (fun hc => ?_) (fun hc => ?_) <;> (try simp at hc)) | (refine ww_split _ (fun hc => ?_) (fun hc => ?_) <;> (try simp at hc)) | (refine wp_drawF (by kernel_rfl) ?_) | (refine wk_yldW _ ?_) | (refine layOwe _ (by kernel_rfl) ?_) | (refine owe ?_ (fun ho => ?_)) | (simp (disch := first | assumption | omega | (simp; done) | (simp; omega)) [B11, B20, B28, B174, B175, B176, -getElem?_pos, List.getElem?_cons_zero, List.getElem?_cons_succ]))
        · skip
          refine outS_of_wp cfg (fn := Tryd.f8) Tryd.func8 rfl (by simp [Tryd.f8]) ?_
          simp (config := { maxSteps := 2000000 }) (disch := first | assumption | omega | (simp; done) | (simp; omega)) [-getElem?_pos, List.getElem?_cons_zero, List.getElem?_cons_succ, Tryd.f8, hr, emptyH, hBB, hB0]
          repeat' (first | (refine wpc_split _ (fun hc => ?_) (fun hc => ?_) <;> (try simp at hc)) | (refine ww_split _ (fun hc => ?_) (fun hc => ?_) <;> (try simp at hc)) | (refine wp_drawF (by kernel_rfl) ?_) | (refine wk_yldW _ ?_) | (refine layOwe _ (by kernel_rfl) ?_) | (refine owe ?_ (fun ho => ?_)) | (simp (config := { maxSteps := 2000000 }) (disch := first | assumption | omega | (simp; done) | (simp; omega)) [hr, emptyH, hBB, hB0, hnl, hf1, e1, e2, b1, b2, S1, hm, hmod, hmod2, hz, hapB, hrc, eE, hrl, S2, m1, hok, -getElem?_pos, List.getElem?_cons_zero, List.getElem?_cons_succ]))
          all_goals first
            | (exfalso; omega)
            | skip
          refine wp_loopE cfg rfl (fun f0 h0 m fr h => ∃ i : Nat, fr 0 = f0 0 ∧ fr 1 = f0 1 ∧ fr 11 = f0 11 ∧ fr 12 = f0 12 ∧ fr 13 = f0 13 ∧ fr 20 = f0 20 ∧ fr 128 = f0 128 ∧ fr 129 = f0 129 ∧ fr 130 = .int .i64 i ∧ (i + m = BB.1.length) ∧ (∀ j, j < i → ¬ nth BB.1 j = (q : Int))) (BB.1.length) _ _ ⟨0, rfl, rfl, rfl, rfl, rfl, rfl, rfl, rfl, by first | rfl | (simp; done) | (simp [R]; done) | simp [R], by first | rfl | (simp; done) | omega, fun j hj => by omega⟩ ?_
          rintro Am Af Ah ⟨i, A0, A1, A11, A12, A13, A20, A128, A129, A130, hm9, hne⟩ Aih
          try simp at A0 A1 A11 A12 A13 A20 A128 A129
          by_cases hi : i < BB.1.length
          · by_cases hy : nth BB.1 i = (q : Int)
            · repeat' (first | (refine wpc_split _ (fun hc => ?_) (fun hc => ?_) <;> (try simp at hc)) | (refine ww_split _ (fun hc => ?_) (fun hc => ?_) <;> (try simp at hc)) | (refine wp_drawF (by kernel_rfl) ?_) | (refine wk_yldW _ ?_) | (refine layOwe _ (by kernel_rfl) ?_) | (refine owe ?_ (fun ho => ?_)) | (simp (disch := first | assumption | omega | (simp; done) | (simp; omega)) [A0, A1, A11, A12, A13, A20, A128, A129, A130, eI, hy, -getElem?_pos, List.getElem?_cons_zero, List.getElem?_cons_succ]))
            · have hy2 : (nth BB.1 i == (q : Int)) = false := by rw [beq_eq_false_iff_ne]; exact hy
              repeat' (first | (refine wpc_split _ (fun hc => ?_) (fun hc => ?_) <;> (try simp at hc)) | (refine ww_split _ (fun hc => ?_) (fun hc => ?_) <;> (try simp at hc)) | (refine wp_drawF (by kernel_rfl) ?_) | (refine wk_yldW _ ?_) | (refine layOwe _ (by kernel_rfl) ?_) | (refine owe ?_ (fun ho => ?_)) | (simp (disch := first | assumption | omega | (simp; done) | (simp; omega)) [A0, A1, A11, A12, A13, A20, A128, A129, A130, eI, hy2, -getElem?_pos, List.getElem?_cons_zero, List.getElem?_cons_succ]))
              exact Aih (Am - 1) _ _ (by omega) ⟨i + 1, by simp [A0, A1, A11, A12, A13, A20, A128, A129, A130], by simp [A0, A1, A11, A12, A13, A20, A128, A129, A130], by simp [A0, A1, A11, A12, A13, A20, A128, A129, A130], by simp [A0, A1, A11, A12, A13, A20, A128, A129, A130], by simp [A0, A1, A11, A12, A13, A20, A128, A129, A130], by simp [A0, A1, A11, A12, A13, A20, A128, A129, A130], by simp [A0, A1, A11, A12, A13, A20, A128, A129, A130], by simp [A0, A1, A11, A12, A13, A20, A128, A129, A130], by simp [A0, A1, A11, A12, A13, A20, A128, A129, A130], by omega, fun j hj => by (by_cases e : j = i; (subst e; exact hy); exact hne j (by omega))⟩
          have hno : ∀ y ∈ BB.1, ¬ y = (q : Int) := by
            intro y hy
            obtain ⟨j, hj, rfl⟩ := List.mem_iff_getElem.1 hy
            rw [← nth_eq hj]; exact hne j (by omega)
          have hO := hout hno
          obtain ⟨F3, H3, e3, a3, b3⟩ := app_any (h := Ah) (fl := (false, true, none)) (l := []) (m := l.take q) (App.full _ _ _) (by simp; omega)
          obtain ⟨F4, H4, e4, a4, b4⟩ := app_any (h := H3) (fl := F3) (l := l.take q) (m := l.drop (q + 1)) a3 (by simp; omega)
          rw [List.nil_append] at e3
          have e4' : ∀ fl2, appendV Tryd.prog H3 false #[22, 22] (R F3 eE (l.take q)) (R fl2 eE (l.drop (q + 1))) = some (R F4 eE (outE l q), H4) := e4
          rw [hO] at hSo
          simp only at hSo
          repeat' (first | (refine wpc_split _ (fun hc => ?_) (fun hc => ?_) <;> (try simp at hc)) | (refine ww_split _ (fun hc => ?_) (fun hc => ?_) <;> (try simp at hc)) | (refine wp_drawF (by kernel_rfl) ?_) | (refine wk_yldW _ ?_) | (refine layOwe _ (by kernel_rfl) ?_) | (refine owe ?_ (fun ho => ?_)) | (simp (disch := first | assumption | omega | (simp; done) | (simp; omega)) [A0, A1, A11, A12, A13, A20, A128, A129, A130, hnl, e3, e4', hSo, List.take_length, -getElem?_pos, List.getElem?_cons_zero, List.getElem?_cons_succ]))
          refine wp_loopE cfg rfl (fun f0 h0 m fr h => ∃ i : Nat, fr 11 = f0 11 ∧ fr 20 = f0 20 ∧ fr 28 = f0 28 ∧ fr 174 = f0 174 ∧ fr 175 = f0 175 ∧ fr 176 = .int .i64 i ∧ (i + m = BB.1.length)) (BB.1.length) _ _ ⟨0, rfl, rfl, rfl, rfl, rfl, by first | rfl | (simp; done) | (simp [R]; done) | simp [R], by first | rfl | (simp; done) | omega⟩ ?_
          rintro Bm Bf Bh ⟨i, B11, B20, B28, B174, B175, B176, hm8⟩ Bih
          try simp [A0, A1, A11, A12, A13, A20, A128, A129, A130] at B11 B20 B28 B174 B175
          by_cases hi2 : i < BB.1.length
          · have hmm := nth_map' (f := dnI q) hi2
            have hyb := hBl _ (nth_mem hi2)
            have hlm : (BB.1.map (dnI q)).length = BB.1.length := by simp
            by_cases hgt : (q : Int) < nth BB.1 i
            · have hd : dnI q (nth BB.1 i) = nth BB.1 i - 1 := by unfold dnI; rw [if_pos hgt]
              rw [hd] at hmm
              repeat' (first | (refine wpc_split _ (fun hc => ?_) (fun hc => ?_) <;> (try simp at hc)) | (refine ww_split _ (fun hc => ?_) (fun hc => ?_) <;> (try simp at hc)) | (refine wp_drawF (by kernel_rfl) ?_) | (refine wk_yldW _ ?_) | (refine layOwe _ (by kernel_rfl) ?_) | (refine owe ?_ (fun ho => ?_)) | (simp (disch := first | assumption | omega | (simp; done) | (simp; omega)) [B11, B20, B28, B174, B175, B176, eI, hmm, hlm, -getElem?_pos, List.getElem?_cons_zero, List.getElem?_cons_succ]))
              all_goals first
                | (exfalso; omega)
                | exact Bih (Bm - 1) _ _ (by omega) ⟨i + 1, by simp [B11, B20, B28, B174, B175, B176, A0, A1, A11, A12, A13, A20, A128, A129, A130], by simp [B11, B20, B28, B174, B175, B176, A0, A1, A11, A12, A13, A20, A128, A129, A130], by simp [B11, B20, B28, B174, B175, B176, A0, A1, A11, A12, A13, A20, A128, A129, A130], by simp [B11, B20, B28, B174, B175, B176, A0, A1, A11, A12, A13, A20, A128, A129, A130], by simp [B11, B20, B28, B174, B175, B176, A0, A1, A11, A12, A13, A20, A128, A129, A130], by simp [B11, B20, B28, B174, B175, B176, A0, A1, A11, A12, A13, A20, A128, A129, A130], by omega⟩
            · have hd : dnI q (nth BB.1 i) = nth BB.1 i := by unfold dnI; rw [if_neg hgt]
              rw [hd] at hmm
              repeat' (first | (refine wpc_split _ (fun hc => ?_) (fun hc => ?_) <;> (try simp at hc)) | (refine ww_split _ (fun hc => ?_) (fun hc => ?_) <;> (try simp at hc)) | (refine wp_drawF (by kernel_rfl) ?_) | (refine wk_yldW _ ?_) | (refine layOwe _ (by kernel_rfl) ?_) | (refine owe ?_ (fun ho => ?_)) | (simp (disch := first | assumption | omega | (simp; done) | (simp; omega)) [B11, B20, B28, B174, B175, B176, eI, hmm, hlm, -getElem?_pos, List.getElem?_cons_zero, List.getElem?_cons_succ]))
              all_goals first
                | (exfalso; omega)
                | exact Bih (Bm - 1) _ _ (by omega) ⟨i + 1, by simp [B11, B20, B28, B174, B175, B176, A0, A1, A11, A12, A13, A20, A128, A129, A130], by simp [B11, B20, B28, B174, B175, B176, A0, A1, A11, A12, A13, A20, A128, A129, A130], by simp [B11, B20, B28, B174, B175, B176, A0, A1, A11, A12, A13, A20, A128, A129, A130], by simp [B11, B20, B28, B174, B175, B176, A0, A1, A11, A12, A13, A20, A128, A129, A130], by simp [B11, B20, B28, B174, B175, B176, A0, A1, A11, A12, A13, A20, A128, A129, A130], by simp [B11, B20, B28, B174, B175, B176, A0, A1, A11, A12, A13, A20, A128, A129, A130], by omega⟩
          · repeat' (first | (refine wpc_split _ (fun hc => ?_) (fun hc => ?_) <;> (try simp at hc)) | (refine ww_split _ (fun hc => ?_) (fun hc => ?_) <;> (try simp at hc)) | (refine wp_drawF (by kernel_rfl) ?_) | (refine wk_yldW _ ?_) | (refine layOwe _ (by kernel_rfl) ?_) | (refine owe ?_ (fun ho => ?_)) | (simp (disch := first | assumption | omega | (simp; done) | (simp; omega)) [B11, B20, B28, B174, B175, B176, -getElem?_pos, List.getElem?_cons_zero, List.getElem?_cons_succ]))
        · skip
          refine outS_of_wp cfg (fn := Tryd.f8) Tryd.func8 rfl (by simp [Tryd.f8]) ?_
          simp (config := { maxSteps := 2000000 }) (disch := first | assumption | omega | (simp; done) | (simp; omega)) [-getElem?_pos, List.getElem?_cons_zero, List.getElem?_cons_succ, Tryd.f8, hr, emptyH, hBB, hB0]
          repeat' (first | (refine wpc_split _ (fun hc => ?_) (fun hc => ?_) <;> (try simp at hc)) | (refine ww_split _ (fun hc => ?_) (fun hc => ?_) <;> (try simp at hc)) | (refine wp_drawF (by kernel_rfl) ?_) | (refine wk_yldW _ ?_) | (refine layOwe _ (by kernel_rfl) ?_) | (refine owe ?_ (fun ho => ?_)) | (simp (config := { maxSteps := 2000000 }) (disch := first | assumption | omega | (simp; done) | (simp; omega)) [hr, emptyH, hBB, hB0, hnl, hf1, e1, e2, b1, b2, S1, hm, hmod, hmod2, hz, hapB, hrc, eE, hrl, S2, m1, hok, m3, -getElem?_pos, List.getElem?_cons_zero, List.getElem?_cons_succ]))
          all_goals first
            | (exfalso; omega)
            | skip
          refine wp_loopE cfg rfl (fun f0 h0 m fr h => ∃ i : Nat, fr 0 = f0 0 ∧ fr 1 = f0 1 ∧ fr 11 = f0 11 ∧ fr 12 = f0 12 ∧ fr 13 = f0 13 ∧ fr 20 = f0 20 ∧ fr 128 = f0 128 ∧ fr 129 = f0 129 ∧ fr 130 = .int .i64 i ∧ (i + m = BB.1.length) ∧ (∀ j, j < i → ¬ nth BB.1 j = (q : Int))) (BB.1.length) _ _ ⟨0, rfl, rfl, rfl, rfl, rfl, rfl, rfl, rfl, by first | rfl | (simp; done) | (simp [R]; done) | simp [R], by first | rfl | (simp; done) | omega, fun j hj => by omega⟩ ?_
          rintro Am Af Ah ⟨i, A0, A1, A11, A12, A13, A20, A128, A129, A130, hm9, hne⟩ Aih
          try simp at A0 A1 A11 A12 A13 A20 A128 A129
          by_cases hi : i < BB.1.length
          · by_cases hy : nth BB.1 i = (q : Int)
            · repeat' (first | (refine wpc_split _ (fun hc => ?_) (fun hc => ?_) <;> (try simp at hc)) | (refine ww_split _ (fun hc => ?_) (fun hc => ?_) <;> (try simp at hc)) | (refine wp_drawF (by kernel_rfl) ?_) | (refine wk_yldW _ ?_) | (refine layOwe _ (by kernel_rfl) ?_) | (refine owe ?_ (fun ho => ?_)) | (simp (disch := first | assumption | omega | (simp; done) | (simp; omega)) [A0, A1, A11, A12, A13, A20, A128, A129, A130, eI, hy, -getElem?_pos, List.getElem?_cons_zero, List.getElem?_cons_succ]))
            · have hy2 : (nth BB.1 i == (q : Int)) = false := by rw [beq_eq_false_iff_ne]; exact hy
              repeat' (first | (refine wpc_split _ (fun hc => ?_) (fun hc => ?_) <;> (try simp at hc)) | (refine ww_split _ (fun hc => ?_) (fun hc => ?_) <;> (try simp at hc)) | (refine wp_drawF (by kernel_rfl) ?_) | (refine wk_yldW _ ?_) | (refine layOwe _ (by kernel_rfl) ?_) | (refine owe ?_ (fun ho => ?_)) | (simp (disch := first | assumption | omega | (simp; done) | (simp; omega)) [A0, A1, A11, A12, A13, A20, A128, A129, A130, eI, hy2, -getElem?_pos, List.getElem?_cons_zero, List.getElem?_cons_succ]))
              exact Aih (Am - 1) _ _ (by omega) ⟨i + 1, by simp [A0, A1, A11, A12, A13, A20, A128, A129, A130], by simp [A0, A1, A11, A12, A13, A20, A128, A129, A130], by simp [A0, A1, A11, A12, A13, A20, A128, A129, A130], by simp [A0, A1, A11, A12, A13, A20, A128, A129, A130], by simp [A0, A1, A11, A12, A13, A20, A128, A129, A130], by simp [A0, A1, A11, A12, A13, A20, A128, A129, A130], by simp [A0, A1, A11, A12, A13, A20, A128, A129, A130], by simp [A0, A1, A11, A12, A13, A20, A128, A129, A130], by simp [A0, A1, A11, A12, A13, A20, A128, A129, A130], by omega, fun j hj => by (by_cases e : j = i; (subst e; exact hy); exact hne j (by omega))⟩
          have hno : ∀ y ∈ BB.1, ¬ y = (q : Int) := by
            intro y hy
            obtain ⟨j, hj, rfl⟩ := List.mem_iff_getElem.1 hy
            rw [← nth_eq hj]; exact hne j (by omega)
          have hO := hout hno
          obtain ⟨F3, H3, e3, a3, b3⟩ := app_any (h := Ah) (fl := (false, true, none)) (l := []) (m := l.take q) (App.full _ _ _) (by simp; omega)
          obtain ⟨F4, H4, e4, a4, b4⟩ := app_any (h := H3) (fl := F3) (l := l.take q) (m := l.drop (q + 1)) a3 (by simp; omega)
          rw [List.nil_append] at e3
          have e4' : ∀ fl2, appendV Tryd.prog H3 false #[22, 22] (R F3 eE (l.take q)) (R fl2 eE (l.drop (q + 1))) = some (R F4 eE (outE l q), H4) := e4
          rw [hO] at hSo
          simp only at hSo
          repeat' (first | (refine wpc_split _ (fun hc => ?_) (fun hc => ?_) <;> (try simp at hc)) | (refine ww_split _ (fun hc => ?_) (fun hc => ?_) <;> (try simp at hc)) | (refine wp_drawF (by kernel_rfl) ?_) | (refine wk_yldW _ ?_) | (refine layOwe _ (by kernel_rfl) ?_) | (refine owe ?_ (fun ho => ?_)) | (simp (disch := first | assumption | omega | (simp; done) | (simp; omega)) [A0, A1, A11, A12, A13, A20, A128, A129, A130, hnl, e3, e4', hSo, List.take_length, -getElem?_pos, List.getElem?_cons_zero, List.getElem?_cons_succ]))
          refine wp_loopE cfg rfl (fun f0 h0 m fr h => ∃ i : Nat, fr 11 = f0 11 ∧ fr 20 = f0 20 ∧ fr 28 = f0 28 ∧ fr 174 = f0 174 ∧ fr 175 = f0 175 ∧ fr 176 = .int .i64 i ∧ (i + m = BB.1.length)) (BB.1.length) _ _ ⟨0, rfl, rfl, rfl, rfl, rfl, by first | rfl | (simp; done) | (simp [R]; done) | simp [R], by first | rfl | (simp; done) | omega⟩ ?_
          rintro Bm Bf Bh ⟨i, B11, B20, B28, B174, B175, B176, hm8⟩ Bih
          try simp [A0, A1, A11, A12, A13, A20, A128, A129, A130] at B11 B20 B28 B174 B175
          by_cases hi2 : i < BB.1.length
          · have hmm := nth_map' (f := dnI q) hi2
            have hyb := hBl _ (nth_mem hi2)
            have hlm : (BB.1.map (dnI q)).length = BB.1.length := by simp
            by_cases hgt : (q : Int) < nth BB.1 i
            · have hd : dnI q (nth BB.1 i) = nth BB.1 i - 1 := by unfold dnI; rw [if_pos hgt]
              rw [hd] at hmm
              repeat' (first | (refine wpc_split _ (fun hc => ?_) (fun hc => ?_) <;> (try simp at hc)) | (refine ww_split _ (fun hc => ?_) (fun hc => ?_) <;> (try simp at hc)) | (refine wp_drawF (by kernel_rfl) ?_) | (refine wk_yldW _ ?_) | (refine layOwe _ (by kernel_rfl) ?_) | (refine owe ?_ (fun ho => ?_)) | (simp (disch := first | assumption | omega | (simp; done) | (simp; omega)) [B11, B20, B28, B174, B175, B176, eI, hmm, hlm, -getElem?_pos, List.getElem?_cons_zero, List.getElem?_cons_succ]))
              all_goals first
                | (exfalso; omega)
                | exact Bih (Bm - 1) _ _ (by omega) ⟨i + 1, by simp [B11, B20, B28, B174, B175, B176, A0, A1, A11, A12, A13, A20, A128, A129, A130], by simp [B11, B20, B28, B174, B175, B176, A0, A1, A11, A12, A13, A20, A128, A129, A130], by simp [B11, B20, B28, B174, B175, B176, A0, A1, A11, A12, A13, A20, A128, A129, A130], by simp [B11, B20, B28, B174, B175, B176, A0, A1, A11, A12, A13, A20, A128, A129, A130], by simp [B11, B20, B28, B174, B175, B176, A0, A1, A11, A12, A13, A20, A128, A129, A130], by simp [B11, B20, B28, B174, B175, B176, A0, A1, A11, A12, A13, A20, A128, A129, A130], by omega⟩
            · have hd : dnI q (nth BB.1 i) = nth BB.1 i := by unfold dnI; rw [if_neg hgt]
              rw [hd] at hmm
              repeat' (first | (refine wpc_split _ (fun hc => ?_) (fun hc => ?_) <;> (try simp at hc)) | (refine ww_split _ (fun hc => ?_) (fun hc => ?_) <;> (try simp at hc)) | (refine wp_drawF (by kernel_rfl) ?_) | (refine wk_yldW _ ?_) | (refine layOwe _ (by kernel_rfl) ?_) | (refine owe ?_ (fun ho => ?_)) | (simp (disch := first | assumption | omega | (simp; done) | (simp; omega)) [B11, B20, B28, B174, B175, B176, eI, hmm, hlm, -getElem?_pos, List.getElem?_cons_zero, List.getElem?_cons_succ]))
              all_goals first
                | (exfalso; omega)
                | exact Bih (Bm - 1) _ _ (by omega) ⟨i + 1, by simp [B11, B20, B28, B174, B175, B176, A0, A1, A11, A12, A13, A20, A128, A129, A130], by simp [B11, B20, B28, B174, B175, B176, A0, A1, A11, A12, A13, A20, A128, A129, A130], by simp [B11, B20, B28, B174, B175, B176, A0, A1, A11, A12, A13, A20, A128, A129, A130], by simp [B11, B20, B28, B174, B175, B176, A0, A1, A11, A12, A13, A20, A128, A129, A130], by simp [B11, B20, B28, B174, B175, B176, A0, A1, A11, A12, A13, A20, A128, A129, A130], by simp [B11, B20, B28, B174, B175, B176, A0, A1, A11, A12, A13, A20, A128, A129, A130], by omega⟩
          · repeat' (first | (refine wpc_split _ (fun hc => ?_) (fun hc => ?_) <;> (try simp at hc)) | (refine ww_split _ (fun hc => ?_) (fun hc => ?_) <;> (try simp at hc)) | (refine wp_drawF (by kernel_rfl) ?_) | (refine wk_yldW _ ?_) | (refine layOwe _ (by kernel_rfl) ?_) | (refine owe ?_ (fun ho => ?_)) | (simp (disch := first | assumption | omega | (simp; done) | (simp; omega)) [B11, B20, B28, B174, B175, B176, -getElem?_pos, List.getElem?_cons_zero, List.getElem?_cons_succ]))
      · rcases hmode with ⟨_, hm⟩ | ⟨_, hm, m1, hok⟩ | ⟨_, hm, m1, hok, m3, m4⟩
        · skip
          refine outS_of_wp cfg (fn := Tryd.f8) Tryd.func8 rfl (by simp [Tryd.f8]) ?_
          simp (config := { maxSteps := 2000000 }) (disch := first | assumption | omega | (simp; done) | (simp; omega)) [-getElem?_pos, List.getElem?_cons_zero, List.getElem?_cons_succ, Tryd.f8, hr, emptyH, hBB, hB0]
          repeat' (first | (refine wpc_split _ (fun hc => ?_) (fun hc => ?_) <;> (try simp at hc)) | (refine ww_split _ (fun hc => ?_) (fun hc => ?_) <;> (try simp at hc)) | (refine wp_drawF (by kernel_rfl) ?_) | (refine wk_yldW _ ?_) | (refine layOwe _ (by kernel_rfl) ?_) | (refine owe ?_ (fun ho => ?_)) | (simp (config := { maxSteps := 2000000 }) (disch := first | assumption | omega | (simp; done) | (simp; omega)) [hr, emptyH, hBB, hB0, hnl, hf1, e1, e2, b1, b2, S1, hm, hmod, hmod2, hz, hapB, hrc, eE, hrl, -getElem?_pos, List.getElem?_cons_zero, List.getElem?_cons_succ]))
          all_goals first
            | (exfalso; omega)
            | skip
          refine wp_loopE cfg rfl (fun f0 h0 m fr h => ∃ i : Nat, fr 0 = f0 0 ∧ fr 1 = f0 1 ∧ fr 11 = f0 11 ∧ fr 12 = f0 12 ∧ fr 13 = f0 13 ∧ fr 20 = f0 20 ∧ fr 128 = f0 128 ∧ fr 129 = f0 129 ∧ fr 130 = .int .i64 i ∧ (i + m = BB.1.length) ∧ (∀ j, j < i → ¬ nth BB.1 j = (q : Int))) (BB.1.length) _ _ ⟨0, rfl, rfl, rfl, rfl, rfl, rfl, rfl, rfl, by first | rfl | (simp; done) | (simp [R]; done) | simp [R], by first | rfl | (simp; done) | omega, fun j hj => by omega⟩ ?_
          rintro Am Af Ah ⟨i, A0, A1, A11, A12, A13, A20, A128, A129, A130, hm9, hne⟩ Aih
          try simp at A0 A1 A11 A12 A13 A20 A128 A129
          by_cases hi : i < BB.1.length
          · by_cases hy : nth BB.1 i = (q : Int)
            · repeat' (first | (refine wpc_split _ (fun hc => ?_) (fun hc => ?_) <;> (try simp at hc)) | (refine ww_split _ (fun hc => ?_) (fun hc => ?_) <;> (try simp at hc)) | (refine wp_drawF (by kernel_rfl) ?_) | (refine wk_yldW _ ?_) | (refine layOwe _ (by kernel_rfl) ?_) | (refine owe ?_ (fun ho => ?_)) | (simp (disch := first | assumption | omega | (simp; done) | (simp; omega)) [A0, A1, A11, A12, A13, A20, A128, A129, A130, eI, hy, -getElem?_pos, List.getElem?_cons_zero, List.getElem?_cons_succ]))
            · have hy2 : (nth BB.1 i == (q : Int)) = false := by rw [beq_eq_false_iff_ne]; exact hy
              repeat' (first | (refine wpc_split _ (fun hc => ?_) (fun hc => ?_) <;> (try simp at hc)) | (refine ww_split _ (fun hc => ?_) (fun hc => ?_) <;> (try simp at hc)) | (refine wp_drawF (by kernel_rfl) ?_) | (refine wk_yldW _ ?_) | (refine layOwe _ (by kernel_rfl) ?_) | (refine owe ?_ (fun ho => ?_)) | (simp (disch := first | assumption | omega | (simp; done) | (simp; omega)) [A0, A1, A11, A12, A13, A20, A128, A129, A130, eI, hy2, -getElem?_pos, List.getElem?_cons_zero, List.getElem?_cons_succ]))
              exact Aih (Am - 1) _ _ (by omega) ⟨i + 1, by simp [A0, A1, A11, A12, A13, A20, A128, A129, A130], by simp [A0, A1, A11, A12, A13, A20, A128, A129, A130], by simp [A0, A1, A11, A12, A13, A20, A128, A129, A130], by simp [A0, A1, A11, A12, A13, A20, A128, A129, A130], by simp [A0, A1, A11, A12, A13, A20, A128, A129, A130], by simp [A0, A1, A11, A12, A13, A20, A128, A129, A130], by simp [A0, A1, A11, A12, A13, A20, A128, A129, A130], by simp [A0, A1, A11, A12, A13, A20, A128, A129, A130], by simp [A0, A1, A11, A12, A13, A20, A128, A129, A130], by omega, fun j hj => by (by_cases e : j = i; (subst e; exact hy); exact hne j (by omega))⟩
          have hno : ∀ y ∈ BB.1, ¬ y = (q : Int) := by
            intro y hy
            obtain ⟨j, hj, rfl⟩ := List.mem_iff_getElem.1 hy
            rw [← nth_eq hj]; exact hne j (by omega)
          have hO := hout hno
          obtain ⟨F3, H3, e3, a3, b3⟩ := app_any (h := Ah) (fl := (false, true, none)) (l := []) (m := l.take q) (App.full _ _ _) (by simp; omega)
          obtain ⟨F4, H4, e4, a4, b4⟩ := app_any (h := H3) (fl := F3) (l := l.take q) (m := l.drop (q + 1)) a3 (by simp; omega)
          rw [List.nil_append] at e3
          have e4' : ∀ fl2, appendV Tryd.prog H3 false #[22, 22] (R F3 eE (l.take q)) (R fl2 eE (l.drop (q + 1))) = some (R F4 eE (outE l q), H4) := e4
          rw [hO] at hSo
          simp only at hSo
          repeat' (first | (refine wpc_split _ (fun hc => ?_) (fun hc => ?_) <;> (try simp at hc)) | (refine ww_split _ (fun hc => ?_) (fun hc => ?_) <;> (try simp at hc)) | (refine wp_drawF (by kernel_rfl) ?_) | (refine wk_yldW _ ?_) | (refine layOwe _ (by kernel_rfl) ?_) | (refine owe ?_ (fun ho => ?_)) | (simp (disch := first | assumption | omega | (simp; done) | (simp; omega)) [A0, A1, A11, A12, A13, A20, A128, A129, A130, hnl, e3, e4', hSo, List.take_length, -getElem?_pos, List.getElem?_cons_zero, List.getElem?_cons_succ]))
          refine wp_loopE cfg rfl (fun f0 h0 m fr h => ∃ i : Nat, fr 11 = f0 11 ∧ fr 20 = f0 20 ∧ fr 28 = f0 28 ∧ fr 174 = f0 174 ∧ fr 175 = f0 175 ∧ fr 176 = .int .i64 i ∧ (i + m = BB.1.length)) (BB.1.length) _ _ ⟨0, rfl, rfl, rfl, rfl, rfl, by first | rfl | (simp; done) | (simp [R]; done) | simp [R], by first | rfl | (simp; done) | omega⟩ ?_
          rintro Bm Bf Bh ⟨i, B11, B20, B28, B174, B175, B176, hm8⟩ Bih
          try simp [A0, A1, A11, A12, A13, A20, A128, A129, A130] at B11 B20 B28 B174 B175
          by_cases hi2 : i < BB.1.length
          · have hmm := nth_map' (f := dnI q) hi2
            have hyb := hBl _ (nth_mem hi2)
            have hlm : (BB.1.map (dnI q)).length = BB.1.length := by simp
            by_cases hgt : (q : Int) < nth BB.1 i
            · have hd : dnI q (nth BB.1 i) = nth BB.1 i - 1 := by unfold dnI; rw [if_pos hgt]
              rw [hd] at hmm
              repeat' (first | (refine wpc_split _ (fun hc => ?_) (fun hc => ?_) <;> (try simp at hc)) | (refine ww_split _ (fun hc => ?_) (fun hc => ?_) <;> (try simp at hc)) | (refine wp_drawF (by kernel_rfl) ?_) | (refine wk_yldW _ ?_) | (refine layOwe _ (by kernel_rfl) ?_) | (refine owe ?_ (fun ho => ?_)) | (simp (disch := first | assumption | omega | (simp; done) | (simp; omega)) [B11, B20, B28, B174, B175, B176, eI, hmm, hlm, -getElem?_pos, List.getElem?_cons_zero, List.getElem?_cons_succ]))
              all_goals first
                | (exfalso; omega)
                | exact Bih (Bm - 1) _ _ (by omega) ⟨i + 1, by simp [B11, B20, B28, B174, B175, B176, A0, A1, A11, A12, A13, A20, A128, A129, A130], by simp [B11, B20, B28, B174, B175, B176, A0, A1, A11, A12, A13, A20, A128, A129, A130], by simp [B11, B20, B28, B174, B175, B176, A0, A1, A11, A12, A13, A20, A128, A129, A130], by simp [B11, B20, B28, B174, B175, B176, A0, A1, A11, A12, A13, A20, A128, A129, A130], by simp [B11, B20, B28, B174, B175, B176, A0, A1, A11, A12, A13, A20, A128, A129, A130], by simp [B11, B20, B28, B174, B175, B176, A0, A1, A11, A12, A13, A20, A128, A129, A130], by omega⟩
            · have hd : dnI q (nth BB.1 i) = nth BB.1 i := by unfold dnI; rw [if_neg hgt]
              rw [hd] at hmm
              repeat' (first | (refine wpc_split _ (fun hc => ?_) (fun hc => ?_) <;> (try simp at hc)) | (refine ww_split _ (fun hc => ?_) (fun hc => ?_) <;> (try simp at hc)) | (refine wp_drawF (by kernel_rfl) ?_) | (refine wk_yldW _ ?_) | (refine layOwe _ (by kernel_rfl) ?_) | (refine owe ?_ (fun ho => ?_)) | (simp (disch := first | assumption | omega | (simp; done) | (simp; omega)) [B11, B20, B28, B174, B175, B176, eI, hmm, hlm, -getElem?_pos, List.getElem?_cons_zero, List.getElem?_cons_succ]))
              all_goals first
                | (exfalso; omega)
                | exact Bih (Bm - 1) _ _ (by omega) ⟨i + 1, by simp [B11, B20, B28, B174, B175, B176, A0, A1, A11, A12, A13, A20, A128, A129, A130], by simp [B11, B20, B28, B174, B175, B176, A0, A1, A11, A12, A13, A20, A128, A129, A130], by simp [B11, B20, B28, B174, B175, B176, A0, A1, A11, A12, A13, A20, A128, A129, A130], by simp [B11, B20, B28, B174, B175, B176, A0, A1, A11, A12, A13, A20, A128, A129, A130], by simp [B11, B20, B28, B174, B175, B176, A0, A1, A11, A12, A13, A20, A128, A129, A130], by simp [B11, B20, B28, B174, B175, B176, A0, A1, A11, A12, A13, A20, A128, A129, A130], by omega⟩
          · repeat' (first | (refine wpc_split _ (fun hc => ?_) (fun hc => ?_) <;> (try simp at hc)) | (refine ww_split _ (fun hc => ?_) (fun hc => ?_) <;> (try simp at hc)) | (refine wp_drawF (by kernel_rfl) ?_) | (refine wk_yldW _ ?_) | (refine layOwe _ (by kernel_rfl) ?_) | (refine owe ?_ (fun ho => ?_)) | (simp (disch := first | assumption | omega | (simp; done) | (simp; omega)) [B11, B20, B28, B174, B175, B176, -getElem?_pos, List.getElem?_cons_zero, List.getElem?_cons_succ]))
        · skip
          refine outS_of_wp cfg (fn := Tryd.f8) Tryd.func8 rfl (by simp [Tryd.f8]) ?_
          simp (config := { maxSteps := 2000000 }) (disch := first | assumption | omega | (simp; done) | (simp; omega)) [-getElem?_pos, List.getElem?_cons_zero, List.getElem?_cons_succ, Tryd.f8, hr, emptyH, hBB, hB0]
          repeat' (first | (refine wpc_split _ (fun hc => ?_) (fun hc => ?_) <;> (try simp at hc)) | (refine ww_split _ (fun hc => ?_) (fun hc => ?_) <;> (try simp at hc)) | (refine wp_drawF (by kernel_rfl) ?_) | (refine wk_yldW _ ?_) | (refine layOwe _ (by kernel_rfl) ?_) | (refine owe ?_ (fun ho => ?_)) | (simp (config := { maxSteps := 2000000 }) (disch := first | assumption | omega | (simp; done) | (simp; omega)) [hr, emptyH, hBB, hB0, hnl, hf1, e1, e2, b1, b2, S1, hm, hmod, hmod2, hz, hapB, hrc, eE, hrl, S2, m1, hok, -getElem?_pos, List.getElem?_cons_zero, List.getElem?_cons_succ]))
          all_goals first
            | (exfalso; omega)
            | skip
          refine wp_loopE cfg rfl (fun f0 h0 m fr h => ∃ i : Nat, fr 0 = f0 0 ∧ fr 1 = f0 1 ∧ fr 11 = f0 11 ∧ fr 12 = f0 12 ∧ fr 13 = f0 13 ∧ fr 20 = f0 20 ∧ fr 128 = f0 128 ∧ fr 129 = f0 129 ∧ fr 130 = .int .i64 i ∧ (i + m = BB.1.length) ∧ (∀ j, j < i → ¬ nth BB.1 j = (q : Int))) (BB.1.length) _ _ ⟨0, rfl, rfl, rfl, rfl, rfl, rfl, rfl, rfl, by first | rfl | (simp; done) | (simp [R]; done) | simp [R], by first | rfl | (simp; done) | omega, fun j hj => by omega⟩ ?_
          rintro Am Af Ah ⟨i, A0, A1, A11, A12, A13, A20, A128, A129, A130, hm9, hne⟩ Aih
          try simp at A0 A1 A11 A12 A13 A20 A128 A129
          by_cases hi : i < BB.1.length
          · by_cases hy : nth BB.1 i = (q : Int)
            · repeat' (first | (refine wpc_split _ (fun hc => ?_) (fun hc => ?_) <;> (try simp at hc)) | (refine ww_split _ (fun hc => ?_) (fun hc => ?_) <;> (try simp at hc)) | (refine wp_drawF (by kernel_rfl) ?_) | (refine wk_yldW _ ?_) | (refine layOwe _ (by kernel_rfl) ?_) | (refine owe ?_ (fun ho => ?_)) | (simp (disch := first | assumption | omega | (simp; done) | (simp; omega)) [A0, A1, A11, A12, A13, A20, A128, A129, A130, eI, hy, -getElem?_pos, List.getElem?_cons_zero, List.getElem?_cons_succ]))
            · have hy2 : (nth BB.1 i == (q : Int)) = false := by rw [beq_eq_false_iff_ne]; exact hy
              repeat' (first | (refine wpc_split _ (fun hc => ?_) (fun hc => ?_) <;> (try simp at hc)) | (refine ww_split _ (fun hc => ?_) (fun hc => ?_) <;> (try simp at hc)) | (refine wp_drawF (by kernel_rfl) ?_) | (refine wk_yldW _ ?_) | (refine layOwe _ (by kernel_rfl) ?_) | (refine owe ?_ (fun ho => ?_)) | (simp (disch := first | assumption | omega | (simp; done) | (simp; omega)) [A0, A1, A11, A12, A13, A20, A128, A129, A130, eI, hy2, -getElem?_pos, List.getElem?_cons_zero, List.getElem?_cons_succ]))
              exact Aih (Am - 1) _ _ (by omega) ⟨i + 1, by simp [A0, A1, A11, A12, A13, A20, A128, A129, A130], by simp [A0, A1, A11, A12, A13, A20, A128, A129, A130], by simp [A0, A1, A11, A12, A13, A20, A128, A129, A130], by simp [A0, A1, A11, A12, A13, A20, A128, A129, A130], by simp [A0, A1, A11, A12, A13, A20, A128, A129, A130], by simp [A0, A1, A11, A12, A13, A20, A128, A129, A130], by simp [A0, A1, A11, A12, A13, A20, A128, A129, A130], by simp [A0, A1, A11, A12, A13, A20, A128, A129, A130], by simp [A0, A1, A11, A12, A13, A20, A128, A129, A130], by omega, fun j hj => by (by_cases e : j = i; (subst e; exact hy); exact hne j (by omega))⟩
          have hno : ∀ y ∈ BB.1, ¬ y = (q : Int) := by
            intro y hy
            obtain ⟨j, hj, rfl⟩ := List.mem_iff_getElem.1 hy
            rw [← nth_eq hj]; exact hne j (by omega)
          have hO := hout hno
          obtain ⟨F3, H3, e3, a3, b3⟩ := app_any (h := Ah) (fl := (false, true, none)) (l := []) (m := l.take q) (App.full _ _ _) (by simp; omega)
          obtain ⟨F4, H4, e4, a4, b4⟩ := app_any (h := H3) (fl := F3) (l := l.take q) (m := l.drop (q + 1)) a3 (by simp; omega)
          rw [List.nil_append] at e3
          have e4' : ∀ fl2, appendV Tryd.prog H3 false #[22, 22] (R F3 eE (l.take q)) (R fl2 eE (l.drop (q + 1))) = some (R F4 eE (outE l q), H4) := e4
          rw [hO] at hSo
          simp only at hSo
          repeat' (first | (refine wpc_split _ (fun hc => ?_) (fun hc => ?_) <;> (try simp at hc)) | (refine ww_split _ (fun hc => ?_) (fun hc => ?_) <;> (try simp at hc)) | (refine wp_drawF (by kernel_rfl) ?_) | (refine wk_yldW _ ?_) | (refine layOwe _ (by kernel_rfl) ?_) | (refine owe ?_ (fun ho => ?_)) | (simp (disch := first | assumption | omega | (simp; done) | (simp; omega)) [A0, A1, A11, A12, A13, A20, A128, A129, A130, hnl, e3, e4', hSo, List.take_length, -getElem?_pos, List.getElem?_cons_zero, List.getElem?_cons_succ]))
          refine wp_loopE cfg rfl (fun f0 h0 m fr h => ∃ i : Nat, fr 11 = f0 11 ∧ fr 20 = f0 20 ∧ fr 28 = f0 28 ∧ fr 174 = f0 174 ∧ fr 175 = f0 175 ∧ fr 176 = .int .i64 i ∧ (i + m = BB.1.length)) (BB.1.length) _ _ ⟨0, rfl, rfl, rfl, rfl, rfl, by first | rfl | (simp; done) | (simp [R]; done) | simp [R], by first | rfl | (simp; done) | omega⟩ ?_
          rintro Bm Bf Bh ⟨i, B11, B20, B28, B174, B175, B176, hm8⟩ Bih
          try simp [A0, A1, A11, A12, A13, A20, A128, A129, A130] at B11 B20 B28 B174 B175
          by_cases hi2 : i < BB.1.length
          · have hmm := nth_map' (f := dnI q) hi2
            have hyb := hBl _ (nth_mem hi2)
            have hlm : (BB.1.map (dnI q)).length = BB.1.length := by simp
            by_cases hgt : (q : Int) < nth BB.1 i
            · have hd : dnI q (nth BB.1 i) = nth BB.1 i - 1 := by unfold dnI; rw [if_pos hgt]
              rw [hd] at hmm
              repeat' (first | (refine wpc_split _ (fun hc => ?_) (fun hc => ?_) <;> (try simp at hc)) | (refine ww_split _ (fun hc => ?_) (fun hc => ?_) <;> (try simp at hc)) | (refine wp_drawF (by kernel_rfl) ?_) | (refine wk_yldW _ ?_) | (refine layOwe _ (by kernel_rfl) ?_) | (refine owe ?_ (fun ho => ?_)) | (simp (disch := first | assumption | omega | (simp; done) | (simp; omega)) [B11, B20, B28, B174, B175, B176, eI, hmm, hlm, -getElem?_pos, List.getElem?_cons_zero, List.getElem?_cons_succ]))
              all_goals first
                | (exfalso; omega)
                | exact Bih (Bm - 1) _ _ (by omega) ⟨i + 1, by simp [B11, B20, B28, B174, B175, B176, A0, A1, A11, A12, A13, A20, A128, A129, A130], by simp [B11, B20, B28, B174, B175, B176, A0, A1, A11, A12, A13, A20, A128, A129, A130], by simp [B11, B20, B28, B174, B175, B176, A0, A1, A11, A12, A13, A20, A128, A129, A130], by simp [B11, B20, B28, B174, B175, B176, A0, A1, A11, A12, A13, A20, A128, A129, A130], by simp [B11, B20, B28, B174, B175, B176, A0, A1, A11, A12, A13, A20, A128, A129, A130], by simp [B11, B20, B28, B174, B175, B176, A0, A1, A11, A12, A13, A20, A128, A129, A130], by omega⟩
            · have hd : dnI q (nth BB.1 i) = nth BB.1 i := by unfold dnI; rw [if_neg hgt]
              rw [hd] at hmm
              repeat' (first | (refine wpc_split _ (fun hc => ?_) (fun hc => ?_) <;> (try simp at hc)) | (refine ww_split _ (fun hc => ?_) (fun hc => ?_) <;> (try simp at hc)) | (refine wp_drawF (by kernel_rfl) ?_) | (refine wk_yldW _ ?_) | (refine layOwe _ (by kernel_rfl) ?_) | (refine owe ?_ (fun ho => ?_)) | (simp (disch := first | assumption | omega | (simp; done) | (simp; omega)) [B11, B20, B28, B174, B175, B176, eI, hmm, hlm, -getElem?_pos, List.getElem?_cons_zero, List.getElem?_cons_succ]))
              all_goals first
                | (exfalso; omega)
                | exact Bih (Bm - 1) _ _ (by omega) ⟨i + 1, by simp [B11, B20, B28, B174, B175, B176, A0, A1, A11, A12, A13, A20, A128, A129, A130], by simp [B11, B20, B28, B174, B175, B176, A0, A1, A11, A12, A13, A20, A128, A129, A130], by simp [B11, B20, B28, B174, B175, B176, A0, A1, A11, A12, A13, A20, A128, A129, A130], by simp [B11, B20, B28, B174, B175, B176, A0, A1, A11, A12, A13, A20, A128, A129, A130], by simp [B11, B20, B28, B174, B175, B176, A0, A1, A11, A12, A13, A20, A128, A129, A130], by simp [B11, B20, B28, B174, B175, B176, A0, A1, A11, A12, A13, A20, A128, A129, A130], by omega⟩
          · repeat' (first | (refine wpc_split _ (fun hc => ?_) (fun hc => ?_) <;> (try simp at hc)) | (refine ww_split _ (fun hc => ?_) (fun hc => ?_) <;> (try simp at hc)) | (refine wp_drawF (by kernel_rfl) ?_) | (refine wk_yldW _ ?_) | (refine layOwe _ (by kernel_rfl) ?_) | (refine owe ?_ (fun ho => ?_)) | (simp (disch := first | assumption | omega | (simp; done) | (simp; omega)) [B11, B20, B28, B174, B175, B176, -getElem?_pos, List.getElem?_cons_zero, List.getElem?_cons_succ]))
        · skip
          refine outS_of_wp cfg (fn := Tryd.f8) Tryd.func8 rfl (by simp [Tryd.f8]) ?_
          simp (config := { maxSteps := 2000000 }) (disch := first | assumption | omega | (simp; done) | (simp; omega)) [-getElem?_pos, List.getElem?_cons_zero, List.getElem?_cons_succ, Tryd.f8, hr, emptyH, hBB, hB0]
          repeat' (first | (refine wpc_split _ (fun hc => ?_) (fun hc => ?_) <;> (try simp at hc)) | (refine ww_split _ (fun hc => ?_) (fun hc => ?_) <;> (try simp at hc)) | (refine wp_drawF (by kernel_rfl) ?_) | (refine wk_yldW _ ?_) | (refine layOwe _ (by kernel_rfl) ?_) | (refine owe ?_ (fun ho => ?_)) | (simp (config := { maxSteps := 2000000 }) (disch := first | assumption | omega | (simp; done) | (simp; omega)) [hr, emptyH, hBB, hB0, hnl, hf1, e1, e2, b1, b2, S1, hm, hmod, hmod2, hz, hapB, hrc, eE, hrl, S2, m1, hok, m3, -getElem?_pos, List.getElem?_cons_zero, List.getElem?_cons_succ]))
          all_goals first
            | (exfalso; omega)
            | skip
          refine wp_loopE cfg rfl (fun f0 h0 m fr h => ∃ i : Nat, fr 0 = f0 0 ∧ fr 1 = f0 1 ∧ fr 11 = f0 11 ∧ fr 12 = f0 12 ∧ fr 13 = f0 13 ∧ fr 20 = f0 20 ∧ fr 128 = f0 128 ∧ fr 129 = f0 129 ∧ fr 130 = .int .i64 i ∧ (i + m = BB.1.length) ∧ (∀ j, j < i → ¬ nth BB.1 j = (q : Int))) (BB.1.length) _ _ ⟨0, rfl, rfl, rfl, rfl, rfl, rfl, rfl, rfl, by first | rfl | (simp; done) | (simp [R]; done) | simp [R], by first | rfl | (simp; done) | omega, fun j hj => by omega⟩ ?_
          rintro Am Af Ah ⟨i, A0, A1, A11, A12, A13, A20, A128, A129, A130, hm9, hne⟩ Aih
          try simp at A0 A1 A11 A12 A13 A20 A128 A129
          by_cases hi : i < BB.1.length
          · by_cases hy : nth BB.1 i = (q : Int)
            · repeat' (first | (refine wpc_split _ (fun hc => ?_) (fun hc => ?_) <;> (try simp at hc)) | (refine ww_split _ (fun hc => ?_) (fun hc => ?_) <;> (try simp at hc)) | (refine wp_drawF (by kernel_rfl) ?_) | (refine wk_yldW _ ?_) | (refine layOwe _ (by kernel_rfl) ?_) | (refine owe ?_ (fun ho => ?_)) | (simp (disch := first | assumption | omega | (simp; done) | (simp; omega)) [A0, A1, A11, A12, A13, A20, A128, A129, A130, eI, hy, -getElem?_pos, List.getElem?_cons_zero, List.getElem?_cons_succ]))
            · have hy2 : (nth BB.1 i == (q : Int)) = false := by rw [beq_eq_false_iff_ne]; exact hy
              repeat' (first | (refine wpc_split _ (fun hc => ?_) (fun hc => ?_) <;> (try simp at hc)) | (refine ww_split _ (fun hc => ?_) (fun hc => ?_) <;> (try simp at hc)) | (refine wp_drawF (by kernel_rfl) ?_) | (refine wk_yldW _ ?_) | (refine layOwe _ (by kernel_rfl) ?_) | (refine owe ?_ (fun ho => ?_)) | (simp (disch := first | assumption | omega | (simp; done) | (simp; omega)) [A0, A1, A11, A12, A13, A20, A128, A129, A130, eI, hy2, -getElem?_pos, List.getElem?_cons_zero, List.getElem?_cons_succ]))
              exact Aih (Am - 1) _ _ (by omega) ⟨i + 1, by simp [A0, A1, A11, A12, A13, A20, A128, A129, A130], by simp [A0, A1, A11, A12, A13, A20, A128, A129, A130], by simp [A0, A1, A11, A12, A13, A20, A128, A129, A130], by simp [A0, A1, A11, A12, A13, A20, A128, A129, A130], by simp [A0, A1, A11, A12, A13, A20, A128, A129, A130], by simp [A0, A1, A11, A12, A13, A20, A128, A129, A130], by simp [A0, A1, A11, A12, A13, A20, A128, A129, A130], by simp [A0, A1, A11, A12, A13, A20, A128, A129, A130], by simp [A0, A1, A11, A12, A13, A20, A128, A129, A130], by omega, fun j hj => by (by_cases e : j = i; (subst e; exact hy); exact hne j (by omega))⟩
          have hno : ∀ y ∈ BB.1, ¬ y = (q : Int) := by
            intro y hy
            obtain ⟨j, hj, rfl⟩ := List.mem_iff_getElem.1 hy
            rw [← nth_eq hj]; exact hne j (by omega)
          have hO := hout hno
          obtain ⟨F3, H3, e3, a3, b3⟩ := app_any (h := Ah) (fl := (false, true, none)) (l := []) (m := l.take q) (App.full _ _ _) (by simp; omega)
          obtain ⟨F4, H4, e4, a4, b4⟩ := app_any (h := H3) (fl := F3) (l := l.take q) (m := l.drop (q + 1)) a3 (by simp; omega)
          rw [List.nil_append] at e3
          have e4' : ∀ fl2, appendV Tryd.prog H3 false #[22, 22] (R F3 eE (l.take q)) (R fl2 eE (l.drop (q + 1))) = some (R F4 eE (outE l q), H4) := e4
          rw [hO] at hSo
          simp only at hSo
          repeat' (first | (refine wpc_split _ (fun hc => ?_) (fun hc => ?_) <;> (try simp at hc)) | (refine ww_split _ (fun hc => ?_) (fun hc => ?_) <;> (try simp at hc)) | (refine wp_drawF (by kernel_rfl) ?_) | (refine wk_yldW _ ?_) | (refine layOwe _ (by kernel_rfl) ?_) | (refine owe ?_ (fun ho => ?_)) | (simp (disch := first | assumption | omega | (simp; done) | (simp; omega)) [A0, A1, A11, A12, A13, A20, A128, A129, A130, hnl, e3, e4', hSo, List.take_length, -getElem?_pos, List.getElem?_cons_zero, List.getElem?_cons_succ]))
          refine wp_loopE cfg rfl (fun f0 h0 m fr h => ∃ i : Nat, fr 11 = f0 11 ∧ fr 20 = f0 20 ∧ fr 28 = f0 28 ∧ fr 174 = f0 174 ∧ fr 175 = f0 175 ∧ fr 176 = .int .i64 i ∧ (i + m = BB.1.length)) (BB.1.length) _ _ ⟨0, rfl, rfl, rfl, rfl, rfl, by first | rfl | (simp; done) | (simp [R]; done) | simp [R], by first | rfl | (simp; done) | omega⟩ ?_
          rintro Bm Bf Bh ⟨i, B11, B20, B28, B174, B175, B176, hm8⟩ Bih
          try simp [A0, A1, A11, A12, A13, A20, A128, A129, A130] at B11 B20 B28 B174 B175
          by_cases hi2 : i < BB.1.length
          · have hmm := nth_map' (f := dnI q) hi2
            have hyb := hBl _ (nth_mem hi2)
            have hlm : (BB.1.map (dnI q)).length = BB.1.length := by simp
            by_cases hgt : (q : Int) < nth BB.1 i
            · have hd : dnI q (nth BB.1 i) = nth BB.1 i - 1 := by unfold dnI; rw [if_pos hgt]
              rw [hd] at hmm
              repeat' (first | (refine wpc_split _ (fun hc => ?_) (fun hc => ?_) <;> (try simp at hc)) | (refine ww_split _ (fun hc => ?_) (fun hc => ?_) <;> (try simp at hc)) | (refine wp_drawF (by kernel_rfl) ?_) | (refine wk_yldW _ ?_) | (refine layOwe _ (by kernel_rfl) ?_) | (refine owe ?_ (fun ho => ?_)) | (simp (disch := first | assumption | omega | (simp; done) | (simp; omega)) [B11, B20, B28, B174, B175, B176, eI, hmm, hlm, -getElem?_pos, List.getElem?_cons_zero, List.getElem?_cons_succ]))
              all_goals first
                | (exfalso; omega)
                | exact Bih (Bm - 1) _ _ (by omega) ⟨i + 1, by simp [B11, B20, B28, B174, B175, B176, A0, A1, A11, A12, A13, A20, A128, A129, A130], by simp [B11, B20, B28, B174, B175, B176, A0, A1, A11, A12, A13, A20, A128, A129, A130], by simp [B11, B20, B28, B174, B175, B176, A0, A1, A11, A12, A13, A20, A128, A129, A130], by simp [B11, B20, B28, B174, B175, B176, A0, A1, A11, A12, A13, A20, A128, A129, A130], by simp [B11, B20, B28, B174, B175, B176, A0, A1, A11, A12, A13, A20, A128, A129, A130], by simp [B11, B20, B28, B174, B175, B176, A0, A1, A11, A12, A13, A20, A128, A129, A130], by omega⟩
            · have hd : dnI q (nth BB.1 i) = nth BB.1 i := by unfold dnI; rw [if_neg hgt]
              rw [hd] at hmm
              repeat' (first | (refine wpc_split _ (fun hc => ?_) (fun hc => ?_) <;> (try simp at hc)) | (refine ww_split _ (fun hc => ?_) (fun hc => ?_) <;> (try simp at hc)) | (refine wp_drawF (by kernel_rfl) ?_) | (refine wk_yldW _ ?_) | (refine layOwe _ (by kernel_rfl) ?_) | (refine owe ?_ (fun ho => ?_)) | (simp (disch := first | assumption | omega | (simp; done) | (simp; omega)) [B11, B20, B28, B174, B175, B176, eI, hmm, hlm, -getElem?_pos, List.getElem?_cons_zero, List.getElem?_cons_succ]))
              all_goals first
                | (exfalso; omega)
                | exact Bih (Bm - 1) _ _ (by omega) ⟨i + 1, by simp [B11, B20, B28, B174, B175, B176, A0, A1, A11, A12, A13, A20, A128, A129, A130], by simp [B11, B20, B28, B174, B175, B176, A0, A1, A11, A12, A13, A20, A128, A129, A130], by simp [B11, B20, B28, B174, B175, B176, A0, A1, A11, A12, A13, A20, A128, A129, A130], by simp [B11, B20, B28, B174, B175, B176, A0, A1, A11, A12, A13, A20, A128, A129, A130], by simp [B11, B20, B28, B174, B175, B176, A0, A1, A11, A12, A13, A20, A128, A129, A130], by simp [B11, B20, B28, B174, B175, B176, A0, A1, A11, A12, A13, A20, A128, A129, A130], by omega⟩
          · repeat' (first | (refine wpc_split _ (fun hc => ?_) (fun hc => ?_) <;> (try simp at hc)) | (refine ww_split _ (fun hc => ?_) (fun hc => ?_) <;> (try simp at hc)) | (refine wp_drawF (by kernel_rfl) ?_) | (refine wk_yldW _ ?_) | (refine layOwe _ (by kernel_rfl) ?_) | (refine owe ?_ (fun ho => ?_)) | (simp (disch := first | assumption | omega | (simp; done) | (simp; omega)) [B11, B20, B28, B174, B175, B176, -getElem?_pos, List.getElem?_cons_zero, List.getElem?_cons_succ]))
@[simp] theorem S8 (n : Int) (l : List Edge) (x : Edge) (p c : Int) (hs : l.length < 1048577) (ht : ∀ x ∈ l, x.text.length < 1099511627776) (hx : x.text.length < 1099511627776) (hp : 0 ≤ p ∧ p ≤ 255) (q1 : Fl) (hh : Heap) : Ci cfg (.func (.func 8) [] []) [.int .i64 n, R  q1 eE l, .agg [.int .i64 x.src, .int .i64 x.dst, .int .i64 x.cost, .str x.text], .int .u8 p, .int .i64 c] hh = some (.ret (.bool true), hh) :=
  Ci_K cfg rfl rfl (by simp) (by simp) (C8 n l x p c hs ht hx hp)
end Go.Ab
