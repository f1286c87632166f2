/- Layer 20 (lattice): the program's Best and Prove. -/
import Derived.Test.YtgfomibaakpdnaaDoorG3
set_option linter.unusedVariables false
set_option linter.unusedSimpArgs false
set_option linter.unusedSectionVars false
set_option linter.deprecated false
namespace Go.Ab
open Go.Proofs
set_option maxRecDepth 100000
set_option maxHeartbeats 4000000
/-- a part of a block, handed over -/
theorem handV_part {α : Type} {E : α → List V} {sz : Nat} [EncP E] [hE : EncC E sz] {h : Heap} {a off n : Nat} {cs : List V} {L : List α} (hb : h.bs[a]? = some (.cells cs)) (hn : n = L.length) (hl : off + n * sz ≤ cs.length) (hc : (cs.drop off).take (n * sz) = rows E L) (hf : cs.flatMap (reachN h 7) = []) :
    handV h [.slice a off n sz] = some ([R fl0 E L], freezeB h a) := by
  unfold handV
  rw [if_neg (by simp [V.closed.closedL, V.closed])]
  have hr : [V.slice a off n sz].flatMap (reachN h 8) = [a] := by
    rw [List.flatMap_cons, List.flatMap_nil, List.append_nil]
    show a :: (match h.bs[a]? with | some (.cells cs) | some (.frozen cs) => cs.flatMap (reachN h 7) | _ => []) = [a]
    rw [hb]; simp only; rw [hf]
  rw [hr]
  have hfb : (freezeB h a).bs[a]? = some (.frozen cs) := by
    have ha := (List.getElem?_eq_some_iff.1 hb).1
    unfold freezeB; rw [hb]; simp [ha]
  have hfa : freezeAll h [a] = freezeB h a := rfl
  rw [hfa]
  have p2 : pureN (freezeB h a) 8 (V.slice a off n sz) = some (R fl0 E L) := by
    show pure1 (pureN (freezeB h a) 7) (freezeB h a) (V.slice a off n sz) = _
    rw [pure1, hfb]
    simp only
    rw [if_pos hl, hc, map_pure, hn]
    rfl
  simp [pure1.mapO, p2]
theorem reach_ints {h : Heap} {k : Nat} : ∀ {cs : List V}, (∀ v ∈ cs, ∃ x, v = .int .i64 x) → cs.flatMap (reachN h k) = []
  | [], _ => rfl
  | v :: cs, hv => by
    obtain ⟨x, rfl⟩ := hv v (by simp)
    rw [List.flatMap_cons, reach_ints (fun w hw => hv w (List.mem_cons_of_mem _ hw))]
    cases k <;> rfl
theorem cloneI (l : List Int) (hl : ¬ l = []) (hs : l.length < 4294967296) : Kc cfg 36 [R fl0 eI l] (.ret (R fl0 eI l)) := by
  refine outS_of_wp cfg (fn := Tryd.f36) Tryd.func36 rfl (by simp [Tryd.f36]) ?_
  have hA : App (emptyH).ts 1 (false, true, none) := App.full _ _ _
  have hf : V.row false true [] 0 none = R (false, true, none) eI [] := rfl
  simp (disch := first | assumption | omega | (simp; done) | (simp; omega)) [-getElem?_pos, List.getElem?_cons_zero, List.getElem?_cons_succ, Tryd.f36, eqV_Rn, hl]
  repeat' (first | (refine wpc_split _ (fun hc => ?_) (fun hc => ?_) <;> (try simp at hc)) | (refine ww_split _ (fun hc => ?_) (fun hc => ?_) <;> (try simp at hc)) | (refine wp_drawF (by kernel_rfl) ?_) | (refine wk_yldW _ ?_) | (refine layOwe _ (by kernel_rfl) ?_) | (refine owe ?_ (fun ho => ?_)) | (simp (disch := first | assumption | omega | (simp; done) | (simp; omega)) [eqV_Rn, hl, append_Rn, hf, hA, -getElem?_pos, List.getElem?_cons_zero, List.getElem?_cons_succ]))
theorem tcE_one {H F : Nat → Int} {far : Int} : (∀ x ∈ tab 131 (tcE H F far), x.one = true) = True := by
  simp only [eq_iff_iff, iff_true]
  intro x hx
  simp only [tab, List.mem_map] at hx
  obtain ⟨i, _, rfl⟩ := hx
  unfold tcE; split <;> (try split) <;> rfl
theorem tab_wr' (n : Nat) (a : V) (g : Nat → V) : writeL (tab n fun _ => a) 0 (tab n g) = tab n g := tab_wr _ _ _
theorem tcE_part {H F : Nat → Int} {far : Int} {k : Nat} (hk : k ≤ 65) : (tab 131 (tcE H F far)).take k = rows eI (rowF k H) := by
  rw [rowF_cI]
  apply List.ext_getElem?
  intro i
  rw [List.getElem?_take]
  by_cases hi : i < k
  · simp [hi, tab, tcE_h (show i < 65 by omega), show i < 131 by omega]
  · rw [if_neg hi, List.getElem?_eq_none (by simp; omega)]
theorem tab_one {f : Nat → V} : List.take 1 (tab 131 f) = [f 0] := rfl
theorem C11 (n : Int) (l : List Edge) (hs : l.length < 1099511627776) (ht : ∀ x ∈ l, x.text.length < 1099511627776) : Kc cfg 11 [.int .i64 n, R fl0 eE l] (.ret (.tuple [R fl0 eI (bestS n l).1, .int .i64 (bestS n l).2.1, .bool (bestS n l).2.2.1, .int .i64 (bestS n l).2.2.2])) := by
  by_cases hck : checkE n l = 0
  · obtain ⟨hn, hl, hok⟩ := checkE_ok hck
    have hin := checkE_in hck
    obtain ⟨hs0, hsum0⟩ := checkE_sum hck
    have hnf := fun v => node_first hck (v := v)
    have hD0 := DE_bound hck (v := 0) (Nat.zero_le _)
    have hz : DE n l n.toNat = 0 := (nums_DE hck).fin
    by_cases hd : DE n l 0 ≤ sumE l
    · have hB : bestS n l = (pathE l (FE n l) n.toNat n.toNat 0, DE n l 0, true, 0) := by unfold bestS; rw [if_pos hck, if_pos hd]
      rw [hB]
      have hne : (DE n l 0 == sumE l + 1) = false := by rw [beq_eq_false_iff_ne]; omega
      generalize hP : pathE l (FE n l) n.toNat n.toNat 0 = P
      refine outS_of_wp cfg (fn := Tryd.f11) Tryd.func11 rfl (by simp [Tryd.f11]) ?_
      simp (disch := first | assumption | omega | (simp; done) | (simp; omega)) [-getElem?_pos, List.getElem?_cons_zero, List.getElem?_cons_succ, Tryd.f11, hck, emptyH]
      repeat' (first | (refine wpc_split _ (fun hc => ?_) (fun hc => ?_) <;> (try simp at hc)) | (refine ww_split _ (fun hc => ?_) (fun hc => ?_) <;> (try simp at hc)) | (refine wp_drawF (by kernel_rfl) ?_) | (refine wk_yldW _ ?_) | (refine layOwe _ (by kernel_rfl) ?_) | (refine owe ?_ (fun ho => ?_)) | (simp (disch := first | assumption | omega | (simp; done) | (simp; omega)) [hck, emptyH, tcE_one, tab_wr, tab_wr', tab_get1, tab_one, tcE_0, tcE_far, hne, -getElem?_pos, List.getElem?_cons_zero, List.getElem?_cons_succ]))
      refine wp_loopE cfg rfl (fun f0 h0 m fr h => ∃ v : Nat, ∃ k : Nat, ∃ out : List Int, ∃ fl : Fl, fr 0 = f0 0 ∧ fr 1 = f0 1 ∧ fr 8 = f0 8 ∧ fr 4 = R fl eI out ∧ fr 9 = .int .i64 v ∧ h.bs = h0.bs ∧ (App h.ts 1 fl) ∧ (v ≤ n.toNat ∧ n.toNat ≤ v + k) ∧ (m + v = n.toNat) ∧ (out.length ≤ v) ∧ (DE n l v ≤ sumE l) ∧ (out ++ pathE l (FE n l) n.toNat k v = P)) (n.toNat) _ _ ⟨0, n.toNat, [], (true, true, none), rfl, rfl, rfl, by first | rfl | (simp; done) | (simp [R]; done) | simp [R], by first | rfl | (simp; done) | (simp [R]; done) | simp [R], rfl, App.nil _ _ _, by first | rfl | (simp; done) | omega, by first | rfl | (simp; done) | omega, by simp, hd, by simpa using hP⟩ ?_
      rintro Am Af Ah ⟨v, k, out, fl, A0, A1, A8, A4, A9, Abs, hap, hv, hm, hol, hdv, hpa⟩ Aih
      try simp at A0 A1 A8 Abs
      by_cases hvn : v < n.toNat
      · obtain ⟨i0, q1, q2, q3, q4, q5, q6⟩ := hnf v hvn hdv
        have hin0 := hin i0 q1
        obtain ⟨k', rfl⟩ : ∃ k', k = k' + 1 := ⟨k - 1, by omega⟩
        unfold pathE at hpa
        rw [if_neg (by omega), q2] at hpa
        simp only [Int.toNat_natCast] at hpa
        have hv65 : v < 65 := by omega
        obtain ⟨d, hd1⟩ : ∃ d : Nat, d = (nth l i0).dst.toNat := ⟨_, rfl⟩
        have hd2 : (nth l i0).dst = d := by omega
        rw [hd2] at q4 hpa
        simp only [Int.toNat_natCast] at q4 hpa
        repeat' (first | (refine wpc_split _ (fun hc => ?_) (fun hc => ?_) <;> (try simp at hc)) | (refine ww_split _ (fun hc => ?_) (fun hc => ?_) <;> (try simp at hc)) | (refine wp_drawF (by kernel_rfl) ?_) | (refine wk_yldW _ ?_) | (refine layOwe _ (by kernel_rfl) ?_) | (refine owe ?_ (fun ho => ?_)) | (simp (disch := first | assumption | omega | (simp; done) | (simp; omega)) [A0, A1, A8, A4, A9, Abs, eE, eI, tab_get1, tcE_f, hd2, q2, fold_I1, -getElem?_pos, List.getElem?_cons_zero, List.getElem?_cons_succ]))
        exact Aih (n.toNat - d) _ _ (by omega) ⟨d, k', out ++ [(i0 : Int)], _, by simp [A0, A1, A8, A4, A9, Abs], by simp [A0, A1, A8, A4, A9, Abs], by simp [A0, A1, A8, A4, A9, Abs], by simp [A0, A1, A8, A4, A9, Abs], by simp [A0, A1, A8, A4, A9, Abs], by simp [A0, A1, A8, A4, A9, Abs], App.new _ _ _, by omega, by omega, (by simp; omega), q4, by simpa using hpa⟩
      · have hvn2 : v = n.toNat := by omega
        subst hvn2
        have hpn : pathE l (FE n l) n.toNat k n.toNat = [] := by cases k <;> simp [pathE]
        rw [hpn, List.append_nil] at hpa
        subst hpa
        repeat' (first | (refine wpc_split _ (fun hc => ?_) (fun hc => ?_) <;> (try simp at hc)) | (refine ww_split _ (fun hc => ?_) (fun hc => ?_) <;> (try simp at hc)) | (refine wp_drawF (by kernel_rfl) ?_) | (refine wk_yldW _ ?_) | (refine layOwe _ (by kernel_rfl) ?_) | (refine owe ?_ (fun ho => ?_)) | (simp (disch := first | assumption | omega | (simp; done) | (simp; omega)) [A0, A1, A8, A4, A9, Abs, tab_get1, tab_one, tcE_0, -getElem?_pos, List.getElem?_cons_zero, List.getElem?_cons_succ]))
        try rfl
    · have hB : bestS n l = ([], 0, false, 0) := by unfold bestS; rw [if_pos hck, if_neg hd]
      rw [hB]
      have hne : (DE n l 0 == sumE l + 1) = true := by rw [beq_iff_eq]; omega
      refine outS_of_wp cfg (fn := Tryd.f11) Tryd.func11 rfl (by simp [Tryd.f11]) ?_
      simp (disch := first | assumption | omega | (simp; done) | (simp; omega)) [-getElem?_pos, List.getElem?_cons_zero, List.getElem?_cons_succ, Tryd.f11, hck, emptyH]
      repeat' (first | (refine wpc_split _ (fun hc => ?_) (fun hc => ?_) <;> (try simp at hc)) | (refine ww_split _ (fun hc => ?_) (fun hc => ?_) <;> (try simp at hc)) | (refine wp_drawF (by kernel_rfl) ?_) | (refine wk_yldW _ ?_) | (refine layOwe _ (by kernel_rfl) ?_) | (refine owe ?_ (fun ho => ?_)) | (simp (disch := first | assumption | omega | (simp; done) | (simp; omega)) [hck, emptyH, tcE_one, tab_wr, tab_wr', tab_get1, tab_one, tcE_0, tcE_far, hne, -getElem?_pos, List.getElem?_cons_zero, List.getElem?_cons_succ]))
      all_goals rfl
  · have hB : bestS n l = ([], 0, false, checkE n l) := by unfold bestS; rw [if_neg hck]
    rw [hB]
    generalize hE : checkE n l = E at *
    refine outS_of_wp cfg (fn := Tryd.f11) Tryd.func11 rfl (by simp [Tryd.f11]) ?_
    simp (disch := first | assumption | omega | (simp; done) | (simp; omega)) [-getElem?_pos, List.getElem?_cons_zero, List.getElem?_cons_succ, Tryd.f11, hE]
    repeat' (first | (refine wpc_split _ (fun hc => ?_) (fun hc => ?_) <;> (try simp at hc)) | (refine ww_split _ (fun hc => ?_) (fun hc => ?_) <;> (try simp at hc)) | (refine wp_drawF (by kernel_rfl) ?_) | (refine wk_yldW _ ?_) | (refine layOwe _ (by kernel_rfl) ?_) | (refine owe ?_ (fun ho => ?_)) | (simp (disch := first | assumption | omega | (simp; done) | (simp; omega)) [hE, -getElem?_pos, List.getElem?_cons_zero, List.getElem?_cons_succ]))
    all_goals rfl
@[simp] theorem S11 (n : Int) (l : List Edge) (hs : l.length < 1099511627776) (ht : ∀ x ∈ l, x.text.length < 1099511627776) (q1 : Fl) (hh : Heap) : Ci cfg (.func (.func 11) [] []) [.int .i64 n, R  q1 eE l] hh = some (.ret (.tuple [R fl0 eI (bestS n l).1, .int .i64 (bestS n l).2.1, .bool (bestS n l).2.2.1, .int .i64 (bestS n l).2.2.2]), hh) :=
  Ci_K cfg rfl rfl (by simp) (by simp) (C11 n l hs ht)
theorem C17 (n : Int) (l : List Edge) (hs : l.length < 1099511627776) (ht : ∀ x ∈ l, x.text.length < 1099511627776) : Kc cfg 17 [.int .i64 n, R fl0 eE l] (.ret (.tuple [R fl0 eI (proveS n l).1, .bool (proveS n l).2.1, .int .i64 (proveS n l).2.2])) := by
  by_cases hck : checkE n l = 0
  · obtain ⟨hn, hl, hok⟩ := checkE_ok hck
    obtain ⟨hs0, hsum0⟩ := checkE_sum hck
    have hD0 := DE_bound hck (v := 0) (Nat.zero_le _)
    by_cases hd : DE n l 0 ≤ sumE l
    · have hB : proveS n l = (rowF (n.toNat + 1) (DE n l), true, 0) := by unfold proveS; rw [if_pos hck, if_pos hd]
      rw [hB]
      have hne : (DE n l 0 == sumE l + 1) = false := by rw [beq_eq_false_iff_ne]; omega
      have hn1 : (n + 1).toNat = n.toNat + 1 := by omega
      have hn2 : n.toNat + 1 ≤ 65 := by omega
      have hcl : ∀ ts, Ci cfg (.func (.func 36) [] []) [.slice 0 0 (n.toNat + 1) 1] ⟨[.cells (tab 131 (tcE (DE n l) (FE n l) (sumE l + 1)))], ts⟩ = some (.ret (R fl0 eI (rowF (n.toNat + 1) (DE n l))), freezeB ⟨[.cells (tab 131 (tcE (DE n l) (FE n l) (sumE l + 1)))], ts⟩ 0) := by
        intro ts
        refine Ci_K2 cfg rfl ?_ (handV_part (E := eI) (h := ⟨_, ts⟩) (a := 0) rfl (by simp) (by simp; omega) (by simp only [List.drop_zero, Nat.mul_one]; exact tcE_part hn2) (reach_ints fun v hv => ?_)) (cloneI _ ?_ ?_)
        · show extE 36 [R fl0 eI _] = none
          cases hr : rowF (n.toNat + 1) (DE n l) with
          | nil => have := congrArg List.length hr; simp at this
          | cons x r => rfl
        · simp only [tab, List.mem_map] at hv
          obtain ⟨i, _, rfl⟩ := hv
          unfold tcE; split <;> (try split) <;> exact ⟨_, rfl⟩
        · simp [rowF]
        · simp; omega
      have hsl : ∀ ts, sliceV Tryd.prog 53 ⟨[.cells (tab 131 (tcE (DE n l) (FE n l) (sumE l + 1)))], ts⟩ (.ptr 0 0) none (some (.int .i64 (n + 1))) none = some (.slice 0 0 (n.toNat + 1) 1) := by
        intro ts
        have e1 : 0 ≤ n + 1 ∧ (n + 1).toNat ≤ 65 := by omega
        simp [sliceV, bound, e1, hn1]
        rw [if_pos hn.2]
      refine outS_of_wp cfg (fn := Tryd.f17) Tryd.func17 rfl (by simp [Tryd.f17]) ?_
      simp (disch := first | assumption | omega | (simp; done) | (simp; omega)) [-getElem?_pos, List.getElem?_cons_zero, List.getElem?_cons_succ, Tryd.f17, hck, emptyH]
      repeat' (first | (refine wpc_split _ (fun hc => ?_) (fun hc => ?_) <;> (try simp at hc)) | (refine ww_split _ (fun hc => ?_) (fun hc => ?_) <;> (try simp at hc)) | (refine wp_drawF (by kernel_rfl) ?_) | (refine wk_yldW _ ?_) | (refine layOwe _ (by kernel_rfl) ?_) | (refine owe ?_ (fun ho => ?_)) | (simp (disch := first | assumption | omega | (simp; done) | (simp; omega)) [hck, emptyH, tcE_one, tab_wr, tab_wr', tab_get1, tab_one, tcE_0, tcE_far, hne, hcl, hsl, hn1, -getElem?_pos, List.getElem?_cons_zero, List.getElem?_cons_succ]))
    · have hB : proveS n l = ([], false, 0) := by unfold proveS; rw [if_pos hck, if_neg hd]
      rw [hB]
      have hne : (DE n l 0 == sumE l + 1) = true := by rw [beq_iff_eq]; omega
      refine outS_of_wp cfg (fn := Tryd.f17) Tryd.func17 rfl (by simp [Tryd.f17]) ?_
      simp (disch := first | assumption | omega | (simp; done) | (simp; omega)) [-getElem?_pos, List.getElem?_cons_zero, List.getElem?_cons_succ, Tryd.f17, hck, emptyH]
      repeat' (first | (refine wpc_split _ (fun hc => ?_) (fun hc => ?_) <;> (try simp at hc)) | (refine ww_split _ (fun hc => ?_) (fun hc => ?_) <;> (try simp at hc)) | (refine wp_drawF (by kernel_rfl) ?_) | (refine wk_yldW _ ?_) | (refine layOwe _ (by kernel_rfl) ?_) | (refine owe ?_ (fun ho => ?_)) | (simp (disch := first | assumption | omega | (simp; done) | (simp; omega)) [hck, emptyH, tcE_one, tab_wr, tab_wr', tab_get1, tab_one, tcE_0, tcE_far, hne, -getElem?_pos, List.getElem?_cons_zero, List.getElem?_cons_succ]))
      all_goals rfl
  · have hB : proveS n l = ([], false, checkE n l) := by unfold proveS; rw [if_neg hck]
    rw [hB]
    generalize hE : checkE n l = E at *
    refine outS_of_wp cfg (fn := Tryd.f17) Tryd.func17 rfl (by simp [Tryd.f17]) ?_
    simp (disch := first | assumption | omega | (simp; done) | (simp; omega)) [-getElem?_pos, List.getElem?_cons_zero, List.getElem?_cons_succ, Tryd.f17, hE]
    repeat' (first | (refine wpc_split _ (fun hc => ?_) (fun hc => ?_) <;> (try simp at hc)) | (refine ww_split _ (fun hc => ?_) (fun hc => ?_) <;> (try simp at hc)) | (refine wp_drawF (by kernel_rfl) ?_) | (refine wk_yldW _ ?_) | (refine layOwe _ (by kernel_rfl) ?_) | (refine owe ?_ (fun ho => ?_)) | (simp (disch := first | assumption | omega | (simp; done) | (simp; omega)) [hE, -getElem?_pos, List.getElem?_cons_zero, List.getElem?_cons_succ]))
    all_goals rfl
@[simp] theorem S17 (n : Int) (l : List Edge) (hs : l.length < 1099511627776) (ht : ∀ x ∈ l, x.text.length < 1099511627776) (q1 : Fl) (hh : Heap) : Ci cfg (.func (.func 17) [] []) [.int .i64 n, R  q1 eE l] hh = some (.ret (.tuple [R fl0 eI (proveS n l).1, .bool (proveS n l).2.1, .int .i64 (proveS n l).2.2]), hh) :=
  Ci_K cfg rfl rfl (by simp) (by simp) (C17 n l hs ht)
end Go.Ab
