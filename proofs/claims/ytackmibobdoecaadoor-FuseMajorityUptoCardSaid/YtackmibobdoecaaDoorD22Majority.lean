/- FuseMajority: the law. -/
import Derived.Test.YtackmibobdoecaaDoorD22
set_option linter.unusedVariables false
set_option linter.unusedSimpArgs false
set_option linter.unusedSectionVars false
set_option linter.deprecated false
namespace Go.Ab
open Go.Proofs
set_option maxRecDepth 100000
set_option maxHeartbeats 4000000
theorem chL_ge : ∀ (l : List (List Cell)) (i : Nat), ∀ n ∈ (chL i l).2, (i : Int) ≤ n
  | [], i => by simp [chL]
  | x :: l, i => by
    intro n hn
    have ih := chL_ge l (i + 1)
    rw [chL] at hn
    split at hn
    · have := ih n hn; omega
    · rcases List.mem_cons.1 hn with rfl | hn
      · exact Int.le_refl _
      · have := ih n hn; omega
theorem chL_split (l : List (List Cell)) (i : Nat) : chL 0 l = ((chL 0 (l.take i)).1 ++ (chL (min i l.length) (l.drop i)).1, (chL 0 (l.take i)).2 ++ (chL (min i l.length) (l.drop i)).2) := by
  have := chL_app (l.take i) (l.drop i) 0
  rw [List.take_append_drop, Nat.zero_add, List.length_take] at this
  exact this
theorem nth_app {α : Type} [Inhabited α] (a : List α) (x : α) (b : List α) : nth (a ++ x :: b) a.length = x := by
  unfold nth; simp [List.getD_eq_getElem?_getD]
theorem chL_some {l : List (List Cell)} {i : Nat} (hi : i < l.length) (h : ¬ chooseS (nth l i) = []) :
    (chL 0 (l.take i)).1.length < (chL 0 l).1.length ∧ nth (chL 0 l).1 (chL 0 (l.take i)).1.length = chooseS (nth l i) ∧ nth (chL 0 l).2 (chL 0 (l.take i)).1.length = (i : Int) := by
  have hs := chL_split l i
  have hm : min i l.length = i := by omega
  rw [hm, nth_drop hi, chL, if_neg h] at hs
  have hl := (chL_len (l.take i) 0).1
  rw [hs]
  refine ⟨by simp, nth_app _ _ _, ?_⟩
  rw [hl]; exact nth_app _ _ _
theorem chL_none {l : List (List Cell)} {i : Nat} (hi : i < l.length) (h : chooseS (nth l i) = []) (hk : (chL 0 (l.take i)).1.length < (chL 0 l).2.length) : ¬ nth (chL 0 l).2 (chL 0 (l.take i)).1.length = (i : Int) := by
  have hs := chL_split l i
  have hm : min i l.length = i := by omega
  rw [hm, nth_drop hi, chL, if_pos h] at hs
  have hl := (chL_len (l.take i) 0).1
  have hg := chL_ge (l.drop (i + 1)) (i + 1)
  rw [hs] at hk ⊢
  simp only at hk ⊢
  rw [hl] at hk ⊢
  cases hd : (chL (i + 1) (l.drop (i + 1))).2 with
  | nil => rw [hd] at hk; simp at hk
  | cons n r =>
    rw [hd] at hg
    rw [nth_app]
    have := hg n List.mem_cons_self
    omega
theorem sameN_take {x : List Cell} {t : Wd} {j : Nat} (h : j < x.length) : sameN (x.take (j + 1)) t = sameN (x.take j) t + (if (nth x j).text = t then 1 else 0) := by
  rw [nth_take h]; unfold sameN
  rw [List.filter_append, List.length_append]
  by_cases e : (nth x j).text = t <;> simp [e]
theorem few_major {l : List (List Cell)} (h : fewB l = true) : ∀ x ∈ l, x.length ≤ 80 ∧ ∀ c ∈ x, c.alts.length ≤ 8 := by
  intro x hx
  unfold fewB at h
  simp only [Bool.and_eq_true, List.all_eq_true, fewR] at h
  have h1 := h.2 x hx
  refine ⟨?_, fun c hc => ?_⟩
  · have := h1.1
    simp only [Bool.or_eq_true, Bool.and_eq_true, decide_eq_true_eq] at this
    omega
  · have := h1.2 c hc
    unfold fewC at this
    simp only [Bool.and_eq_true, decide_eq_true_eq] at this
    omega
theorem quiet_of {x : List Cell} (h : x.any oddP = false) : ∀ c ∈ x, c.text = [] → c.alts = [] := by
  intro c hc ht
  refine Decidable.byContradiction fun e => ?_
  have : x.any oddP = true := List.any_eq_true.2 ⟨c, hc, by unfold oddP rightC; simp [ht, e, wordS]⟩
  rw [h] at this; cases this
theorem chR_cases (l : List (List Cell)) : (chR l = (([], []), 2) ∨ chR l = (([], []), 220)) ∨ (chR l = (chL 0 l, 0) ∧ ∀ x ∈ l, textS x ≠ [] ∧ x.any oddP = false) := by
  unfold chR
  split
  · exact .inl (.inl rfl)
  · split
    · exact .inl (.inr rfl)
    · rename_i h
      refine .inr ⟨rfl, fun x hx => ?_⟩
      have hb : badS (nth l 0).length x = false := by
        cases e : badS (nth l 0).length x with
        | false => rfl
        | true => exact absurd (List.any_eq_true.2 ⟨x, hx, e⟩) h
      unfold badS at hb
      simp only [Bool.or_eq_false_iff, decide_eq_false_iff_not] at hb
      exact ⟨hb.1.2, hb.2⟩
theorem C8 (l : List (List Cell)) (hs : smL l) : Kc cfg 8 [R fl0 (eR eC) l] (.ret (.bool true)) := by
  have hs1 := hs.1
  by_cases h40 : l.length ≤ 40
  case neg =>
    refine outS_of_wp cfg (fn := Tryd.f8) Tryd.func8 rfl (by simp [Tryd.f8]) ?_
    simp (disch := first | assumption | omega | (simp; done) | (simp; omega)) [-getElem?_pos, List.getElem?_cons_zero, List.getElem?_cons_succ, Tryd.f8, hs, emptyH]
    repeat' (first | (refine wpc_split _ (fun hc => ?_) (fun hc => ?_) <;> (try simp at hc)) | (refine ww_split _ (fun hc => ?_) (fun hc => ?_) <;> (try simp at hc)) | (refine wp_drawF (by kernel_rfl) ?_) | (refine wk_yldW _ ?_) | (refine layOwe _ (by kernel_rfl) ?_) | (refine owe ?_ (fun ho => ?_)) | (simp (disch := first | assumption | omega | (simp; done) | (simp; omega)) [hs, emptyH, -getElem?_pos, List.getElem?_cons_zero, List.getElem?_cons_succ]))
    all_goals first | rfl | (exfalso; omega)
  cases hfw : fewB l with
  | false =>
    refine outS_of_wp cfg (fn := Tryd.f8) Tryd.func8 rfl (by simp [Tryd.f8]) ?_
    simp (disch := first | assumption | omega | (simp; done) | (simp; omega)) [-getElem?_pos, List.getElem?_cons_zero, List.getElem?_cons_succ, Tryd.f8, hs, hfw, emptyH]
    repeat' (first | (refine wpc_split _ (fun hc => ?_) (fun hc => ?_) <;> (try simp at hc)) | (refine ww_split _ (fun hc => ?_) (fun hc => ?_) <;> (try simp at hc)) | (refine wp_drawF (by kernel_rfl) ?_) | (refine wk_yldW _ ?_) | (refine layOwe _ (by kernel_rfl) ?_) | (refine owe ?_ (fun ho => ?_)) | (simp (disch := first | assumption | omega | (simp; done) | (simp; omega)) [hs, hfw, emptyH, -getElem?_pos, List.getElem?_cons_zero, List.getElem?_cons_succ]))
    all_goals first | rfl | (exfalso; omega)
  | true =>
    have hfew := few_major hfw
    rcases chR_cases l with (hc0 | hc0) | ⟨hc0, hgood⟩
    · skip
      refine outS_of_wp cfg (fn := Tryd.f8) Tryd.func8 rfl (by simp [Tryd.f8]) ?_
      simp (disch := first | assumption | omega | (simp; done) | (simp; omega)) [-getElem?_pos, List.getElem?_cons_zero, List.getElem?_cons_succ, Tryd.f8, hs, hfw, hc0, emptyH]
      repeat' (first | (refine wpc_split _ (fun hc => ?_) (fun hc => ?_) <;> (try simp at hc)) | (refine ww_split _ (fun hc => ?_) (fun hc => ?_) <;> (try simp at hc)) | (refine wp_drawF (by kernel_rfl) ?_) | (refine wk_yldW _ ?_) | (refine layOwe _ (by kernel_rfl) ?_) | (refine owe ?_ (fun ho => ?_)) | (simp (disch := first | assumption | omega | (simp; done) | (simp; omega)) [hs, hfw, hc0, emptyH, -getElem?_pos, List.getElem?_cons_zero, List.getElem?_cons_succ]))
      all_goals first | rfl | (exfalso; omega)
    · skip
      refine outS_of_wp cfg (fn := Tryd.f8) Tryd.func8 rfl (by simp [Tryd.f8]) ?_
      simp (disch := first | assumption | omega | (simp; done) | (simp; omega)) [-getElem?_pos, List.getElem?_cons_zero, List.getElem?_cons_succ, Tryd.f8, hs, hfw, hc0, emptyH]
      repeat' (first | (refine wpc_split _ (fun hc => ?_) (fun hc => ?_) <;> (try simp at hc)) | (refine ww_split _ (fun hc => ?_) (fun hc => ?_) <;> (try simp at hc)) | (refine wp_drawF (by kernel_rfl) ?_) | (refine wk_yldW _ ?_) | (refine layOwe _ (by kernel_rfl) ?_) | (refine owe ?_ (fun ho => ?_)) | (simp (disch := first | assumption | omega | (simp; done) | (simp; omega)) [hs, hfw, hc0, emptyH, -getElem?_pos, List.getElem?_cons_zero, List.getElem?_cons_succ]))
      all_goals first | rfl | (exfalso; omega)
    have hlen := chL_len l 0
    have hsome := fun i (hi : i < l.length) => chL_some hi
    have hnone := fun i (hi : i < l.length) => chL_none hi
    obtain ⟨hl1, hl2⟩ := hlen
    generalize hW : (chL 0 l).1 = W at *
    generalize hT : (chL 0 l).2 = T at *
    have hTl : T.length = W.length := hl1.symm
    refine outS_of_wp cfg (fn := Tryd.f8) Tryd.func8 rfl (by simp [Tryd.f8]) ?_
    simp (disch := first | assumption | omega | (simp; done) | (simp; omega)) [-getElem?_pos, List.getElem?_cons_zero, List.getElem?_cons_succ, Tryd.f8, hs, hfw, hc0, hW, hT, hTl, emptyH]
    repeat' (first | (refine wpc_split _ (fun hc => ?_) (fun hc => ?_) <;> (try simp at hc)) | (refine ww_split _ (fun hc => ?_) (fun hc => ?_) <;> (try simp at hc)) | (refine wp_drawF (by kernel_rfl) ?_) | (refine wk_yldW _ ?_) | (refine layOwe _ (by kernel_rfl) ?_) | (refine owe ?_ (fun ho => ?_)) | (simp (disch := first | assumption | omega | (simp; done) | (simp; omega)) [hs, hfw, hc0, hW, hT, hTl, emptyH, -getElem?_pos, List.getElem?_cons_zero, List.getElem?_cons_succ]))
    all_goals try (exfalso; omega)
    refine wp_loopE cfg rfl (fun f0 h0 m fr h => ∃ i : Nat, fr 3 = f0 3 ∧ fr 4 = f0 4 ∧ fr 56 = f0 56 ∧ fr 57 = f0 57 ∧ fr 6 = .int .i64 (chL 0 (l.take i)).1.length ∧ fr 58 = .int .i64 i ∧ (i + m = l.length)) (l.length) _ _ ⟨0, rfl, rfl, rfl, rfl, by first | rfl | (simp; done) | (simp [R]; done) | simp [R], by first | rfl | (simp; done) | (simp [R]; done) | simp [R], by first | rfl | (simp; done) | omega⟩ ?_
    rintro Am Af Ah ⟨i, A3, A4, A56, A57, A6, A58, hm⟩ Aih
    try simp at A3 A4 A56 A57
    by_cases hi : i < l.length
    · have hsi := smL_nth hs hi
      have hsi1 := hsi.1
      obtain ⟨hx80, hal8⟩ := hfew _ (nth_mem hi)
      obtain ⟨hwx, hodd⟩ := hgood _ (nth_mem hi)
      have hqx := quiet_of hodd
      have hct := chL_take hi
      have hcl := chL_len (l.take i) 0
      have hll : (l.take i).length ≤ i := by simp; omega
      obtain ⟨ci1, ci2, ci3⟩ := chooseS_is (nth l i)
      have hmaj := fun c (hc : c ∈ nth l i) => major (nth l i) hwx hqx hc
      have hso := hsome i hi
      have hno := hnone i hi
      have hnx : ∃ k', (chL 0 (l.take (i + 1))).1.length = k' := ⟨_, rfl⟩
      obtain ⟨k', hk'⟩ := hnx
      have hple := fun t => ptS_le (nth l i) t
      generalize hch : chooseS (nth l i) = ch at *
      generalize hx : nth l i = x at *
      generalize hkk : (chL 0 (l.take i)).1.length = k at *
      have hkc : (¬ ch = [] ∧ k < W.length ∧ nth W k = ch ∧ nth T k = (i : Int) ∧ k' = k + 1) ∨ (ch = [] ∧ ¬ (k < T.length) ∧ True ∧ True ∧ k' = k) ∨ (ch = [] ∧ k < T.length ∧ ¬ nth T k = (i : Int) ∧ True ∧ k' = k) := by
        by_cases e : ch = []
        · rw [if_pos e] at hct
          rw [hct, hkk] at hk'
          by_cases e2 : k < T.length
          · exact .inr (.inr ⟨e, e2, hno e e2, trivial, hk'.symm⟩)
          · exact .inr (.inl ⟨e, e2, trivial, trivial, hk'.symm⟩)
        · rw [if_neg e] at hct
          rw [hct] at hk'
          simp [hkk] at hk'
          obtain ⟨a1, a2, a3⟩ := hso e
          exact .inl ⟨e, a1, a2, a3, hk'.symm⟩
      have hkl : k ≤ i := by omega
      rcases hkc with ⟨k1, k2, k3, k4, k5⟩ | ⟨k1, k2, k3, k4, k5⟩ | ⟨k1, k2, k3, k4, k5⟩
      all_goals
        repeat' (first | (refine wpc_split _ (fun hc => ?_) (fun hc => ?_) <;> (try simp at hc)) | (refine ww_split _ (fun hc => ?_) (fun hc => ?_) <;> (try simp at hc)) | (refine wp_drawF (by kernel_rfl) ?_) | (refine wk_yldW _ ?_) | (refine layOwe _ (by kernel_rfl) ?_) | (refine owe ?_ (fun ho => ?_)) | (simp (disch := first | assumption | omega | (simp; done) | (simp; omega)) [A3, A4, A56, A57, A6, A58, eR, eI, eS, hx, hTl, k1, k2, k3, k4, hsi, -getElem?_pos, List.getElem?_cons_zero, List.getElem?_cons_succ]))
        all_goals try (exfalso; omega)
        refine wp_loopE cfg rfl (fun f0 h0 m fr h => ∃ a : Nat, fr 3 = f0 3 ∧ fr 4 = f0 4 ∧ fr 56 = f0 56 ∧ fr 57 = f0 57 ∧ fr 58 = f0 58 ∧ fr 88 = f0 88 ∧ fr 89 = f0 89 ∧ fr 6 = .int .i64 k' ∧ fr 8 = R fl0 eC x ∧ fr 9 = .str ch ∧ fr 10 = .int .i64 (ptS x ch) ∧ fr 11 = .bool (decide (ch = []) || decide (ch ∈ textsS (x.take a))) ∧ fr 90 = .int .i64 a ∧ (a + m = x.length)) (x.length) _ _ ⟨0, rfl, rfl, rfl, rfl, rfl, rfl, rfl, by simp [k5, A6], by first | rfl | (simp; done) | (simp [R]; done) | simp [R], by simp [k1], by simp [k1], by simp [k1, textsS], by first | rfl | (simp; done) | (simp [R]; done) | simp [R], by first | rfl | (simp; done) | omega⟩ ?_
        rintro Bm Bf Bh ⟨a, B3, B4, B56, B57, B58, B88, B89, B6, B8, B9, B10, B11, B90, hm2⟩ Bih
        try simp [A3, A4, A56, A57, A6, A58] at B3 B4 B56 B57 B58 B88 B89
        by_cases ha : a < x.length
        · have hca := nth_mem ha
          have hck := smS_nth hsi ha
          obtain ⟨m1, m2⟩ := hmaj _ hca
          have hca8 := hal8 _ hca
          repeat' (first | (refine wpc_split _ (fun hc => ?_) (fun hc => ?_) <;> (try simp at hc)) | (refine ww_split _ (fun hc => ?_) (fun hc => ?_) <;> (try simp at hc)) | (refine wp_drawF (by kernel_rfl) ?_) | (refine wk_yldW _ ?_) | (refine layOwe _ (by kernel_rfl) ?_) | (refine owe ?_ (fun ho => ?_)) | (simp (disch := first | assumption | omega | (simp; done) | (simp; omega)) [B3, B4, B56, B57, B58, B88, B89, B6, B8, B9, B10, B11, B90, A3, A4, A56, A57, A6, A58, -getElem?_pos, List.getElem?_cons_zero, List.getElem?_cons_succ]))
          refine wp_loopE cfg rfl (fun f0 h0 m fr h => ∃ b : Nat, fr 3 = f0 3 ∧ fr 4 = f0 4 ∧ fr 56 = f0 56 ∧ fr 57 = f0 57 ∧ fr 58 = f0 58 ∧ fr 88 = f0 88 ∧ fr 89 = f0 89 ∧ fr 6 = f0 6 ∧ fr 8 = f0 8 ∧ fr 9 = f0 9 ∧ fr 10 = f0 10 ∧ fr 11 = f0 11 ∧ fr 90 = f0 90 ∧ fr 94 = f0 94 ∧ fr 95 = f0 95 ∧ fr 13 = .ptr Bh.bs.length 0 ∧ fr 14 = .int .i64 (sameN (x.take b) (nth x a).text) ∧ fr 96 = .int .i64 b ∧ (h.bs[Bh.bs.length]? = some (.cells [.str (nth x a).text, R fl0 eS (nth x a).alts])) ∧ (b + m = x.length)) (x.length) _ _ ⟨0, rfl, rfl, rfl, rfl, rfl, rfl, rfl, rfl, rfl, rfl, rfl, rfl, rfl, rfl, rfl, by first | rfl | (simp; done) | (simp [R]; done) | simp [R], by first | rfl | (simp; done) | (simp [R]; done) | simp [R], by first | rfl | (simp; done) | (simp [R]; done) | simp [R], by first | rfl | (simp; done) | omega, by first | rfl | (simp; done) | omega⟩ ?_
          rintro Cm Cf Ch ⟨b, C3, C4, C56, C57, C58, C88, C89, C6, C8, C9, C10, C11, C90, C94, C95, C13, C14, C96, hcb, hm3⟩ Cih
          try simp [B3, B4, B56, B57, B58, B88, B89, B6, B8, B9, B10, B11, B90, A3, A4, A56, A57, A6, A58] at C3 C4 C56 C57 C58 C88 C89 C6 C8 C9 C10 C11 C90 C94 C95
          by_cases hb : b < x.length
          · have hst := sameN_take (t := (nth x a).text) hb
            have hsl := sameN_le (x.take b) (nth x a).text
            have hll2 : (x.take b).length ≤ b := by simp; omega
            have hcb2 : ∀ y, (Ch.bs ++ [y])[Bh.bs.length]? = some (.cells [.str (nth x a).text, R fl0 eS (nth x a).alts]) := fun y => by
              rw [List.getElem?_append_left (List.getElem?_eq_some_iff.1 hcb).1]; exact hcb
            by_cases e : (nth x b).text = (nth x a).text
            · rw [if_pos e] at hst
              repeat' (first | (refine wpc_split _ (fun hc => ?_) (fun hc => ?_) <;> (try simp at hc)) | (refine ww_split _ (fun hc => ?_) (fun hc => ?_) <;> (try simp at hc)) | (refine wp_drawF (by kernel_rfl) ?_) | (refine wk_yldW _ ?_) | (refine layOwe _ (by kernel_rfl) ?_) | (refine owe ?_ (fun ho => ?_)) | (simp (disch := first | assumption | omega | (simp; done) | (simp; omega)) [C3, C4, C56, C57, C58, C88, C89, C6, C8, C9, C10, C11, C90, C94, C95, C13, C14, C96, B3, B4, B56, B57, B58, B88, B89, B6, B8, B9, B10, B11, B90, A3, A4, A56, A57, A6, A58, hcb2, e, -getElem?_pos, List.getElem?_cons_zero, List.getElem?_cons_succ]))
              exact Cih (Cm - 1) _ _ (by omega) ⟨b + 1, by simp [C3, C4, C56, C57, C58, C88, C89, C6, C8, C9, C10, C11, C90, C94, C95, C13, C14, C96, B3, B4, B56, B57, B58, B88, B89, B6, B8, B9, B10, B11, B90, A3, A4, A56, A57, A6, A58, hst], by simp [C3, C4, C56, C57, C58, C88, C89, C6, C8, C9, C10, C11, C90, C94, C95, C13, C14, C96, B3, B4, B56, B57, B58, B88, B89, B6, B8, B9, B10, B11, B90, A3, A4, A56, A57, A6, A58, hst], by simp [C3, C4, C56, C57, C58, C88, C89, C6, C8, C9, C10, C11, C90, C94, C95, C13, C14, C96, B3, B4, B56, B57, B58, B88, B89, B6, B8, B9, B10, B11, B90, A3, A4, A56, A57, A6, A58, hst], by simp [C3, C4, C56, C57, C58, C88, C89, C6, C8, C9, C10, C11, C90, C94, C95, C13, C14, C96, B3, B4, B56, B57, B58, B88, B89, B6, B8, B9, B10, B11, B90, A3, A4, A56, A57, A6, A58, hst], by simp [C3, C4, C56, C57, C58, C88, C89, C6, C8, C9, C10, C11, C90, C94, C95, C13, C14, C96, B3, B4, B56, B57, B58, B88, B89, B6, B8, B9, B10, B11, B90, A3, A4, A56, A57, A6, A58, hst], by simp [C3, C4, C56, C57, C58, C88, C89, C6, C8, C9, C10, C11, C90, C94, C95, C13, C14, C96, B3, B4, B56, B57, B58, B88, B89, B6, B8, B9, B10, B11, B90, A3, A4, A56, A57, A6, A58, hst], by simp [C3, C4, C56, C57, C58, C88, C89, C6, C8, C9, C10, C11, C90, C94, C95, C13, C14, C96, B3, B4, B56, B57, B58, B88, B89, B6, B8, B9, B10, B11, B90, A3, A4, A56, A57, A6, A58, hst], by simp [C3, C4, C56, C57, C58, C88, C89, C6, C8, C9, C10, C11, C90, C94, C95, C13, C14, C96, B3, B4, B56, B57, B58, B88, B89, B6, B8, B9, B10, B11, B90, A3, A4, A56, A57, A6, A58, hst], by simp [C3, C4, C56, C57, C58, C88, C89, C6, C8, C9, C10, C11, C90, C94, C95, C13, C14, C96, B3, B4, B56, B57, B58, B88, B89, B6, B8, B9, B10, B11, B90, A3, A4, A56, A57, A6, A58, hst], by simp [C3, C4, C56, C57, C58, C88, C89, C6, C8, C9, C10, C11, C90, C94, C95, C13, C14, C96, B3, B4, B56, B57, B58, B88, B89, B6, B8, B9, B10, B11, B90, A3, A4, A56, A57, A6, A58, hst], by simp [C3, C4, C56, C57, C58, C88, C89, C6, C8, C9, C10, C11, C90, C94, C95, C13, C14, C96, B3, B4, B56, B57, B58, B88, B89, B6, B8, B9, B10, B11, B90, A3, A4, A56, A57, A6, A58, hst], by simp [C3, C4, C56, C57, C58, C88, C89, C6, C8, C9, C10, C11, C90, C94, C95, C13, C14, C96, B3, B4, B56, B57, B58, B88, B89, B6, B8, B9, B10, B11, B90, A3, A4, A56, A57, A6, A58, hst], by simp [C3, C4, C56, C57, C58, C88, C89, C6, C8, C9, C10, C11, C90, C94, C95, C13, C14, C96, B3, B4, B56, B57, B58, B88, B89, B6, B8, B9, B10, B11, B90, A3, A4, A56, A57, A6, A58, hst], by simp [C3, C4, C56, C57, C58, C88, C89, C6, C8, C9, C10, C11, C90, C94, C95, C13, C14, C96, B3, B4, B56, B57, B58, B88, B89, B6, B8, B9, B10, B11, B90, A3, A4, A56, A57, A6, A58, hst], by simp [C3, C4, C56, C57, C58, C88, C89, C6, C8, C9, C10, C11, C90, C94, C95, C13, C14, C96, B3, B4, B56, B57, B58, B88, B89, B6, B8, B9, B10, B11, B90, A3, A4, A56, A57, A6, A58, hst], by simp [C3, C4, C56, C57, C58, C88, C89, C6, C8, C9, C10, C11, C90, C94, C95, C13, C14, C96, B3, B4, B56, B57, B58, B88, B89, B6, B8, B9, B10, B11, B90, A3, A4, A56, A57, A6, A58, hst], by simp [C3, C4, C56, C57, C58, C88, C89, C6, C8, C9, C10, C11, C90, C94, C95, C13, C14, C96, B3, B4, B56, B57, B58, B88, B89, B6, B8, B9, B10, B11, B90, A3, A4, A56, A57, A6, A58, hst], by simp [C3, C4, C56, C57, C58, C88, C89, C6, C8, C9, C10, C11, C90, C94, C95, C13, C14, C96, B3, B4, B56, B57, B58, B88, B89, B6, B8, B9, B10, B11, B90, A3, A4, A56, A57, A6, A58, hst], hcb2 _, by omega⟩
            · rw [if_neg e] at hst
              repeat' (first | (refine wpc_split _ (fun hc => ?_) (fun hc => ?_) <;> (try simp at hc)) | (refine ww_split _ (fun hc => ?_) (fun hc => ?_) <;> (try simp at hc)) | (refine wp_drawF (by kernel_rfl) ?_) | (refine wk_yldW _ ?_) | (refine layOwe _ (by kernel_rfl) ?_) | (refine owe ?_ (fun ho => ?_)) | (simp (disch := first | assumption | omega | (simp; done) | (simp; omega)) [C3, C4, C56, C57, C58, C88, C89, C6, C8, C9, C10, C11, C90, C94, C95, C13, C14, C96, B3, B4, B56, B57, B58, B88, B89, B6, B8, B9, B10, B11, B90, A3, A4, A56, A57, A6, A58, hcb2, e, -getElem?_pos, List.getElem?_cons_zero, List.getElem?_cons_succ]))
              exact Cih (Cm - 1) _ _ (by omega) ⟨b + 1, by simp [C3, C4, C56, C57, C58, C88, C89, C6, C8, C9, C10, C11, C90, C94, C95, C13, C14, C96, B3, B4, B56, B57, B58, B88, B89, B6, B8, B9, B10, B11, B90, A3, A4, A56, A57, A6, A58, hst], by simp [C3, C4, C56, C57, C58, C88, C89, C6, C8, C9, C10, C11, C90, C94, C95, C13, C14, C96, B3, B4, B56, B57, B58, B88, B89, B6, B8, B9, B10, B11, B90, A3, A4, A56, A57, A6, A58, hst], by simp [C3, C4, C56, C57, C58, C88, C89, C6, C8, C9, C10, C11, C90, C94, C95, C13, C14, C96, B3, B4, B56, B57, B58, B88, B89, B6, B8, B9, B10, B11, B90, A3, A4, A56, A57, A6, A58, hst], by simp [C3, C4, C56, C57, C58, C88, C89, C6, C8, C9, C10, C11, C90, C94, C95, C13, C14, C96, B3, B4, B56, B57, B58, B88, B89, B6, B8, B9, B10, B11, B90, A3, A4, A56, A57, A6, A58, hst], by simp [C3, C4, C56, C57, C58, C88, C89, C6, C8, C9, C10, C11, C90, C94, C95, C13, C14, C96, B3, B4, B56, B57, B58, B88, B89, B6, B8, B9, B10, B11, B90, A3, A4, A56, A57, A6, A58, hst], by simp [C3, C4, C56, C57, C58, C88, C89, C6, C8, C9, C10, C11, C90, C94, C95, C13, C14, C96, B3, B4, B56, B57, B58, B88, B89, B6, B8, B9, B10, B11, B90, A3, A4, A56, A57, A6, A58, hst], by simp [C3, C4, C56, C57, C58, C88, C89, C6, C8, C9, C10, C11, C90, C94, C95, C13, C14, C96, B3, B4, B56, B57, B58, B88, B89, B6, B8, B9, B10, B11, B90, A3, A4, A56, A57, A6, A58, hst], by simp [C3, C4, C56, C57, C58, C88, C89, C6, C8, C9, C10, C11, C90, C94, C95, C13, C14, C96, B3, B4, B56, B57, B58, B88, B89, B6, B8, B9, B10, B11, B90, A3, A4, A56, A57, A6, A58, hst], by simp [C3, C4, C56, C57, C58, C88, C89, C6, C8, C9, C10, C11, C90, C94, C95, C13, C14, C96, B3, B4, B56, B57, B58, B88, B89, B6, B8, B9, B10, B11, B90, A3, A4, A56, A57, A6, A58, hst], by simp [C3, C4, C56, C57, C58, C88, C89, C6, C8, C9, C10, C11, C90, C94, C95, C13, C14, C96, B3, B4, B56, B57, B58, B88, B89, B6, B8, B9, B10, B11, B90, A3, A4, A56, A57, A6, A58, hst], by simp [C3, C4, C56, C57, C58, C88, C89, C6, C8, C9, C10, C11, C90, C94, C95, C13, C14, C96, B3, B4, B56, B57, B58, B88, B89, B6, B8, B9, B10, B11, B90, A3, A4, A56, A57, A6, A58, hst], by simp [C3, C4, C56, C57, C58, C88, C89, C6, C8, C9, C10, C11, C90, C94, C95, C13, C14, C96, B3, B4, B56, B57, B58, B88, B89, B6, B8, B9, B10, B11, B90, A3, A4, A56, A57, A6, A58, hst], by simp [C3, C4, C56, C57, C58, C88, C89, C6, C8, C9, C10, C11, C90, C94, C95, C13, C14, C96, B3, B4, B56, B57, B58, B88, B89, B6, B8, B9, B10, B11, B90, A3, A4, A56, A57, A6, A58, hst], by simp [C3, C4, C56, C57, C58, C88, C89, C6, C8, C9, C10, C11, C90, C94, C95, C13, C14, C96, B3, B4, B56, B57, B58, B88, B89, B6, B8, B9, B10, B11, B90, A3, A4, A56, A57, A6, A58, hst], by simp [C3, C4, C56, C57, C58, C88, C89, C6, C8, C9, C10, C11, C90, C94, C95, C13, C14, C96, B3, B4, B56, B57, B58, B88, B89, B6, B8, B9, B10, B11, B90, A3, A4, A56, A57, A6, A58, hst], by simp [C3, C4, C56, C57, C58, C88, C89, C6, C8, C9, C10, C11, C90, C94, C95, C13, C14, C96, B3, B4, B56, B57, B58, B88, B89, B6, B8, B9, B10, B11, B90, A3, A4, A56, A57, A6, A58, hst], by simp [C3, C4, C56, C57, C58, C88, C89, C6, C8, C9, C10, C11, C90, C94, C95, C13, C14, C96, B3, B4, B56, B57, B58, B88, B89, B6, B8, B9, B10, B11, B90, A3, A4, A56, A57, A6, A58, hst], by simp [C3, C4, C56, C57, C58, C88, C89, C6, C8, C9, C10, C11, C90, C94, C95, C13, C14, C96, B3, B4, B56, B57, B58, B88, B89, B6, B8, B9, B10, B11, B90, A3, A4, A56, A57, A6, A58, hst], hcb2 _, by omega⟩
          · have h1 : x.take b = x := List.take_of_length_le (by omega)
            rw [h1] at C14
            have hsl := sameN_le x (nth x a).text
            generalize hSS : sameN x (nth x a).text = SS at *
            have hcase : ((nth x a).text = [] ∧ ch = [] ∧ True) ∨ ((nth x a).text = [] ∧ ¬ ch = [] ∧ ¬ x.length < 2 * SS) ∨ (¬ (nth x a).text = [] ∧ ch = (nth x a).text ∧ True) ∨ (¬ (nth x a).text = [] ∧ ¬ ch = (nth x a).text ∧ ¬ 2 * x.length < 3 * SS) := by
              by_cases g1 : (nth x a).text = []
              · by_cases g2 : ch = []
                · exact .inl ⟨g1, g2, trivial⟩
                · exact .inr (.inl ⟨g1, g2, fun e => g2 (m2 g1 e)⟩)
              · by_cases g2 : ch = (nth x a).text
                · exact .inr (.inr (.inl ⟨g1, g2, trivial⟩))
                · exact .inr (.inr (.inr ⟨g1, g2, fun e => g2 (m1 g1 e)⟩))
            have hcl2 : (textsC (nth x a)).length = (nth x a).alts.length + 1 := by simp [textsC]
            obtain ⟨bz, bz1, bz2⟩ := apok_apz (P := Tryd.prog) (ts := #[29, 29]) (sz := 1) (by simp)
            obtain ⟨fl', h', hap1, _, hbs', _⟩ := append_R_any (P := Tryd.prog) (E := eS) (h := Ch) (fl := (false, true, none)) (l := [(nth x a).text]) (fl2 := fl0) (m := (nth x a).alts) bz1 (App.full _ _ _) (by simp; omega) bz2
            have hap2 : appendV Tryd.prog Ch false #[29, 29] (.row false true [.str (nth x a).text] 1 none) (R fl0 eS (nth x a).alts) = some (R fl' eS (textsC (nth x a)), h') := hap1
            have hap3 : appendV Tryd.prog Ch false #[29, 29] (R (false, true, none) eS [(nth x a).text]) (R fl0 eS (nth x a).alts) = some (R fl' eS (textsC (nth x a)), h') := hap1
            have hmem : ∀ d, d < (textsC (nth x a)).length → ¬ ptS x ch < ptS x (nth (textsC (nth x a)) d) := by
              intro d hd
              have hin : nth (textsC (nth x a)) d ∈ textsS x := by unfold textsS; rw [List.mem_flatMap]; exact ⟨_, hca, nth_mem hd⟩
              by_cases e : nth (textsC (nth x a)) d = []
              · rw [e]; have := ci3 hwx; omega
              · have := ci2 _ hin e hwx; omega
            have hta := textsS_take ha
            have hfin : (decide (ch = []) || decide (ch ∈ textsS (x.take (a + 1)))) = (decide (ch = []) || decide (ch ∈ textsS (x.take a)) || decide (ch ∈ textsC (nth x a))) := by
              rw [hta]; simp [List.mem_append, Bool.or_assoc]
            generalize hTC : textsC (nth x a) = TC at *
            generalize hf0 : (decide (ch = []) || decide (ch ∈ textsS (x.take a))) = found at *
            rcases hcase with ⟨g1, g2, g3⟩ | ⟨g1, g2, g3⟩ | ⟨g1, g2, g3⟩ | ⟨g1, g2, g3⟩
            all_goals
              try rw [g1] at hap2
              try rw [g1] at hap3
              try rw [g1] at hcb
              repeat' (first | (refine wpc_split _ (fun hc => ?_) (fun hc => ?_) <;> (try simp at hc)) | (refine ww_split _ (fun hc => ?_) (fun hc => ?_) <;> (try simp at hc)) | (refine wp_drawF (by kernel_rfl) ?_) | (refine wk_yldW _ ?_) | (refine layOwe _ (by kernel_rfl) ?_) | (refine owe ?_ (fun ho => ?_)) | (simp (disch := first | assumption | omega | (simp; done) | (simp; omega)) [C3, C4, C56, C57, C58, C88, C89, C6, C8, C9, C10, C11, C90, C94, C95, C13, C14, C96, B3, B4, B56, B57, B58, B88, B89, B6, B8, B9, B10, B11, B90, A3, A4, A56, A57, A6, A58, hcb, hap2, hap3, g1, g2, g3, -getElem?_pos, List.getElem?_cons_zero, List.getElem?_cons_succ]))
              all_goals try (exfalso; omega)
              all_goals
                clear hmaj hqx hgood hso hno hal8 hap1 hap2 hap3 ci1 ci2 ci3 m1 m2 hcb
                refine wp_loopE cfg rfl (fun f0 h0 m fr h => ∃ d : Nat, fr 3 = f0 3 ∧ fr 4 = f0 4 ∧ fr 56 = f0 56 ∧ fr 57 = f0 57 ∧ fr 58 = f0 58 ∧ fr 88 = f0 88 ∧ fr 89 = f0 89 ∧ fr 6 = f0 6 ∧ fr 8 = f0 8 ∧ fr 9 = f0 9 ∧ fr 10 = f0 10 ∧ fr 90 = f0 90 ∧ fr 146 = R fl' eS TC ∧ fr 147 = .int .i64 TC.length ∧ fr 148 = .int .i64 d ∧ fr 11 = .bool (found || decide (ch ∈ TC.take d)) ∧ (d + m = TC.length)) (TC.length) _ _ ⟨0, rfl, rfl, rfl, rfl, rfl, rfl, rfl, rfl, rfl, rfl, rfl, rfl, by first | rfl | (simp; done) | (simp [R]; done) | simp [R], by first | rfl | (simp; done) | (simp [R]; done) | simp [R], by first | rfl | (simp; done) | (simp [R]; done) | simp [R], by simp [C11], by first | rfl | (simp; done) | omega⟩ ?_
                rintro Dm Df Dh ⟨d, D3, D4, D56, D57, D58, D88, D89, D6, D8, D9, D10, D90, D146, D147, D148, D11, hm4⟩ Dih
                try simp [C3, C4, C56, C57, C58, C88, C89, C6, C8, C9, C10, C11, C90, C94, C95, C13, C14, C96, B3, B4, B56, B57, B58, B88, B89, B6, B8, B9, B10, B11, B90, A3, A4, A56, A57, A6, A58] at D3 D4 D56 D57 D58 D88 D89 D6 D8 D9 D10 D90
                by_cases hd : d < TC.length
                · have hpm := hmem d hd
                  have hnw : (found || decide (ch ∈ TC.take (d + 1))) = (found || decide (ch ∈ TC.take d) || decide (nth TC d = ch)) := by
                    rw [nth_take hd]; simp [List.mem_append, Bool.or_assoc, eq_comm]
                  cases hfo : (found || decide (ch ∈ TC.take d)) with
                  | true =>
                    rw [hfo] at D11 hnw
                    repeat' (first | (refine wpc_split _ (fun hc => ?_) (fun hc => ?_) <;> (try simp at hc)) | (refine ww_split _ (fun hc => ?_) (fun hc => ?_) <;> (try simp at hc)) | (refine wp_drawF (by kernel_rfl) ?_) | (refine wk_yldW _ ?_) | (refine layOwe _ (by kernel_rfl) ?_) | (refine owe ?_ (fun ho => ?_)) | (simp (disch := first | assumption | omega | (simp; done) | (simp; omega)) [D3, D4, D56, D57, D58, D88, D89, D6, D8, D9, D10, D90, D146, D147, D148, D11, C3, C4, C56, C57, C58, C88, C89, C6, C8, C9, C10, C11, C90, C94, C95, C13, C14, C96, B3, B4, B56, B57, B58, B88, B89, B6, B8, B9, B10, B11, B90, A3, A4, A56, A57, A6, A58, eS, hpm, hsi, -getElem?_pos, List.getElem?_cons_zero, List.getElem?_cons_succ]))
                    exact Dih (Dm - 1) _ _ (by omega) ⟨d + 1, by simp [D3, D4, D56, D57, D58, D88, D89, D6, D8, D9, D10, D90, D146, D147, D148, D11, C3, C4, C56, C57, C58, C88, C89, C6, C8, C9, C10, C11, C90, C94, C95, C13, C14, C96, B3, B4, B56, B57, B58, B88, B89, B6, B8, B9, B10, B11, B90, A3, A4, A56, A57, A6, A58, hnw], by simp [D3, D4, D56, D57, D58, D88, D89, D6, D8, D9, D10, D90, D146, D147, D148, D11, C3, C4, C56, C57, C58, C88, C89, C6, C8, C9, C10, C11, C90, C94, C95, C13, C14, C96, B3, B4, B56, B57, B58, B88, B89, B6, B8, B9, B10, B11, B90, A3, A4, A56, A57, A6, A58, hnw], by simp [D3, D4, D56, D57, D58, D88, D89, D6, D8, D9, D10, D90, D146, D147, D148, D11, C3, C4, C56, C57, C58, C88, C89, C6, C8, C9, C10, C11, C90, C94, C95, C13, C14, C96, B3, B4, B56, B57, B58, B88, B89, B6, B8, B9, B10, B11, B90, A3, A4, A56, A57, A6, A58, hnw], by simp [D3, D4, D56, D57, D58, D88, D89, D6, D8, D9, D10, D90, D146, D147, D148, D11, C3, C4, C56, C57, C58, C88, C89, C6, C8, C9, C10, C11, C90, C94, C95, C13, C14, C96, B3, B4, B56, B57, B58, B88, B89, B6, B8, B9, B10, B11, B90, A3, A4, A56, A57, A6, A58, hnw], by simp [D3, D4, D56, D57, D58, D88, D89, D6, D8, D9, D10, D90, D146, D147, D148, D11, C3, C4, C56, C57, C58, C88, C89, C6, C8, C9, C10, C11, C90, C94, C95, C13, C14, C96, B3, B4, B56, B57, B58, B88, B89, B6, B8, B9, B10, B11, B90, A3, A4, A56, A57, A6, A58, hnw], by simp [D3, D4, D56, D57, D58, D88, D89, D6, D8, D9, D10, D90, D146, D147, D148, D11, C3, C4, C56, C57, C58, C88, C89, C6, C8, C9, C10, C11, C90, C94, C95, C13, C14, C96, B3, B4, B56, B57, B58, B88, B89, B6, B8, B9, B10, B11, B90, A3, A4, A56, A57, A6, A58, hnw], by simp [D3, D4, D56, D57, D58, D88, D89, D6, D8, D9, D10, D90, D146, D147, D148, D11, C3, C4, C56, C57, C58, C88, C89, C6, C8, C9, C10, C11, C90, C94, C95, C13, C14, C96, B3, B4, B56, B57, B58, B88, B89, B6, B8, B9, B10, B11, B90, A3, A4, A56, A57, A6, A58, hnw], by simp [D3, D4, D56, D57, D58, D88, D89, D6, D8, D9, D10, D90, D146, D147, D148, D11, C3, C4, C56, C57, C58, C88, C89, C6, C8, C9, C10, C11, C90, C94, C95, C13, C14, C96, B3, B4, B56, B57, B58, B88, B89, B6, B8, B9, B10, B11, B90, A3, A4, A56, A57, A6, A58, hnw], by simp [D3, D4, D56, D57, D58, D88, D89, D6, D8, D9, D10, D90, D146, D147, D148, D11, C3, C4, C56, C57, C58, C88, C89, C6, C8, C9, C10, C11, C90, C94, C95, C13, C14, C96, B3, B4, B56, B57, B58, B88, B89, B6, B8, B9, B10, B11, B90, A3, A4, A56, A57, A6, A58, hnw], by simp [D3, D4, D56, D57, D58, D88, D89, D6, D8, D9, D10, D90, D146, D147, D148, D11, C3, C4, C56, C57, C58, C88, C89, C6, C8, C9, C10, C11, C90, C94, C95, C13, C14, C96, B3, B4, B56, B57, B58, B88, B89, B6, B8, B9, B10, B11, B90, A3, A4, A56, A57, A6, A58, hnw], by simp [D3, D4, D56, D57, D58, D88, D89, D6, D8, D9, D10, D90, D146, D147, D148, D11, C3, C4, C56, C57, C58, C88, C89, C6, C8, C9, C10, C11, C90, C94, C95, C13, C14, C96, B3, B4, B56, B57, B58, B88, B89, B6, B8, B9, B10, B11, B90, A3, A4, A56, A57, A6, A58, hnw], by simp [D3, D4, D56, D57, D58, D88, D89, D6, D8, D9, D10, D90, D146, D147, D148, D11, C3, C4, C56, C57, C58, C88, C89, C6, C8, C9, C10, C11, C90, C94, C95, C13, C14, C96, B3, B4, B56, B57, B58, B88, B89, B6, B8, B9, B10, B11, B90, A3, A4, A56, A57, A6, A58, hnw], by simp [D3, D4, D56, D57, D58, D88, D89, D6, D8, D9, D10, D90, D146, D147, D148, D11, C3, C4, C56, C57, C58, C88, C89, C6, C8, C9, C10, C11, C90, C94, C95, C13, C14, C96, B3, B4, B56, B57, B58, B88, B89, B6, B8, B9, B10, B11, B90, A3, A4, A56, A57, A6, A58, hnw], by simp [D3, D4, D56, D57, D58, D88, D89, D6, D8, D9, D10, D90, D146, D147, D148, D11, C3, C4, C56, C57, C58, C88, C89, C6, C8, C9, C10, C11, C90, C94, C95, C13, C14, C96, B3, B4, B56, B57, B58, B88, B89, B6, B8, B9, B10, B11, B90, A3, A4, A56, A57, A6, A58, hnw], by simp [D3, D4, D56, D57, D58, D88, D89, D6, D8, D9, D10, D90, D146, D147, D148, D11, C3, C4, C56, C57, C58, C88, C89, C6, C8, C9, C10, C11, C90, C94, C95, C13, C14, C96, B3, B4, B56, B57, B58, B88, B89, B6, B8, B9, B10, B11, B90, A3, A4, A56, A57, A6, A58, hnw], by simp [D3, D4, D56, D57, D58, D88, D89, D6, D8, D9, D10, D90, D146, D147, D148, D11, C3, C4, C56, C57, C58, C88, C89, C6, C8, C9, C10, C11, C90, C94, C95, C13, C14, C96, B3, B4, B56, B57, B58, B88, B89, B6, B8, B9, B10, B11, B90, A3, A4, A56, A57, A6, A58, hnw], by omega⟩
                  | false =>
                    rw [hfo] at D11 hnw
                    by_cases he : nth TC d = ch
                    · rw [decide_eq_true he] at hnw
                      repeat' (first | (refine wpc_split _ (fun hc => ?_) (fun hc => ?_) <;> (try simp at hc)) | (refine ww_split _ (fun hc => ?_) (fun hc => ?_) <;> (try simp at hc)) | (refine wp_drawF (by kernel_rfl) ?_) | (refine wk_yldW _ ?_) | (refine layOwe _ (by kernel_rfl) ?_) | (refine owe ?_ (fun ho => ?_)) | (simp (disch := first | assumption | omega | (simp; done) | (simp; omega)) [D3, D4, D56, D57, D58, D88, D89, D6, D8, D9, D10, D90, D146, D147, D148, D11, C3, C4, C56, C57, C58, C88, C89, C6, C8, C9, C10, C11, C90, C94, C95, C13, C14, C96, B3, B4, B56, B57, B58, B88, B89, B6, B8, B9, B10, B11, B90, A3, A4, A56, A57, A6, A58, eS, hpm, hsi, he, -getElem?_pos, List.getElem?_cons_zero, List.getElem?_cons_succ]))
                      exact Dih (Dm - 1) _ _ (by omega) ⟨d + 1, by simp [D3, D4, D56, D57, D58, D88, D89, D6, D8, D9, D10, D90, D146, D147, D148, D11, C3, C4, C56, C57, C58, C88, C89, C6, C8, C9, C10, C11, C90, C94, C95, C13, C14, C96, B3, B4, B56, B57, B58, B88, B89, B6, B8, B9, B10, B11, B90, A3, A4, A56, A57, A6, A58, hnw], by simp [D3, D4, D56, D57, D58, D88, D89, D6, D8, D9, D10, D90, D146, D147, D148, D11, C3, C4, C56, C57, C58, C88, C89, C6, C8, C9, C10, C11, C90, C94, C95, C13, C14, C96, B3, B4, B56, B57, B58, B88, B89, B6, B8, B9, B10, B11, B90, A3, A4, A56, A57, A6, A58, hnw], by simp [D3, D4, D56, D57, D58, D88, D89, D6, D8, D9, D10, D90, D146, D147, D148, D11, C3, C4, C56, C57, C58, C88, C89, C6, C8, C9, C10, C11, C90, C94, C95, C13, C14, C96, B3, B4, B56, B57, B58, B88, B89, B6, B8, B9, B10, B11, B90, A3, A4, A56, A57, A6, A58, hnw], by simp [D3, D4, D56, D57, D58, D88, D89, D6, D8, D9, D10, D90, D146, D147, D148, D11, C3, C4, C56, C57, C58, C88, C89, C6, C8, C9, C10, C11, C90, C94, C95, C13, C14, C96, B3, B4, B56, B57, B58, B88, B89, B6, B8, B9, B10, B11, B90, A3, A4, A56, A57, A6, A58, hnw], by simp [D3, D4, D56, D57, D58, D88, D89, D6, D8, D9, D10, D90, D146, D147, D148, D11, C3, C4, C56, C57, C58, C88, C89, C6, C8, C9, C10, C11, C90, C94, C95, C13, C14, C96, B3, B4, B56, B57, B58, B88, B89, B6, B8, B9, B10, B11, B90, A3, A4, A56, A57, A6, A58, hnw], by simp [D3, D4, D56, D57, D58, D88, D89, D6, D8, D9, D10, D90, D146, D147, D148, D11, C3, C4, C56, C57, C58, C88, C89, C6, C8, C9, C10, C11, C90, C94, C95, C13, C14, C96, B3, B4, B56, B57, B58, B88, B89, B6, B8, B9, B10, B11, B90, A3, A4, A56, A57, A6, A58, hnw], by simp [D3, D4, D56, D57, D58, D88, D89, D6, D8, D9, D10, D90, D146, D147, D148, D11, C3, C4, C56, C57, C58, C88, C89, C6, C8, C9, C10, C11, C90, C94, C95, C13, C14, C96, B3, B4, B56, B57, B58, B88, B89, B6, B8, B9, B10, B11, B90, A3, A4, A56, A57, A6, A58, hnw], by simp [D3, D4, D56, D57, D58, D88, D89, D6, D8, D9, D10, D90, D146, D147, D148, D11, C3, C4, C56, C57, C58, C88, C89, C6, C8, C9, C10, C11, C90, C94, C95, C13, C14, C96, B3, B4, B56, B57, B58, B88, B89, B6, B8, B9, B10, B11, B90, A3, A4, A56, A57, A6, A58, hnw], by simp [D3, D4, D56, D57, D58, D88, D89, D6, D8, D9, D10, D90, D146, D147, D148, D11, C3, C4, C56, C57, C58, C88, C89, C6, C8, C9, C10, C11, C90, C94, C95, C13, C14, C96, B3, B4, B56, B57, B58, B88, B89, B6, B8, B9, B10, B11, B90, A3, A4, A56, A57, A6, A58, hnw], by simp [D3, D4, D56, D57, D58, D88, D89, D6, D8, D9, D10, D90, D146, D147, D148, D11, C3, C4, C56, C57, C58, C88, C89, C6, C8, C9, C10, C11, C90, C94, C95, C13, C14, C96, B3, B4, B56, B57, B58, B88, B89, B6, B8, B9, B10, B11, B90, A3, A4, A56, A57, A6, A58, hnw], by simp [D3, D4, D56, D57, D58, D88, D89, D6, D8, D9, D10, D90, D146, D147, D148, D11, C3, C4, C56, C57, C58, C88, C89, C6, C8, C9, C10, C11, C90, C94, C95, C13, C14, C96, B3, B4, B56, B57, B58, B88, B89, B6, B8, B9, B10, B11, B90, A3, A4, A56, A57, A6, A58, hnw], by simp [D3, D4, D56, D57, D58, D88, D89, D6, D8, D9, D10, D90, D146, D147, D148, D11, C3, C4, C56, C57, C58, C88, C89, C6, C8, C9, C10, C11, C90, C94, C95, C13, C14, C96, B3, B4, B56, B57, B58, B88, B89, B6, B8, B9, B10, B11, B90, A3, A4, A56, A57, A6, A58, hnw], by simp [D3, D4, D56, D57, D58, D88, D89, D6, D8, D9, D10, D90, D146, D147, D148, D11, C3, C4, C56, C57, C58, C88, C89, C6, C8, C9, C10, C11, C90, C94, C95, C13, C14, C96, B3, B4, B56, B57, B58, B88, B89, B6, B8, B9, B10, B11, B90, A3, A4, A56, A57, A6, A58, hnw], by simp [D3, D4, D56, D57, D58, D88, D89, D6, D8, D9, D10, D90, D146, D147, D148, D11, C3, C4, C56, C57, C58, C88, C89, C6, C8, C9, C10, C11, C90, C94, C95, C13, C14, C96, B3, B4, B56, B57, B58, B88, B89, B6, B8, B9, B10, B11, B90, A3, A4, A56, A57, A6, A58, hnw], by simp [D3, D4, D56, D57, D58, D88, D89, D6, D8, D9, D10, D90, D146, D147, D148, D11, C3, C4, C56, C57, C58, C88, C89, C6, C8, C9, C10, C11, C90, C94, C95, C13, C14, C96, B3, B4, B56, B57, B58, B88, B89, B6, B8, B9, B10, B11, B90, A3, A4, A56, A57, A6, A58, hnw], by simp [D3, D4, D56, D57, D58, D88, D89, D6, D8, D9, D10, D90, D146, D147, D148, D11, C3, C4, C56, C57, C58, C88, C89, C6, C8, C9, C10, C11, C90, C94, C95, C13, C14, C96, B3, B4, B56, B57, B58, B88, B89, B6, B8, B9, B10, B11, B90, A3, A4, A56, A57, A6, A58, hnw], by omega⟩
                    · rw [decide_eq_false he] at hnw
                      repeat' (first | (refine wpc_split _ (fun hc => ?_) (fun hc => ?_) <;> (try simp at hc)) | (refine ww_split _ (fun hc => ?_) (fun hc => ?_) <;> (try simp at hc)) | (refine wp_drawF (by kernel_rfl) ?_) | (refine wk_yldW _ ?_) | (refine layOwe _ (by kernel_rfl) ?_) | (refine owe ?_ (fun ho => ?_)) | (simp (disch := first | assumption | omega | (simp; done) | (simp; omega)) [D3, D4, D56, D57, D58, D88, D89, D6, D8, D9, D10, D90, D146, D147, D148, D11, C3, C4, C56, C57, C58, C88, C89, C6, C8, C9, C10, C11, C90, C94, C95, C13, C14, C96, B3, B4, B56, B57, B58, B88, B89, B6, B8, B9, B10, B11, B90, A3, A4, A56, A57, A6, A58, eS, hpm, hsi, he, -getElem?_pos, List.getElem?_cons_zero, List.getElem?_cons_succ]))
                      exact Dih (Dm - 1) _ _ (by omega) ⟨d + 1, by simp [D3, D4, D56, D57, D58, D88, D89, D6, D8, D9, D10, D90, D146, D147, D148, D11, C3, C4, C56, C57, C58, C88, C89, C6, C8, C9, C10, C11, C90, C94, C95, C13, C14, C96, B3, B4, B56, B57, B58, B88, B89, B6, B8, B9, B10, B11, B90, A3, A4, A56, A57, A6, A58, hnw, he], by simp [D3, D4, D56, D57, D58, D88, D89, D6, D8, D9, D10, D90, D146, D147, D148, D11, C3, C4, C56, C57, C58, C88, C89, C6, C8, C9, C10, C11, C90, C94, C95, C13, C14, C96, B3, B4, B56, B57, B58, B88, B89, B6, B8, B9, B10, B11, B90, A3, A4, A56, A57, A6, A58, hnw, he], by simp [D3, D4, D56, D57, D58, D88, D89, D6, D8, D9, D10, D90, D146, D147, D148, D11, C3, C4, C56, C57, C58, C88, C89, C6, C8, C9, C10, C11, C90, C94, C95, C13, C14, C96, B3, B4, B56, B57, B58, B88, B89, B6, B8, B9, B10, B11, B90, A3, A4, A56, A57, A6, A58, hnw, he], by simp [D3, D4, D56, D57, D58, D88, D89, D6, D8, D9, D10, D90, D146, D147, D148, D11, C3, C4, C56, C57, C58, C88, C89, C6, C8, C9, C10, C11, C90, C94, C95, C13, C14, C96, B3, B4, B56, B57, B58, B88, B89, B6, B8, B9, B10, B11, B90, A3, A4, A56, A57, A6, A58, hnw, he], by simp [D3, D4, D56, D57, D58, D88, D89, D6, D8, D9, D10, D90, D146, D147, D148, D11, C3, C4, C56, C57, C58, C88, C89, C6, C8, C9, C10, C11, C90, C94, C95, C13, C14, C96, B3, B4, B56, B57, B58, B88, B89, B6, B8, B9, B10, B11, B90, A3, A4, A56, A57, A6, A58, hnw, he], by simp [D3, D4, D56, D57, D58, D88, D89, D6, D8, D9, D10, D90, D146, D147, D148, D11, C3, C4, C56, C57, C58, C88, C89, C6, C8, C9, C10, C11, C90, C94, C95, C13, C14, C96, B3, B4, B56, B57, B58, B88, B89, B6, B8, B9, B10, B11, B90, A3, A4, A56, A57, A6, A58, hnw, he], by simp [D3, D4, D56, D57, D58, D88, D89, D6, D8, D9, D10, D90, D146, D147, D148, D11, C3, C4, C56, C57, C58, C88, C89, C6, C8, C9, C10, C11, C90, C94, C95, C13, C14, C96, B3, B4, B56, B57, B58, B88, B89, B6, B8, B9, B10, B11, B90, A3, A4, A56, A57, A6, A58, hnw, he], by simp [D3, D4, D56, D57, D58, D88, D89, D6, D8, D9, D10, D90, D146, D147, D148, D11, C3, C4, C56, C57, C58, C88, C89, C6, C8, C9, C10, C11, C90, C94, C95, C13, C14, C96, B3, B4, B56, B57, B58, B88, B89, B6, B8, B9, B10, B11, B90, A3, A4, A56, A57, A6, A58, hnw, he], by simp [D3, D4, D56, D57, D58, D88, D89, D6, D8, D9, D10, D90, D146, D147, D148, D11, C3, C4, C56, C57, C58, C88, C89, C6, C8, C9, C10, C11, C90, C94, C95, C13, C14, C96, B3, B4, B56, B57, B58, B88, B89, B6, B8, B9, B10, B11, B90, A3, A4, A56, A57, A6, A58, hnw, he], by simp [D3, D4, D56, D57, D58, D88, D89, D6, D8, D9, D10, D90, D146, D147, D148, D11, C3, C4, C56, C57, C58, C88, C89, C6, C8, C9, C10, C11, C90, C94, C95, C13, C14, C96, B3, B4, B56, B57, B58, B88, B89, B6, B8, B9, B10, B11, B90, A3, A4, A56, A57, A6, A58, hnw, he], by simp [D3, D4, D56, D57, D58, D88, D89, D6, D8, D9, D10, D90, D146, D147, D148, D11, C3, C4, C56, C57, C58, C88, C89, C6, C8, C9, C10, C11, C90, C94, C95, C13, C14, C96, B3, B4, B56, B57, B58, B88, B89, B6, B8, B9, B10, B11, B90, A3, A4, A56, A57, A6, A58, hnw, he], by simp [D3, D4, D56, D57, D58, D88, D89, D6, D8, D9, D10, D90, D146, D147, D148, D11, C3, C4, C56, C57, C58, C88, C89, C6, C8, C9, C10, C11, C90, C94, C95, C13, C14, C96, B3, B4, B56, B57, B58, B88, B89, B6, B8, B9, B10, B11, B90, A3, A4, A56, A57, A6, A58, hnw, he], by simp [D3, D4, D56, D57, D58, D88, D89, D6, D8, D9, D10, D90, D146, D147, D148, D11, C3, C4, C56, C57, C58, C88, C89, C6, C8, C9, C10, C11, C90, C94, C95, C13, C14, C96, B3, B4, B56, B57, B58, B88, B89, B6, B8, B9, B10, B11, B90, A3, A4, A56, A57, A6, A58, hnw, he], by simp [D3, D4, D56, D57, D58, D88, D89, D6, D8, D9, D10, D90, D146, D147, D148, D11, C3, C4, C56, C57, C58, C88, C89, C6, C8, C9, C10, C11, C90, C94, C95, C13, C14, C96, B3, B4, B56, B57, B58, B88, B89, B6, B8, B9, B10, B11, B90, A3, A4, A56, A57, A6, A58, hnw, he], by simp [D3, D4, D56, D57, D58, D88, D89, D6, D8, D9, D10, D90, D146, D147, D148, D11, C3, C4, C56, C57, C58, C88, C89, C6, C8, C9, C10, C11, C90, C94, C95, C13, C14, C96, B3, B4, B56, B57, B58, B88, B89, B6, B8, B9, B10, B11, B90, A3, A4, A56, A57, A6, A58, hnw, he], by simp [D3, D4, D56, D57, D58, D88, D89, D6, D8, D9, D10, D90, D146, D147, D148, D11, C3, C4, C56, C57, C58, C88, C89, C6, C8, C9, C10, C11, C90, C94, C95, C13, C14, C96, B3, B4, B56, B57, B58, B88, B89, B6, B8, B9, B10, B11, B90, A3, A4, A56, A57, A6, A58, hnw, he], by omega⟩
                · have h2 : TC.take d = TC := List.take_of_length_le (by omega)
                  rw [h2] at D11
                  repeat' (first | (refine wpc_split _ (fun hc => ?_) (fun hc => ?_) <;> (try simp at hc)) | (refine ww_split _ (fun hc => ?_) (fun hc => ?_) <;> (try simp at hc)) | (refine wp_drawF (by kernel_rfl) ?_) | (refine wk_yldW _ ?_) | (refine layOwe _ (by kernel_rfl) ?_) | (refine owe ?_ (fun ho => ?_)) | (simp (disch := first | assumption | omega | (simp; done) | (simp; omega)) [D3, D4, D56, D57, D58, D88, D89, D6, D8, D9, D10, D90, D146, D147, D148, D11, C3, C4, C56, C57, C58, C88, C89, C6, C8, C9, C10, C11, C90, C94, C95, C13, C14, C96, B3, B4, B56, B57, B58, B88, B89, B6, B8, B9, B10, B11, B90, A3, A4, A56, A57, A6, A58, -getElem?_pos, List.getElem?_cons_zero, List.getElem?_cons_succ]))
                  exact Bih (Bm - 1) _ _ (by omega) ⟨a + 1, by simp [D3, D4, D56, D57, D58, D88, D89, D6, D8, D9, D10, D90, D146, D147, D148, D11, C3, C4, C56, C57, C58, C88, C89, C6, C8, C9, C10, C11, C90, C94, C95, C13, C14, C96, B3, B4, B56, B57, B58, B88, B89, B6, B8, B9, B10, B11, B90, A3, A4, A56, A57, A6, A58, hfin], by simp [D3, D4, D56, D57, D58, D88, D89, D6, D8, D9, D10, D90, D146, D147, D148, D11, C3, C4, C56, C57, C58, C88, C89, C6, C8, C9, C10, C11, C90, C94, C95, C13, C14, C96, B3, B4, B56, B57, B58, B88, B89, B6, B8, B9, B10, B11, B90, A3, A4, A56, A57, A6, A58, hfin], by simp [D3, D4, D56, D57, D58, D88, D89, D6, D8, D9, D10, D90, D146, D147, D148, D11, C3, C4, C56, C57, C58, C88, C89, C6, C8, C9, C10, C11, C90, C94, C95, C13, C14, C96, B3, B4, B56, B57, B58, B88, B89, B6, B8, B9, B10, B11, B90, A3, A4, A56, A57, A6, A58, hfin], by simp [D3, D4, D56, D57, D58, D88, D89, D6, D8, D9, D10, D90, D146, D147, D148, D11, C3, C4, C56, C57, C58, C88, C89, C6, C8, C9, C10, C11, C90, C94, C95, C13, C14, C96, B3, B4, B56, B57, B58, B88, B89, B6, B8, B9, B10, B11, B90, A3, A4, A56, A57, A6, A58, hfin], by simp [D3, D4, D56, D57, D58, D88, D89, D6, D8, D9, D10, D90, D146, D147, D148, D11, C3, C4, C56, C57, C58, C88, C89, C6, C8, C9, C10, C11, C90, C94, C95, C13, C14, C96, B3, B4, B56, B57, B58, B88, B89, B6, B8, B9, B10, B11, B90, A3, A4, A56, A57, A6, A58, hfin], by simp [D3, D4, D56, D57, D58, D88, D89, D6, D8, D9, D10, D90, D146, D147, D148, D11, C3, C4, C56, C57, C58, C88, C89, C6, C8, C9, C10, C11, C90, C94, C95, C13, C14, C96, B3, B4, B56, B57, B58, B88, B89, B6, B8, B9, B10, B11, B90, A3, A4, A56, A57, A6, A58, hfin], by simp [D3, D4, D56, D57, D58, D88, D89, D6, D8, D9, D10, D90, D146, D147, D148, D11, C3, C4, C56, C57, C58, C88, C89, C6, C8, C9, C10, C11, C90, C94, C95, C13, C14, C96, B3, B4, B56, B57, B58, B88, B89, B6, B8, B9, B10, B11, B90, A3, A4, A56, A57, A6, A58, hfin], by simp [D3, D4, D56, D57, D58, D88, D89, D6, D8, D9, D10, D90, D146, D147, D148, D11, C3, C4, C56, C57, C58, C88, C89, C6, C8, C9, C10, C11, C90, C94, C95, C13, C14, C96, B3, B4, B56, B57, B58, B88, B89, B6, B8, B9, B10, B11, B90, A3, A4, A56, A57, A6, A58, hfin], by simp [D3, D4, D56, D57, D58, D88, D89, D6, D8, D9, D10, D90, D146, D147, D148, D11, C3, C4, C56, C57, C58, C88, C89, C6, C8, C9, C10, C11, C90, C94, C95, C13, C14, C96, B3, B4, B56, B57, B58, B88, B89, B6, B8, B9, B10, B11, B90, A3, A4, A56, A57, A6, A58, hfin], by simp [D3, D4, D56, D57, D58, D88, D89, D6, D8, D9, D10, D90, D146, D147, D148, D11, C3, C4, C56, C57, C58, C88, C89, C6, C8, C9, C10, C11, C90, C94, C95, C13, C14, C96, B3, B4, B56, B57, B58, B88, B89, B6, B8, B9, B10, B11, B90, A3, A4, A56, A57, A6, A58, hfin], by simp [D3, D4, D56, D57, D58, D88, D89, D6, D8, D9, D10, D90, D146, D147, D148, D11, C3, C4, C56, C57, C58, C88, C89, C6, C8, C9, C10, C11, C90, C94, C95, C13, C14, C96, B3, B4, B56, B57, B58, B88, B89, B6, B8, B9, B10, B11, B90, A3, A4, A56, A57, A6, A58, hfin], by simp [D3, D4, D56, D57, D58, D88, D89, D6, D8, D9, D10, D90, D146, D147, D148, D11, C3, C4, C56, C57, C58, C88, C89, C6, C8, C9, C10, C11, C90, C94, C95, C13, C14, C96, B3, B4, B56, B57, B58, B88, B89, B6, B8, B9, B10, B11, B90, A3, A4, A56, A57, A6, A58, hfin], by simp [D3, D4, D56, D57, D58, D88, D89, D6, D8, D9, D10, D90, D146, D147, D148, D11, C3, C4, C56, C57, C58, C88, C89, C6, C8, C9, C10, C11, C90, C94, C95, C13, C14, C96, B3, B4, B56, B57, B58, B88, B89, B6, B8, B9, B10, B11, B90, A3, A4, A56, A57, A6, A58, hfin], by omega⟩
        · have h1 : x.take a = x := List.take_of_length_le (by omega)
          have hfd : (decide (ch = []) || decide (ch ∈ textsS x)) = true := by
            rcases ci1 with e | ⟨_, e⟩
            · rw [decide_eq_true e]; rfl
            · rw [decide_eq_true e, Bool.or_true]
          rw [h1, hfd] at B11
          repeat' (first | (refine wpc_split _ (fun hc => ?_) (fun hc => ?_) <;> (try simp at hc)) | (refine ww_split _ (fun hc => ?_) (fun hc => ?_) <;> (try simp at hc)) | (refine wp_drawF (by kernel_rfl) ?_) | (refine wk_yldW _ ?_) | (refine layOwe _ (by kernel_rfl) ?_) | (refine owe ?_ (fun ho => ?_)) | (simp (disch := first | assumption | omega | (simp; done) | (simp; omega)) [B3, B4, B56, B57, B58, B88, B89, B6, B8, B9, B10, B11, B90, A3, A4, A56, A57, A6, A58, -getElem?_pos, List.getElem?_cons_zero, List.getElem?_cons_succ]))
          exact Aih (Am - 1) _ _ (by omega) ⟨i + 1, by simp [B3, B4, B56, B57, B58, B88, B89, B6, B8, B9, B10, B11, B90, A3, A4, A56, A57, A6, A58, hk'], by simp [B3, B4, B56, B57, B58, B88, B89, B6, B8, B9, B10, B11, B90, A3, A4, A56, A57, A6, A58, hk'], by simp [B3, B4, B56, B57, B58, B88, B89, B6, B8, B9, B10, B11, B90, A3, A4, A56, A57, A6, A58, hk'], by simp [B3, B4, B56, B57, B58, B88, B89, B6, B8, B9, B10, B11, B90, A3, A4, A56, A57, A6, A58, hk'], by simp [B3, B4, B56, B57, B58, B88, B89, B6, B8, B9, B10, B11, B90, A3, A4, A56, A57, A6, A58, hk'], by simp [B3, B4, B56, B57, B58, B88, B89, B6, B8, B9, B10, B11, B90, A3, A4, A56, A57, A6, A58, hk'], by omega⟩
    · have h1 : l.take i = l := List.take_of_length_le (by omega)
      rw [h1, hW] at A6
      repeat' (first | (refine wpc_split _ (fun hc => ?_) (fun hc => ?_) <;> (try simp at hc)) | (refine ww_split _ (fun hc => ?_) (fun hc => ?_) <;> (try simp at hc)) | (refine wp_drawF (by kernel_rfl) ?_) | (refine wk_yldW _ ?_) | (refine layOwe _ (by kernel_rfl) ?_) | (refine owe ?_ (fun ho => ?_)) | (simp (disch := first | assumption | omega | (simp; done) | (simp; omega)) [A3, A4, A56, A57, A6, A58, hTl, -getElem?_pos, List.getElem?_cons_zero, List.getElem?_cons_succ]))
@[simp] theorem S8 (l : List (List Cell)) (hs : smL l) (q1 : Fl) (hh : Heap) : Ci cfg (.func (.func 8) [] []) [R  q1 (eR eC) l] hh = some (.ret (.bool true), hh) :=
  Ci_K cfg rfl rfl (by simp) (by simp) (C8 l hs)
end Go.Ab
