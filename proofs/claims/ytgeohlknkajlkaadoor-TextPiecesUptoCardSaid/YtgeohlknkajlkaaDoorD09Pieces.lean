/- TextPieces: the law. -/
import Derived.Test.YtgeohlknkajlkaaDoorS09
import Derived.Test.YtgeohlknkajlkaaDoorP09
set_option linter.unusedVariables false
set_option linter.unusedSimpArgs false
set_option linter.unusedSectionVars false
set_option linter.deprecated false
namespace Go.Ab
open Go.Proofs
set_option maxRecDepth 100000
set_option maxHeartbeats 4000000
/-- a gap's code points -/
def gapN (gaps : List Int) (i : Nat) : Int := (if i < gaps.length then nth gaps i else 0) % 4
def gapL (n : Int) : List Int := if n = 0 then [32] else if n = 1 then [9] else if n = 2 then [10, 32] else [13, 10]
theorem gapL_ok (n : Int) : gapL n ≠ [] ∧ (∀ x ∈ gapL n, spaceR x = true) ∧ (gapL n).all point = true ∧ (encAll (gapL n)).length ≤ 2 := by
  unfold gapL
  split
  · decide
  · split
    · decide
    · split <;> decide
theorem C23 (gaps : List Int) (i : Nat) (p : Nat) (h : Heap) (fl : Fl) (hb : h.bs[p]? = some (.cells [R fl eU gaps])) (hg : ∀ y ∈ gaps, 0 ≤ y ∧ y ≤ 255) (hi : i ≤ 1099511627776) (hl : gaps.length ≤ 1099511627776) :
    Ci cfg (.func (.func 23) [] [.ptr p 0]) [.int .i64 i] h = some (.ret (.str (encAll (gapL (gapN gaps i)))), h) := by
  refine Ci_fun_wp (fn := Tryd.f23) rfl Tryd.func23 rfl (by simp [Tryd.f23]) ?_
  have e0 : encAll (gapL 0) = [32] := by decide
  have e1 : encAll (gapL 1) = [9] := by decide
  have e2 : encAll (gapL 2) = [10, 32] := by decide
  have e3 : encAll (gapL 3) = [13, 10] := by decide
  by_cases hii : i < gaps.length
  · have hy := hg _ (nth_mem hii)
    have hn : gapN gaps i = nth gaps i % 4 := by unfold gapN; rw [if_pos hii]
    have h4 : nth gaps i % 4 = 0 ∨ nth gaps i % 4 = 1 ∨ nth gaps i % 4 = 2 ∨ nth gaps i % 4 = 3 := by omega
    rcases h4 with h4 | h4 | h4 | h4
    all_goals
      rw [hn, h4]
      simp (disch := first | assumption | omega | (simp; done) | (simp; omega)) [-getElem?_pos, List.getElem?_cons_zero, List.getElem?_cons_succ, Tryd.f23, hb]
      repeat' (first | (refine wpc_split _ (fun hc => ?_) (fun hc => ?_) <;> (try simp at hc)) | (refine ww_split _ (fun hc => ?_) (fun hc => ?_) <;> (try simp at hc)) | (refine wp_draw _ (by kernel_rfl) ?_) | (refine wk_yldW _ ?_) | (refine owe ?_ (fun ho => ?_)) | (simp (disch := first | assumption | omega | (simp; done) | (simp; omega)) [hb, eU, h4, indexV, e0, e1, e2, e3, -getElem?_pos, List.getElem?_cons_zero, List.getElem?_cons_succ]))
  · have hn : gapN gaps i = 0 := by unfold gapN; rw [if_neg hii]; rfl
    rw [hn]
    simp (disch := first | assumption | omega | (simp; done) | (simp; omega)) [-getElem?_pos, List.getElem?_cons_zero, List.getElem?_cons_succ, Tryd.f23, hb]
    repeat' (first | (refine wpc_split _ (fun hc => ?_) (fun hc => ?_) <;> (try simp at hc)) | (refine ww_split _ (fun hc => ?_) (fun hc => ?_) <;> (try simp at hc)) | (refine wp_draw _ (by kernel_rfl) ?_) | (refine wk_yldW _ ?_) | (refine owe ?_ (fun ho => ?_)) | (simp (disch := first | assumption | omega | (simp; done) | (simp; omega)) [hb, eU, indexV, e0, -getElem?_pos, List.getElem?_cons_zero, List.getElem?_cons_succ]))
/-- the words, each behind it its gap -/
def tailL (g : Nat → Int) : Nat → List (List Int) → List Int
  | _, [] => []
  | i, p :: r => p ++ (gapL (g i) ++ tailL g (i + 1) r)
theorem tailL_split (g : Nat → Int) : ∀ (ps : List (List Int)) (i : Nat), (∀ p ∈ ps, p ≠ [] ∧ ∀ x ∈ p, spaceR x = false) → splitW [] (tailL g i ps) = ps
  | [], i, _ => by simp [tailL, splitW]
  | p :: r, i, h => by
    have hp := h p (by simp)
    have hgp := gapL_ok (g i)
    show splitW [] (p ++ (gapL (g i) ++ tailL g (i + 1) r)) = _
    rw [splitW_word _ _ _ hp.2, List.nil_append, splitW_gap _ hp.1 hgp.1 hgp.2.1, tailL_split g r (i + 1) (fun q hq => h q (List.mem_cons_of_mem _ hq))]
theorem tailL_point (g : Nat → Int) : ∀ (ps : List (List Int)) (i : Nat), (∀ p ∈ ps, p.all point = true) → (tailL g i ps).all point = true
  | [], i, _ => rfl
  | p :: r, i, h => by
    have hp := h p (by simp)
    have hgp := (gapL_ok (g i)).2.2.1
    show (p ++ (gapL (g i) ++ tailL g (i + 1) r)).all point = true
    rw [List.all_append, List.all_append, hp, hgp, tailL_point g r (i + 1) (fun q hq => h q (List.mem_cons_of_mem _ hq))]; rfl
theorem tailL_len (g : Nat → Int) : ∀ (ps : List (List Int)) (i : Nat), (encAll (tailL g i ps)).length ≤ (ps.map fun p => (encAll p).length).sum + 2 * ps.length
  | [], i => by simp [tailL]
  | p :: r, i => by
    have hgp := (gapL_ok (g i)).2.2.2
    have ih := tailL_len g r (i + 1)
    show (encAll (p ++ (gapL (g i) ++ tailL g (i + 1) r))).length ≤ _
    simp only [encAll_append, List.length_append, List.map_cons, List.sum_cons, List.length_cons]
    omega
theorem tailL_app (g : Nat → Int) : ∀ (a b : List (List Int)) (i : Nat), tailL g i (a ++ b) = tailL g i a ++ tailL g (i + a.length) b
  | [], b, i => by simp [tailL]
  | p :: a, b, i => by
    show p ++ (gapL (g i) ++ tailL g (i + 1) (a ++ b)) = (p ++ (gapL (g i) ++ tailL g (i + 1) a)) ++ _
    rw [tailL_app g a b (i + 1)]
    simp [List.append_assoc, Nat.add_assoc, Nat.add_comm 1]
theorem tailL_next (g : Nat → Int) {ps : List (List Int)} {i : Nat} (h : i < ps.length) : encAll (tailL g 0 (ps.take (i + 1))) = encAll (tailL g 0 (ps.take i)) ++ (encAll (nth ps i) ++ encAll (gapL (g i))) := by
  rw [nth_take h, tailL_app]
  have hl : (ps.take i).length = i := by simp; omega
  simp [tailL, hl]
theorem splitW_cnt : ∀ (l w : List Int), w ≠ [] ∨ (splitW w l).length ≤ l.length
  | [], w => by
    by_cases h : w = []
    · right; unfold splitW; rw [if_pos h]; simp
    · exact .inl h
  | c :: r, w => by
    by_cases h : w = []
    · right
      subst h
      unfold splitW
      have h1 := splitW_cnt r []
      have h2 := splitW_len r ([] ++ [c])
      simp at h1
      split
      · simp; omega
      · simp; simp at h2; omega
    · exact .inl h
theorem C8 (s : List UInt8) (gaps : List Int) (hs : s.length < 1099511627776) (hl : gaps.length ≤ 1099511627776) (hg : ∀ y ∈ gaps, 0 ≤ y ∧ y ≤ 255) : Kc cfg 8 [.str s, R fl0 eU gaps] (.ret (.bool true)) := by
  by_cases h1000 : 1000 < s.length
  · skip
    refine outS_of_wp cfg (fn := Tryd.f8) Tryd.func8 rfl (by simp [Tryd.f8]) ?_
    simp (disch := first | assumption | omega | (simp; done) | (simp; omega)) [-getElem?_pos, List.getElem?_cons_zero, List.getElem?_cons_succ, Tryd.f8]
    repeat' (first | (refine wpc_split _ (fun hc => ?_) (fun hc => ?_) <;> (try simp at hc)) | (refine ww_split _ (fun hc => ?_) (fun hc => ?_) <;> (try simp at hc)) | (refine wp_draw _ (by kernel_rfl) ?_) | (refine wk_yldW _ ?_) | (refine owe ?_ (fun ho => ?_)) | (simp (disch := first | assumption | omega | (simp; done) | (simp; omega)) [-getElem?_pos, List.getElem?_cons_zero, List.getElem?_cons_succ]))
    all_goals omega
  by_cases he : (runesG s).2 = 0
  · obtain ⟨hs4, hr⟩ := runesG_all he
    have hsg := splitG_ok he
    obtain ⟨hen, hpt⟩ := runes_enc' hr
    have hrl := runes_len _ _ _ (Nat.le_refl _) hr
    generalize hlg : (runesG s).1 = l at *
    have hcnt : (splitW [] l).length ≤ l.length := by
      rcases splitW_cnt l [] with h | h
      · exact absurd rfl h
      · exact h
    have hsum := splitW_sum l []
    have hne := fun p => splitW_nonempty l [] p
    have hns := fun p => splitW_nospace l [] p (by simp)
    have hpo := fun p => splitW_point l [] p (by simp) hpt
    generalize hps : splitW [] l = ps at *
    rw [encAll_nil, List.length_nil, Nat.zero_add, hen] at hsum
    have hpl : ∀ p ∈ ps, (encAll p).length ≤ 1000 := by
      intro p hp
      have : (encAll p).length ≤ (ps.map fun p => (encAll p).length).sum := sum_le_mem (f := fun p => (encAll p).length) hp
      omega
    have hC := fun (i : Nat) (h : Heap) hb hi => C23 gaps i 0 h fl0 hb hg hi hl
    refine outS_of_wp cfg (fn := Tryd.f8) Tryd.func8 rfl (by simp [Tryd.f8]) ?_
    simp (disch := first | assumption | omega | (simp; done) | (simp; omega)) [-getElem?_pos, List.getElem?_cons_zero, List.getElem?_cons_succ, Tryd.f8, hsg, hC]
    repeat' (first | (refine wpc_split _ (fun hc => ?_) (fun hc => ?_) <;> (try simp at hc)) | (refine ww_split _ (fun hc => ?_) (fun hc => ?_) <;> (try simp at hc)) | (refine wp_draw _ (by kernel_rfl) ?_) | (refine wk_yldW _ ?_) | (refine owe ?_ (fun ho => ?_)) | (simp (disch := first | assumption | omega | (simp; done) | (simp; omega)) [hsg, hC, -getElem?_pos, List.getElem?_cons_zero, List.getElem?_cons_succ]))
    refine wp_loopE cfg rfl (fun f0 h0 m fr h => ∃ i : Nat, fr 5 = f0 5 ∧ fr 7 = f0 7 ∧ fr 42 = f0 42 ∧ fr 43 = f0 43 ∧ fr 44 = .int .i64 i ∧ fr 8 = .str (encAll (gapL (gapN gaps ps.length)) ++ encAll (tailL (gapN gaps) 0 (ps.take i))) ∧ h.bs = h0.bs ∧ (i + m = ps.length)) (ps.length) _ _ ⟨0, rfl, rfl, rfl, rfl, by first | rfl | (simp; done) | (simp [R]; done) | simp [R], by simp [tailL], rfl, by first | rfl | (simp; done) | omega⟩ ?_
    rintro Am Af Ah ⟨i, A5, A7, A42, A43, A44, A8, Abs, hm⟩ Aih
    try simp at A5 A7 A42 A43 Abs
    have hT := tailL_len (gapN gaps) ps 0
    have hG0 := (gapL_ok (gapN gaps ps.length)).2.2.2
    have hTi : (encAll (tailL (gapN gaps) 0 (ps.take i))).length ≤ (encAll (tailL (gapN gaps) 0 ps)).length := by
      have := congrArg (fun x => (encAll (tailL (gapN gaps) 0 x)).length) (List.take_append_drop i ps)
      simp only [tailL_app, encAll_append, List.length_append] at this
      omega
    have hCA := fun (i : Nat) hi => hC i Ah (by rw [Abs]; rfl) hi
    by_cases hi : i < ps.length
    · have hmem := nth_mem hi
      have hp1 := hne _ hmem
      have hp2 := hns _ hmem
      have hp3 := hpo _ hmem
      have hp4 := hpl _ hmem
      have hG := (gapL_ok (gapN gaps i)).2.2.2
      have hnm : nth (ps.map encAll) i = encAll (nth ps i) := by simp [nth, hi]
      have hnx := tailL_next (gapN gaps) hi
      generalize nth ps i = p at *
      have hrp := runes_encAll hp3
      have hrg := runesG_some (by omega) hrp
      have hsw : splitG (encAll p) = ([encAll p], 0) := by
        rw [splitG_ok (by rw [hrg]), hrg, splitW_one hp1 hp2]; rfl
      have hwd : wordS (encAll p) = decide (((encAll p).length : Int) ≤ 64) := by
        have h1 := encAll_len p
        have h2 := List.length_pos_iff.2 hp1
        have h3 : p.all (fun r => !spaceR r) = true := by rw [List.all_eq_true]; intro x hx; rw [hp2 x hx]; rfl
        unfold wordS
        rw [hrp]
        simp only [h3, Bool.and_true]
        by_cases hq : (encAll p).length ≤ 64
        · rw [decide_eq_true ⟨by omega, hq⟩, decide_eq_true (by omega)]
        · rw [decide_eq_false fun h => hq h.2, decide_eq_false (by omega)]
      by_cases hq : ((encAll p).length : Int) ≤ 64
      · rw [decide_eq_true hq] at hwd
        repeat' (first | (refine wpc_split _ (fun hc => ?_) (fun hc => ?_) <;> (try simp at hc)) | (refine ww_split _ (fun hc => ?_) (fun hc => ?_) <;> (try simp at hc)) | (refine wp_draw _ (by kernel_rfl) ?_) | (refine wk_yldW _ ?_) | (refine owe ?_ (fun ho => ?_)) | (simp (disch := first | assumption | omega | (simp; done) | (simp; omega)) [A5, A7, A42, A43, A44, A8, Abs, eS, hnm, hsw, hwd, hCA, -getElem?_pos, List.getElem?_cons_zero, List.getElem?_cons_succ]))
        exact Aih (Am - 1) _ _ (by omega) ⟨i + 1, by simp [A5, A7, A42, A43, A44, A8, Abs, hnx], by simp [A5, A7, A42, A43, A44, A8, Abs, hnx], by simp [A5, A7, A42, A43, A44, A8, Abs, hnx], by simp [A5, A7, A42, A43, A44, A8, Abs, hnx], by simp [A5, A7, A42, A43, A44, A8, Abs, hnx], by simp [A5, A7, A42, A43, A44, A8, Abs, hnx], by simp [A5, A7, A42, A43, A44, A8, Abs, hnx], by omega⟩
      · rw [decide_eq_false hq] at hwd
        repeat' (first | (refine wpc_split _ (fun hc => ?_) (fun hc => ?_) <;> (try simp at hc)) | (refine ww_split _ (fun hc => ?_) (fun hc => ?_) <;> (try simp at hc)) | (refine wp_draw _ (by kernel_rfl) ?_) | (refine wk_yldW _ ?_) | (refine owe ?_ (fun ho => ?_)) | (simp (disch := first | assumption | omega | (simp; done) | (simp; omega)) [A5, A7, A42, A43, A44, A8, Abs, eS, hnm, hsw, hwd, hCA, -getElem?_pos, List.getElem?_cons_zero, List.getElem?_cons_succ]))
        exact Aih (Am - 1) _ _ (by omega) ⟨i + 1, by simp [A5, A7, A42, A43, A44, A8, Abs, hnx], by simp [A5, A7, A42, A43, A44, A8, Abs, hnx], by simp [A5, A7, A42, A43, A44, A8, Abs, hnx], by simp [A5, A7, A42, A43, A44, A8, Abs, hnx], by simp [A5, A7, A42, A43, A44, A8, Abs, hnx], by simp [A5, A7, A42, A43, A44, A8, Abs, hnx], by simp [A5, A7, A42, A43, A44, A8, Abs, hnx], by omega⟩
    · rw [List.take_of_length_le (by omega)] at A8
      have hpp := tailL_point (gapN gaps) ps 0 hpo
      have hgg := (gapL_ok (gapN gaps ps.length))
      have hall : (gapL (gapN gaps ps.length) ++ tailL (gapN gaps) 0 ps).all point = true := by rw [List.all_append, hgg.2.2.1, hpp]; rfl
      have hrp := runesG_some (by simp; omega) (runes_encAll hall)
      have hfin : splitG (encAll (gapL (gapN gaps ps.length)) ++ encAll (tailL (gapN gaps) 0 ps)) = (ps.map encAll, 0) := by
        rw [← encAll_append, splitG_ok (by rw [hrp]), hrp, splitW_gap0 _ _ hgg.2.1, tailL_split _ _ _ (fun p hp => ⟨hne p hp, hns p hp⟩)]
      repeat' (first | (refine wpc_split _ (fun hc => ?_) (fun hc => ?_) <;> (try simp at hc)) | (refine ww_split _ (fun hc => ?_) (fun hc => ?_) <;> (try simp at hc)) | (refine wp_draw _ (by kernel_rfl) ?_) | (refine wk_yldW _ ?_) | (refine owe ?_ (fun ho => ?_)) | (simp (disch := first | assumption | omega | (simp; done) | (simp; omega)) [A5, A7, A42, A43, A44, A8, Abs, hfin, -getElem?_pos, List.getElem?_cons_zero, List.getElem?_cons_succ]))
  · have hsg := splitG_bad he
    refine outS_of_wp cfg (fn := Tryd.f8) Tryd.func8 rfl (by simp [Tryd.f8]) ?_
    simp (disch := first | assumption | omega | (simp; done) | (simp; omega)) [-getElem?_pos, List.getElem?_cons_zero, List.getElem?_cons_succ, Tryd.f8, he, hsg]
    repeat' (first | (refine wpc_split _ (fun hc => ?_) (fun hc => ?_) <;> (try simp at hc)) | (refine ww_split _ (fun hc => ?_) (fun hc => ?_) <;> (try simp at hc)) | (refine wp_draw _ (by kernel_rfl) ?_) | (refine wk_yldW _ ?_) | (refine owe ?_ (fun ho => ?_)) | (simp (disch := first | assumption | omega | (simp; done) | (simp; omega)) [he, hsg, -getElem?_pos, List.getElem?_cons_zero, List.getElem?_cons_succ]))
@[simp] theorem S8 (s : List UInt8) (gaps : List Int) (hs : s.length < 1099511627776) (hl : gaps.length ≤ 1099511627776) (hg : ∀ y ∈ gaps, 0 ≤ y ∧ y ≤ 255) (q1 : Fl) (hh : Heap) : Ci cfg (.func (.func 8) [] []) [.str s, R  q1 eU gaps] hh = some (.ret (.bool true), hh) :=
  Ci_K cfg rfl rfl (by simp) (by simp) (C8 s gaps hs hl hg)
end Go.Ab
