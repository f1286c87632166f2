/- Layer 9 (text): Split, Kind, Same. -/
import Derived.Test.YtgeohlknkajlkaaDoorT8
set_option linter.unusedVariables false
set_option linter.unusedSimpArgs false
set_option linter.unusedSectionVars false
set_option linter.deprecated false
namespace Go.Ab
open Go.Proofs
set_option maxRecDepth 100000
set_option maxHeartbeats 4000000
theorem C20 (a b : List (List UInt8)) (hs : a.length < 1099511627776) : Kc cfg 20 [R fl0 eS a, R fl0 eS b] (.ret (.bool (decide (a = b)))) := by
  refine outS_of_wp cfg (fn := Tryd.f20) Tryd.func20 rfl (by simp [Tryd.f20]) ?_
  simp (disch := first | assumption | omega | (simp; done) | (simp; omega)) [-getElem?_pos, List.getElem?_cons_zero, List.getElem?_cons_succ, Tryd.f20]
  repeat' (first | (refine wpc_split _ (fun hc => ?_) (fun hc => ?_) <;> (try simp at hc)) | (refine ww_split _ (fun hc => ?_) (fun hc => ?_) <;> (try simp at hc)) | (refine wp_draw _ (by kernel_rfl) ?_) | (refine wk_yldW _ ?_) | (refine owe ?_ (fun ho => ?_)) | (simp (disch := first | assumption | omega | (simp; done) | (simp; omega)) [-getElem?_pos, List.getElem?_cons_zero, List.getElem?_cons_succ]))
  · have : ¬ a = b := fun e => hc (by rw [e])
    simp [this]
  · skip
    refine wp_loopE cfg rfl (fun f0 h0 m fr h => ∃ i : Nat, fr 0 = f0 0 ∧ fr 1 = f0 1 ∧ fr 5 = .int .i64 i ∧ (i + m = a.length) ∧ (a.take i = b.take i)) (a.length) _ _ ⟨0, rfl, rfl, by first | rfl | (simp; done) | (simp [R]; done) | simp [R], by first | rfl | (simp; done) | omega, by first | rfl | (simp; done) | omega⟩ ?_
    rintro Am Af Ah ⟨i, A0, A1, A5, hm, ht⟩ Aih
    try simp at A0 A1
    by_cases hi : i < a.length
    · by_cases he : nth a i = nth b i
      · repeat' (first | (refine wpc_split _ (fun hc => ?_) (fun hc => ?_) <;> (try simp at hc)) | (refine ww_split _ (fun hc => ?_) (fun hc => ?_) <;> (try simp at hc)) | (refine wp_draw _ (by kernel_rfl) ?_) | (refine wk_yldW _ ?_) | (refine owe ?_ (fun ho => ?_)) | (simp (disch := first | assumption | omega | (simp; done) | (simp; omega)) [A0, A1, A5, eS, he, -getElem?_pos, List.getElem?_cons_zero, List.getElem?_cons_succ]))
        exact Aih (Am - 1) _ _ (by omega) ⟨i + 1, by simp [A0, A1, A5], by simp [A0, A1, A5], by simp [A0, A1, A5], by omega, take_next hi (by omega) ht he⟩
      · repeat' (first | (refine wpc_split _ (fun hc => ?_) (fun hc => ?_) <;> (try simp at hc)) | (refine ww_split _ (fun hc => ?_) (fun hc => ?_) <;> (try simp at hc)) | (refine wp_draw _ (by kernel_rfl) ?_) | (refine wk_yldW _ ?_) | (refine owe ?_ (fun ho => ?_)) | (simp (disch := first | assumption | omega | (simp; done) | (simp; omega)) [A0, A1, A5, eS, he, -getElem?_pos, List.getElem?_cons_zero, List.getElem?_cons_succ]))
        intro e; subst e; simp at he
    · repeat' (first | (refine wpc_split _ (fun hc => ?_) (fun hc => ?_) <;> (try simp at hc)) | (refine ww_split _ (fun hc => ?_) (fun hc => ?_) <;> (try simp at hc)) | (refine wp_draw _ (by kernel_rfl) ?_) | (refine wk_yldW _ ?_) | (refine owe ?_ (fun ho => ?_)) | (simp (disch := first | assumption | omega | (simp; done) | (simp; omega)) [A0, A1, A5, -getElem?_pos, List.getElem?_cons_zero, List.getElem?_cons_succ]))
      rw [List.take_of_length_le (by omega), List.take_of_length_le (by omega)] at ht
      exact ht
@[simp] theorem S20 (a b : List (List UInt8)) (hs : a.length < 1099511627776) (q1 q2 : Fl) (hh : Heap) : Ci cfg (.func (.func 20) [] []) [R  q1 eS a, R  q2 eS b] hh = some (.ret (.bool (decide (a = b))), hh) :=
  Ci_K cfg rfl rfl (by simp) (by simp) (C20 a b hs)
/-! ### Words -/
def splitW : List Int → List Int → List (List Int)
  | w, [] => if w = [] then [] else [w]
  | w, c :: r => if spaceR c then (if w = [] then splitW [] r else w :: splitW [] r) else splitW (w ++ [c]) r
def splitG (s : List UInt8) : List (List UInt8) × Int := if (runesG s).2 = 0 then ((splitW [] (runesG s).1).map encAll, 0) else ([], (runesG s).2)
/-- The bytes of a text's code points are the text. -/
theorem runes_enc : ∀ (n : Nat) (s : List UInt8) (l : List Int), s.length ≤ n → runes s = some l → encAll l = s ∧ l.all point = true := by
  intro n
  induction n with
  | zero =>
    intro s l hn h
    have : s = [] := List.eq_nil_of_length_eq_zero (by omega)
    subst this
    rw [runes_nil] at h
    simp at h
    subst h; simp
  | succ n ih =>
    intro s l hn h
    by_cases h0 : s.length = 0
    · have : s = [] := List.eq_nil_of_length_eq_zero h0
      subst this
      rw [runes_nil] at h
      simp at h
      subst h; simp
    by_cases hz : (dec s).2 = 0
    · rw [runes_bad (by omega) hz] at h; cases h
    · rw [runes_step (by omega) hz] at h
      obtain ⟨l', h1, rfl⟩ := Option.map_eq_some_iff.1 h
      have hb := dec_bound s
      obtain ⟨d1, d2, d3⟩ := dec_len hz
      have := ih _ _ (by simp only [List.length_drop]; omega) h1
      refine ⟨?_, by simp [d1, this.2]⟩
      rw [encAll_cons, this.1, d3, List.take_append_drop]
theorem runes_enc' {s : List UInt8} {l : List Int} (h : runes s = some l) : encAll l = s ∧ l.all point = true := runes_enc _ s l (Nat.le_refl _) h
theorem part_len {l : List Int} {i j : Nat} : (encAll ((l.take i).drop j)).length ≤ (encAll l).length := by
  have h1 := congrArg List.length (congrArg encAll (List.take_append_drop j (l.take i)))
  rw [encAll_append, List.length_append] at h1
  have := encAll_take_le l i
  omega
theorem part_point {l : List Int} {i j : Nat} (h : l.all point = true) : ((l.take i).drop j).all point = true := by
  rw [List.all_eq_true] at h ⊢
  exact fun x hx => h x (List.mem_of_mem_take (List.mem_of_mem_drop hx))
theorem part_next {l : List Int} {i j : Nat} (h : i < l.length) (hj : j ≤ i) : (l.take (i + 1)).drop j = (l.take i).drop j ++ [nth l i] := by
  rw [nth_take h, List.drop_append_of_le_length (by simp; omega)]
theorem splitW_drop {w l : List Int} {i : Nat} (h : i < l.length) : splitW w (l.drop i) = if spaceR (nth l i) then (if w = [] then splitW [] (l.drop (i + 1)) else w :: splitW [] (l.drop (i + 1))) else splitW (w ++ [nth l i]) (l.drop (i + 1)) := by
  rw [nth_drop h]; rfl
theorem joinG_part {l : List Int} (h : l.all point = true) (hl : (encAll l).length ≤ 4096) : joinG l = (encAll l, 0) := by
  unfold joinG; rw [h, if_pos rfl, if_neg (by omega)]
theorem splitG_bad {s : List UInt8} (h : ¬ (runesG s).2 = 0) : splitG s = ([], (runesG s).2) := by unfold splitG; rw [if_neg h]
theorem runesG_all {s : List UInt8} (h : (runesG s).2 = 0) : s.length ≤ 4096 ∧ runes s = some (runesG s).1 := by
  unfold runesG at h ⊢
  split at h
  · simp at h
  · rename_i h1
    rw [if_neg h1]
    cases hr : runes s with
    | none => rw [hr] at h; simp at h
    | some l => exact ⟨by omega, rfl⟩
theorem C19 (s : List UInt8) (hs : s.length < 1099511627776) : Kc cfg 19 [.str s] (.ret (.tuple [R fl0 eS (splitG s).1, .int .i64 (splitG s).2])) := by
  by_cases he : (runesG s).2 = 0
  · obtain ⟨hs4, hr⟩ := runesG_all he
    have hrl := runes_len _ _ _ (Nat.le_refl _) hr
    obtain ⟨hen, hpt⟩ := runes_enc' hr
    have hG : splitG s = ((splitW [] (runesG s).1).map encAll, 0) := by unfold splitG; rw [if_pos he]
    rw [hG]
    generalize hlg : (runesG s).1 = l at *
    refine outS_of_wp cfg (fn := Tryd.f19) Tryd.func19 rfl (by simp [Tryd.f19]) ?_
    simp (disch := first | assumption | omega | (simp; done) | (simp; omega)) [-getElem?_pos, List.getElem?_cons_zero, List.getElem?_cons_succ, Tryd.f19, he, hlg]
    refine wp_loopE cfg rfl (fun f0 h0 m fr h => ∃ i : Nat, ∃ j : Nat, ∃ out : List (List UInt8), ∃ fl : Fl, ∃ fl2 : Fl, fr 4 = f0 4 ∧ fr 8 = .int .i64 i ∧ fr 6 = R fl eS out ∧ fr 7 = R fl2 eI ((l.take i).drop j) ∧ (App h.ts 1 fl) ∧ (App h.ts 1 fl2) ∧ ((fl.2.2 = none ∨ fl.2.2 ≠ fl2.2.2) ∧ (fl2.2.2 = none ∨ fl2.2.2 ≠ fl.2.2)) ∧ (i + m = l.length + 1) ∧ (j ≤ i) ∧ (out.length ≤ i) ∧ (l.length < i → j = i) ∧ ((splitW [] l).map encAll = out ++ (splitW ((l.take i).drop j) (l.drop i)).map encAll)) (l.length + 1) _ _ ⟨0, 0, [], (false, true, none), (false, true, none), rfl, by first | rfl | (simp; done) | (simp [R]; done) | simp [R], by first | rfl | (simp; done) | (simp [R]; done) | simp [R], by first | rfl | (simp; done) | (simp [R]; done) | simp [R], App.full _ _ _, App.full _ _ _, by simp, by first | rfl | (simp; done) | omega, by first | rfl | (simp; done) | omega, by first | rfl | (simp; done) | omega, by first | rfl | (simp; done) | omega, by first | rfl | (simp; done) | omega⟩ ?_
    rintro Am Af Ah ⟨i, j, out, fl, fl2, A4, A8, A6, A7, ha, ha2, hne, hm, hj, hol, hlast, hsp⟩ Aih
    try simp at A4
    have hln : (encAll l).length ≤ 4096 := by rw [hen]; exact hs4
    have hpl := part_len (l := l) (i := i) (j := j)
    have hpp := part_point (i := i) (j := j) hpt
    have hwl2 : ((l.take i).drop j).length ≤ i := by simp; omega
    by_cases hi : i < l.length
    · rw [splitW_drop hi] at hsp
      by_cases hspc : spaceR (nth l i) = true
      · rw [hspc, if_pos rfl] at hsp
        by_cases hw : (l.take i).drop j = []
        · rw [hw, if_pos rfl] at hsp
          rw [hw] at A7
          repeat' (first | (refine wpc_split _ (fun hc => ?_) (fun hc => ?_) <;> (try simp at hc)) | (refine ww_split _ (fun hc => ?_) (fun hc => ?_) <;> (try simp at hc)) | (refine wp_draw _ (by kernel_rfl) ?_) | (refine wk_yldW _ ?_) | (refine owe ?_ (fun ho => ?_)) | (simp (disch := first | assumption | omega | (simp; done) | (simp; omega)) [A4, A8, A6, A7, eI, hspc, -getElem?_pos, List.getElem?_cons_zero, List.getElem?_cons_succ]))
          exact Aih (Am - 1) _ _ (by omega) ⟨i + 1, i + 1, out, fl, (false, true, none), by simp [A4, A8, A6, A7, R], by simp [A4, A8, A6, A7, R], by simp [A4, A8, A6, A7, R], by simp [A4, A8, A6, A7, R], ha, App.full _ _ _, by simp [Classical.em], by omega, by omega, by omega, by omega, by simpa using hsp⟩
        · rw [if_neg hw] at hsp
          have hjg := joinG_part hpp (by omega)
          have hwl := List.length_pos_iff.2 hw
          generalize (l.take i).drop j = w at *
          repeat' (first | (refine wpc_split _ (fun hc => ?_) (fun hc => ?_) <;> (try simp at hc)) | (refine ww_split _ (fun hc => ?_) (fun hc => ?_) <;> (try simp at hc)) | (refine wp_draw _ (by kernel_rfl) ?_) | (refine wk_yldW _ ?_) | (refine owe ?_ (fun ho => ?_)) | (simp (disch := first | assumption | omega | (simp; done) | (simp; omega)) [A4, A8, A6, A7, eI, hspc, hjg, fold_S1, -getElem?_pos, List.getElem?_cons_zero, List.getElem?_cons_succ]))
          exact Aih (Am - 1) _ _ (by omega) ⟨i + 1, i + 1, out ++ [encAll w], _, (false, true, none), by simp [A4, A8, A6, A7, R], by simp [A4, A8, A6, A7, R], by simp [A4, A8, A6, A7, R], by simp [A4, A8, A6, A7, R], App.new _ _ _, App.full _ _ _, by simp, by omega, by omega, by simp; omega, by omega, by simpa using hsp⟩
      · have hspc : spaceR (nth l i) = false := by simpa using hspc
        rw [hspc] at hsp
        have hnx := part_next hi hj
        rw [← hnx] at hsp
        generalize hwg : (l.take i).drop j = w at *
        repeat' (first | (refine wpc_split _ (fun hc => ?_) (fun hc => ?_) <;> (try simp at hc)) | (refine ww_split _ (fun hc => ?_) (fun hc => ?_) <;> (try simp at hc)) | (refine wp_draw _ (by kernel_rfl) ?_) | (refine wk_yldW _ ?_) | (refine owe ?_ (fun ho => ?_)) | (simp (disch := first | assumption | omega | (simp; done) | (simp; omega)) [A4, A8, A6, A7, eI, hspc, fold_I1, -getElem?_pos, List.getElem?_cons_zero, List.getElem?_cons_succ]))
        exact Aih (Am - 1) _ _ (by omega) ⟨i + 1, j, out, fl, _, by simp [A4, A8, A6, A7, hnx], by simp [A4, A8, A6, A7, hnx], by simp [A4, A8, A6, A7, hnx], by simp [A4, A8, A6, A7, hnx], ha.keep hne.1, App.new _ _ _, ⟨ha.lt, by have := ha.lt; rcases this with h | h; simp [h]; exact .inr (Ne.symm h)⟩, by omega, by omega, by omega, by omega, by simpa using hsp⟩
    · have hdn : l.drop i = [] := List.drop_eq_nil_of_le (by omega)
      have hdn1 : l.drop (i + 1) = [] := List.drop_eq_nil_of_le (by omega)
      rw [hdn] at hsp
      by_cases hi2 : i = l.length
      · by_cases hw : (l.take i).drop j = []
        · rw [hw] at hsp A7
          repeat' (first | (refine wpc_split _ (fun hc => ?_) (fun hc => ?_) <;> (try simp at hc)) | (refine ww_split _ (fun hc => ?_) (fun hc => ?_) <;> (try simp at hc)) | (refine wp_draw _ (by kernel_rfl) ?_) | (refine wk_yldW _ ?_) | (refine owe ?_ (fun ho => ?_)) | (simp (disch := first | assumption | omega | (simp; done) | (simp; omega)) [A4, A8, A6, A7, eI, -getElem?_pos, List.getElem?_cons_zero, List.getElem?_cons_succ]))
          exact Aih (Am - 1) _ _ (by omega) ⟨i + 1, i + 1, out, fl, (false, true, none), by simp [A4, A8, A6, A7, R], by simp [A4, A8, A6, A7, R], by simp [A4, A8, A6, A7, R], by simp [A4, A8, A6, A7, R], ha, App.full _ _ _, by simp [Classical.em], by omega, by omega, by omega, by omega, by rw [hdn1]; simpa using hsp⟩
        · have hjg := joinG_part hpp (by omega)
          have hwl := List.length_pos_iff.2 hw
          generalize (l.take i).drop j = w at *
          repeat' (first | (refine wpc_split _ (fun hc => ?_) (fun hc => ?_) <;> (try simp at hc)) | (refine ww_split _ (fun hc => ?_) (fun hc => ?_) <;> (try simp at hc)) | (refine wp_draw _ (by kernel_rfl) ?_) | (refine wk_yldW _ ?_) | (refine owe ?_ (fun ho => ?_)) | (simp (disch := first | assumption | omega | (simp; done) | (simp; omega)) [A4, A8, A6, A7, eI, hjg, fold_S1, -getElem?_pos, List.getElem?_cons_zero, List.getElem?_cons_succ]))
          exact Aih (Am - 1) _ _ (by omega) ⟨i + 1, i + 1, out ++ [encAll w], _, (false, true, none), by simp [A4, A8, A6, A7, R], by simp [A4, A8, A6, A7, R], by simp [A4, A8, A6, A7, R], by simp [A4, A8, A6, A7, R], App.new _ _ _, App.full _ _ _, by simp, by omega, by omega, by simp; omega, by omega, by rw [hdn1]; simpa [splitW, hw] using hsp⟩
      · have hw : (l.take i).drop j = [] := by
          have := hlast (by omega)
          rw [this]; simp
        repeat' (first | (refine wpc_split _ (fun hc => ?_) (fun hc => ?_) <;> (try simp at hc)) | (refine ww_split _ (fun hc => ?_) (fun hc => ?_) <;> (try simp at hc)) | (refine wp_draw _ (by kernel_rfl) ?_) | (refine wk_yldW _ ?_) | (refine owe ?_ (fun ho => ?_)) | (simp (disch := first | assumption | omega | (simp; done) | (simp; omega)) [A4, A8, A6, A7, -getElem?_pos, List.getElem?_cons_zero, List.getElem?_cons_succ]))
        rw [hw] at hsp
        rw [hsp]; simp [splitW]
  · have hG := splitG_bad he
    rw [hG]
    refine outS_of_wp cfg (fn := Tryd.f19) Tryd.func19 rfl (by simp [Tryd.f19]) ?_
    simp (disch := first | assumption | omega | (simp; done) | (simp; omega)) [-getElem?_pos, List.getElem?_cons_zero, List.getElem?_cons_succ, Tryd.f19, he]
    repeat' (first | (refine wpc_split _ (fun hc => ?_) (fun hc => ?_) <;> (try simp at hc)) | (refine ww_split _ (fun hc => ?_) (fun hc => ?_) <;> (try simp at hc)) | (refine wp_draw _ (by kernel_rfl) ?_) | (refine wk_yldW _ ?_) | (refine owe ?_ (fun ho => ?_)) | (simp (disch := first | assumption | omega | (simp; done) | (simp; omega)) [he, -getElem?_pos, List.getElem?_cons_zero, List.getElem?_cons_succ]))
    rfl
@[simp] theorem S19 (s : List UInt8) (hs : s.length < 1099511627776) (hh : Heap) : Ci cfg (.func (.func 19) [] []) [.str s] hh = some (.ret (.tuple [R fl0 eS (splitG s).1, .int .i64 (splitG s).2]), hh) :=
  Ci_K cfg rfl rfl (by simp) (by simp) (C19 s hs)
theorem splitG_ok {s : List UInt8} (h : (runesG s).2 = 0) : splitG s = ((splitW [] (runesG s).1).map encAll, 0) := by unfold splitG; rw [if_pos h]
@[simp] theorem Sspace (r : Int) (h : Heap) : Ci cfg (.func (.func 41) [] []) [.int .i64 r] h = some (.ret (.bool (spaceR r)), h) := by
  refine Ci_fun_wp (fn := Tryd.f41) rfl Tryd.func41 rfl (by simp [Tryd.f41]) ?_
  simp (disch := first | assumption | omega | (simp; done) | (simp; omega)) [-getElem?_pos, List.getElem?_cons_zero, List.getElem?_cons_succ, Tryd.f41]
  repeat' (first | (refine wpc_split _ (fun hc => ?_) (fun hc => ?_) <;> (try simp at hc)) | (refine ww_split _ (fun hc => ?_) (fun hc => ?_) <;> (try simp at hc)) | (refine wp_draw _ (by kernel_rfl) ?_) | (refine wk_yldW _ ?_) | (refine owe ?_ (fun ho => ?_)) | (simp (disch := first | assumption | omega | (simp; done) | (simp; omega)) [-getElem?_pos, List.getElem?_cons_zero, List.getElem?_cons_succ]))
  all_goals grind [spaceR]
theorem C18 (s : List UInt8) (hs : s.length < 1099511627776) : Kc cfg 18 [.str s] (.ret (.tuple [R fl0 eS (splitG s).1, .int .i64 (splitG s).2])) := by
  by_cases he : (runesG s).2 = 0
  · obtain ⟨hs4, hr⟩ := runesG_all he
    have hrl := runes_len _ _ _ (Nat.le_refl _) hr
    obtain ⟨hen, hpt⟩ := runes_enc' hr
    rw [splitG_ok he]
    generalize hlg : (runesG s).1 = l at *
    refine outS_of_wp cfg (fn := Tryd.f18) Tryd.func18 rfl (by simp [Tryd.f18]) ?_
    simp (disch := first | assumption | omega | (simp; done) | (simp; omega)) [-getElem?_pos, List.getElem?_cons_zero, List.getElem?_cons_succ, Tryd.f18, he, hlg]
    repeat' (first | (refine wpc_split _ (fun hc => ?_) (fun hc => ?_) <;> (try simp at hc)) | (refine ww_split _ (fun hc => ?_) (fun hc => ?_) <;> (try simp at hc)) | (refine wp_draw _ (by kernel_rfl) ?_) | (refine wk_yldW _ ?_) | (refine owe ?_ (fun ho => ?_)) | (simp (disch := first | assumption | omega | (simp; done) | (simp; omega)) [he, hlg, Tryd.f32, Tryd.f42, -getElem?_pos, List.getElem?_cons_zero, List.getElem?_cons_succ]))
    refine wp_loopE cfg rfl (fun f0 h0 m fr h => ∃ i : Nat, ∃ j : Nat, ∃ out : List (List UInt8), ∃ fl : Fl, fr 4 = f0 4 ∧ fr 5 = f0 5 ∧ fr 7 = .int .i64 i ∧ fr 6 = .int .i64 j ∧ fr 2 = R fl eS out ∧ (App h.ts 1 fl) ∧ (i + m = l.length + 1) ∧ (j ≤ i) ∧ (out.length ≤ i) ∧ (l.length < i → j = i) ∧ ((splitW [] l).map encAll = out ++ (splitW ((l.take i).drop j) (l.drop i)).map encAll)) (l.length + 1) _ _ ⟨0, 0, [], (true, true, none), rfl, rfl, by first | rfl | (simp; done) | (simp [R]; done) | simp [R], by first | rfl | (simp; done) | (simp [R]; done) | simp [R], by first | rfl | (simp; done) | (simp [R]; done) | simp [R], App.nil _ _ _, by first | rfl | (simp; done) | omega, by first | rfl | (simp; done) | omega, by first | rfl | (simp; done) | omega, by first | rfl | (simp; done) | omega, by first | rfl | (simp; done) | omega⟩ ?_
    rintro Am Af Ah ⟨i, j, out, fl, A4, A5, A7, A6, A2, ha, hm, hj, hol, hlast, hsp⟩ Aih
    try simp at A4 A5
    have hln : (encAll l).length ≤ 4096 := by rw [hen]; exact hs4
    have hpl := part_len (l := l) (i := i) (j := j)
    have hpp := part_point (i := i) (j := j) hpt
    have hwl2 : ((l.take i).drop j).length = min i l.length - j := by simp
    by_cases hi : i < l.length
    · rw [splitW_drop hi] at hsp
      by_cases hspc : spaceR (nth l i) = true
      · rw [hspc, if_pos rfl] at hsp
        by_cases hw : (l.take i).drop j = []
        · have hij : j = i := by rw [hw] at hwl2; simp at hwl2; omega
          rw [hw, if_pos rfl] at hsp
          repeat' (first | (refine wpc_split _ (fun hc => ?_) (fun hc => ?_) <;> (try simp at hc)) | (refine ww_split _ (fun hc => ?_) (fun hc => ?_) <;> (try simp at hc)) | (refine wp_draw _ (by kernel_rfl) ?_) | (refine wk_yldW _ ?_) | (refine owe ?_ (fun ho => ?_)) | (simp (disch := first | assumption | omega | (simp; done) | (simp; omega)) [A4, A5, A7, A6, A2, eI, hspc, -getElem?_pos, List.getElem?_cons_zero, List.getElem?_cons_succ]))
          exact Aih (Am - 1) _ _ (by omega) ⟨i + 1, i + 1, out, fl, by simp [A4, A5, A7, A6, A2], by simp [A4, A5, A7, A6, A2], by simp [A4, A5, A7, A6, A2], by simp [A4, A5, A7, A6, A2], by simp [A4, A5, A7, A6, A2], ha, by omega, by omega, by omega, by omega, by simpa using hsp⟩
        · rw [if_neg hw] at hsp
          have hwl := List.length_pos_iff.2 hw
          repeat' (first | (refine wpc_split _ (fun hc => ?_) (fun hc => ?_) <;> (try simp at hc)) | (refine ww_split _ (fun hc => ?_) (fun hc => ?_) <;> (try simp at hc)) | (refine wp_draw _ (by kernel_rfl) ?_) | (refine wk_yldW _ ?_) | (refine owe ?_ (fun ho => ?_)) | (simp (disch := first | assumption | omega | (simp; done) | (simp; omega)) [A4, A5, A7, A6, A2, eI, hspc, -I29, -getElem?_pos, List.getElem?_cons_zero, List.getElem?_cons_succ]))
          refine Jjoined _ _ _ (by omega) hpp (fun X tok => ?_)
          have hv : joinedV tok ((l.take i).drop j) = R (false, false, some tok) eB (encAll ((l.take i).drop j)) := by unfold joinedV; rw [if_neg (by omega)]
          rw [hv]
          have haX := ha.ext X
          repeat' (first | (refine wpc_split _ (fun hc => ?_) (fun hc => ?_) <;> (try simp at hc)) | (refine ww_split _ (fun hc => ?_) (fun hc => ?_) <;> (try simp at hc)) | (refine wp_draw _ (by kernel_rfl) ?_) | (refine wk_yldW _ ?_) | (refine owe ?_ (fun ho => ?_)) | (simp (disch := first | assumption | omega | (simp; done) | (simp; omega)) [A4, A5, A7, A6, A2, fold_S1, -getElem?_pos, List.getElem?_cons_zero, List.getElem?_cons_succ]))
          exact Aih (Am - 1) _ _ (by omega) ⟨i + 1, i + 1, out ++ [encAll ((l.take i).drop j)], _, by simp [A4, A5, A7, A6, A2], by simp [A4, A5, A7, A6, A2], by simp [A4, A5, A7, A6, A2], by simp [A4, A5, A7, A6, A2], by simp [A4, A5, A7, A6, A2], App.new _ _ _, by omega, by omega, by simp; omega, by omega, by simpa using hsp⟩
      · have hspc : spaceR (nth l i) = false := by simpa using hspc
        rw [hspc] at hsp
        have hnx := part_next hi hj
        rw [← hnx] at hsp
        repeat' (first | (refine wpc_split _ (fun hc => ?_) (fun hc => ?_) <;> (try simp at hc)) | (refine ww_split _ (fun hc => ?_) (fun hc => ?_) <;> (try simp at hc)) | (refine wp_draw _ (by kernel_rfl) ?_) | (refine wk_yldW _ ?_) | (refine owe ?_ (fun ho => ?_)) | (simp (disch := first | assumption | omega | (simp; done) | (simp; omega)) [A4, A5, A7, A6, A2, eI, hspc, -getElem?_pos, List.getElem?_cons_zero, List.getElem?_cons_succ]))
        exact Aih (Am - 1) _ _ (by omega) ⟨i + 1, j, out, fl, by simp [A4, A5, A7, A6, A2], by simp [A4, A5, A7, A6, A2], by simp [A4, A5, A7, A6, A2], by simp [A4, A5, A7, A6, A2], by simp [A4, A5, A7, A6, A2], ha, by omega, by omega, by omega, by omega, by simpa using hsp⟩
    · have hdn : l.drop i = [] := List.drop_eq_nil_of_le (by omega)
      have hdn1 : l.drop (i + 1) = [] := List.drop_eq_nil_of_le (by omega)
      rw [hdn] at hsp
      by_cases hi2 : i = l.length
      · by_cases hw : (l.take i).drop j = []
        · have hij : j = i := by rw [hw] at hwl2; simp at hwl2; omega
          rw [hw] at hsp
          repeat' (first | (refine wpc_split _ (fun hc => ?_) (fun hc => ?_) <;> (try simp at hc)) | (refine ww_split _ (fun hc => ?_) (fun hc => ?_) <;> (try simp at hc)) | (refine wp_draw _ (by kernel_rfl) ?_) | (refine wk_yldW _ ?_) | (refine owe ?_ (fun ho => ?_)) | (simp (disch := first | assumption | omega | (simp; done) | (simp; omega)) [A4, A5, A7, A6, A2, eI, -getElem?_pos, List.getElem?_cons_zero, List.getElem?_cons_succ]))
          exact Aih (Am - 1) _ _ (by omega) ⟨i + 1, i + 1, out, fl, by simp [A4, A5, A7, A6, A2], by simp [A4, A5, A7, A6, A2], by simp [A4, A5, A7, A6, A2], by simp [A4, A5, A7, A6, A2], by simp [A4, A5, A7, A6, A2], ha, by omega, by omega, by omega, by omega, by rw [hdn1]; simpa using hsp⟩
        · have hwl := List.length_pos_iff.2 hw
          repeat' (first | (refine wpc_split _ (fun hc => ?_) (fun hc => ?_) <;> (try simp at hc)) | (refine ww_split _ (fun hc => ?_) (fun hc => ?_) <;> (try simp at hc)) | (refine wp_draw _ (by kernel_rfl) ?_) | (refine wk_yldW _ ?_) | (refine owe ?_ (fun ho => ?_)) | (simp (disch := first | assumption | omega | (simp; done) | (simp; omega)) [A4, A5, A7, A6, A2, eI, -I29, -getElem?_pos, List.getElem?_cons_zero, List.getElem?_cons_succ]))
          refine Jjoined _ _ _ (by omega) hpp (fun X tok => ?_)
          have hv : joinedV tok ((l.take i).drop j) = R (false, false, some tok) eB (encAll ((l.take i).drop j)) := by unfold joinedV; rw [if_neg (by omega)]
          rw [hv]
          have haX := ha.ext X
          repeat' (first | (refine wpc_split _ (fun hc => ?_) (fun hc => ?_) <;> (try simp at hc)) | (refine ww_split _ (fun hc => ?_) (fun hc => ?_) <;> (try simp at hc)) | (refine wp_draw _ (by kernel_rfl) ?_) | (refine wk_yldW _ ?_) | (refine owe ?_ (fun ho => ?_)) | (simp (disch := first | assumption | omega | (simp; done) | (simp; omega)) [A4, A5, A7, A6, A2, fold_S1, -getElem?_pos, List.getElem?_cons_zero, List.getElem?_cons_succ]))
          exact Aih (Am - 1) _ _ (by omega) ⟨i + 1, i + 1, out ++ [encAll ((l.take i).drop j)], _, by simp [A4, A5, A7, A6, A2], by simp [A4, A5, A7, A6, A2], by simp [A4, A5, A7, A6, A2], by simp [A4, A5, A7, A6, A2], by simp [A4, A5, A7, A6, A2], App.new _ _ _, by omega, by omega, by simp; omega, by omega, by rw [hdn1]; simpa [splitW, hw] using hsp⟩
      · have hw : (l.take i).drop j = [] := by
          have := hlast (by omega)
          rw [this]; simp
        repeat' (first | (refine wpc_split _ (fun hc => ?_) (fun hc => ?_) <;> (try simp at hc)) | (refine ww_split _ (fun hc => ?_) (fun hc => ?_) <;> (try simp at hc)) | (refine wp_draw _ (by kernel_rfl) ?_) | (refine wk_yldW _ ?_) | (refine owe ?_ (fun ho => ?_)) | (simp (disch := first | assumption | omega | (simp; done) | (simp; omega)) [A4, A5, A7, A6, A2, -getElem?_pos, List.getElem?_cons_zero, List.getElem?_cons_succ]))
        rw [hw] at hsp
        rw [hsp]; simp [splitW]
  · rw [splitG_bad he]
    refine outS_of_wp cfg (fn := Tryd.f18) Tryd.func18 rfl (by simp [Tryd.f18]) ?_
    simp (disch := first | assumption | omega | (simp; done) | (simp; omega)) [-getElem?_pos, List.getElem?_cons_zero, List.getElem?_cons_succ, Tryd.f18, he]
    repeat' (first | (refine wpc_split _ (fun hc => ?_) (fun hc => ?_) <;> (try simp at hc)) | (refine ww_split _ (fun hc => ?_) (fun hc => ?_) <;> (try simp at hc)) | (refine wp_draw _ (by kernel_rfl) ?_) | (refine wk_yldW _ ?_) | (refine owe ?_ (fun ho => ?_)) | (simp (disch := first | assumption | omega | (simp; done) | (simp; omega)) [he, -getElem?_pos, List.getElem?_cons_zero, List.getElem?_cons_succ]))
    rfl
@[simp] theorem S18 (s : List UInt8) (hs : s.length < 1099511627776) (hh : Heap) : Ci cfg (.func (.func 18) [] []) [.str s] hh = some (.ret (.tuple [R fl0 eS (splitG s).1, .int .i64 (splitG s).2]), hh) :=
  Ci_K cfg rfl rfl (by simp) (by simp) (C18 s hs)
end Go.Ab
