/- Layer 9 (text): Split, Kind, Same. -/
import Derived.Test.YtjhpmmomalaiiaaDoorT8
set_option linter.unusedVariables false
set_option linter.unusedSimpArgs false
set_option linter.unusedSectionVars false
set_option linter.deprecated false
namespace Go.Ab
open Go.Proofs
set_option maxRecDepth 100000
set_option maxHeartbeats 4000000
/-! ### Words -/
def splitW : List Int → List Int → List (List Int)
  | w, [] => if w = [] then [] else [w]
  | w, c :: r => if spaceR c then (if w = [] then splitW [] r else w :: splitW [] r) else splitW (w ++ [c]) r
def splitG (s : List UInt8) : List (List UInt8) × Int := if (runesG s).2 = 0 then ((splitW [] (runesG s).1).map encAll, 0) else ([], (runesG s).2)
/-- The bytes of a text's code points are the text. -/
theorem runes_enc : ∀ (n : Nat) (s : List UInt8) (l : List Int), s.length ≤ n → runes s = some l → encAll l = s ∧ l.all point = true := by
  intro n
  induction n with
  | zero =>
    intro s l hn h
    have : s = [] := List.eq_nil_of_length_eq_zero (by omega)
    subst this
    rw [runes_nil] at h
    simp at h
    subst h; simp
  | succ n ih =>
    intro s l hn h
    by_cases h0 : s.length = 0
    · have : s = [] := List.eq_nil_of_length_eq_zero h0
      subst this
      rw [runes_nil] at h
      simp at h
      subst h; simp
    by_cases hz : (dec s).2 = 0
    · rw [runes_bad (by omega) hz] at h; cases h
    · rw [runes_step (by omega) hz] at h
      obtain ⟨l', h1, rfl⟩ := Option.map_eq_some_iff.1 h
      have hb := dec_bound s
      obtain ⟨d1, d2, d3⟩ := dec_len hz
      have := ih _ _ (by simp only [List.length_drop]; omega) h1
      refine ⟨?_, by simp [d1, this.2]⟩
      rw [encAll_cons, this.1, d3, List.take_append_drop]
theorem runes_enc' {s : List UInt8} {l : List Int} (h : runes s = some l) : encAll l = s ∧ l.all point = true := runes_enc _ s l (Nat.le_refl _) h
theorem part_len {l : List Int} {i j : Nat} : (encAll ((l.take i).drop j)).length ≤ (encAll l).length := by
  have h1 := congrArg List.length (congrArg encAll (List.take_append_drop j (l.take i)))
  rw [encAll_append, List.length_append] at h1
  have := encAll_take_le l i
  omega
theorem part_point {l : List Int} {i j : Nat} (h : l.all point = true) : ((l.take i).drop j).all point = true := by
  rw [List.all_eq_true] at h ⊢
  exact fun x hx => h x (List.mem_of_mem_take (List.mem_of_mem_drop hx))
theorem part_next {l : List Int} {i j : Nat} (h : i < l.length) (hj : j ≤ i) : (l.take (i + 1)).drop j = (l.take i).drop j ++ [nth l i] := by
  rw [nth_take h, List.drop_append_of_le_length (by simp; omega)]
theorem splitW_drop {w l : List Int} {i : Nat} (h : i < l.length) : splitW w (l.drop i) = if spaceR (nth l i) then (if w = [] then splitW [] (l.drop (i + 1)) else w :: splitW [] (l.drop (i + 1))) else splitW (w ++ [nth l i]) (l.drop (i + 1)) := by
  rw [nth_drop h]; rfl
theorem joinG_part {l : List Int} (h : l.all point = true) (hl : (encAll l).length ≤ 4096) : joinG l = (encAll l, 0) := by
  unfold joinG; rw [h, if_pos rfl, if_neg (by omega)]
theorem splitG_bad {s : List UInt8} (h : ¬ (runesG s).2 = 0) : splitG s = ([], (runesG s).2) := by unfold splitG; rw [if_neg h]
theorem runesG_all {s : List UInt8} (h : (runesG s).2 = 0) : s.length ≤ 4096 ∧ runes s = some (runesG s).1 := by
  unfold runesG at h ⊢
  split at h
  · simp at h
  · rename_i h1
    rw [if_neg h1]
    cases hr : runes s with
    | none => rw [hr] at h; simp at h
    | some l => exact ⟨by omega, rfl⟩
theorem splitG_ok {s : List UInt8} (h : (runesG s).2 = 0) : splitG s = ((splitW [] (runesG s).1).map encAll, 0) := by unfold splitG; rw [if_pos h]
@[simp] theorem Sspace (r : Int) (h : Heap) : Ci cfg (.func (.func 47) [] []) [.int .i64 r] h = some (.ret (.bool (spaceR r)), h) := by
  refine Ci_fun_wp (fn := Tryd.f47) rfl Tryd.func47 rfl (by simp [Tryd.f47]) ?_
  simp (disch := first | assumption | omega | (simp; done) | (simp; omega)) [-getElem?_pos, List.getElem?_cons_zero, List.getElem?_cons_succ, Tryd.f47]
  repeat' (first | (refine wpc_split _ (fun hc => ?_) (fun hc => ?_) <;> (try simp at hc)) | (refine ww_split _ (fun hc => ?_) (fun hc => ?_) <;> (try simp at hc)) | (refine wp_drawF (by kernel_rfl) ?_) | (refine wk_yldW _ ?_) | (refine layOwe _ (by kernel_rfl) ?_) | (refine owe ?_ (fun ho => ?_)) | (simp (disch := first | assumption | omega | (simp; done) | (simp; omega)) [-getElem?_pos, List.getElem?_cons_zero, List.getElem?_cons_succ]))
  all_goals grind [spaceR]
end Go.Ab
