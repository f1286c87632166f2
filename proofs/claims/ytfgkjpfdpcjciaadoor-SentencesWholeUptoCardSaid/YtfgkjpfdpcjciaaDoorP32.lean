/- Layer 32 (sentences), plain: words, sentences' ends. -/
import Derived.Test.YtfgkjpfdpcjciaaDoorP21
import Derived.Test.YtfgkjpfdpcjciaaDoorT3
import Derived.Test.YtfgkjpfdpcjciaaDoorX32
set_option linter.unusedVariables false
set_option linter.unusedSimpArgs false
set_option linter.unusedSectionVars false
set_option linter.deprecated false
namespace Go.Ab
open Go.Proofs
structure Wrd where
  text : Wd
  frm : Int
  til : Int
  sp : Int
  alts : List Wd
instance : Inhabited Wrd := ⟨⟨[], 0, 0, 0, []⟩⟩
def eW (x : Wrd) : List V := [.str x.text, .int .i64 x.frm, .int .i64 x.til, .int .i64 x.sp, R fl0 eS x.alts]
@[simp] theorem eW_def (x : Wrd) : eW x = [.str x.text, .int .i64 x.frm, .int .i64 x.til, .int .i64 x.sp, R fl0 eS x.alts] := rfl
instance : EncC eW 5 := ⟨fun _ => rfl, by decide, fun _ => rfl, fun _ => by simp [eW, V.closed.closedL, V.closed], fun _ => by simp [eW, V.norm.normL, V.norm]⟩
/-- sizes that no machine reaches -/
def smX (x : Wrd) : Prop := x.text.length < 1099511627776 ∧ x.alts.length < 1099511627776 ∧ ∀ y ∈ x.alts, y.length < 1099511627776
def smXs (w : List Wrd) : Prop := w.length < 1099511627776 ∧ ∀ x ∈ w, smX x
theorem smXs_nth {w : List Wrd} (h : smXs w) {i : Nat} (hi : i < w.length) : smX (nth w i) := h.2 _ (nth_mem hi)
/-- other readings: words, all different -/
def okA (t : Wd) (al : List Wd) (k : Nat) : Bool := wordS (nth al k) && !decide (nth al k = t) && !decide (nth al k ∈ al.take k)
def okAs (t : Wd) (al : List Wd) : Bool := (List.range al.length).all (okA t al)
def okH (x : Wrd) : Bool := wordS x.text && decide (0 ≤ x.frm) && decide (x.frm < x.til) && decide (x.til < 1099511627775) && decide (0 ≤ x.sp) && decide (x.sp < 64) && decide (x.alts.length ≤ 4)
def okW (x : Wrd) : Bool := okH x && okAs x.text x.alts
theorem okAs_f {t : Wd} {al : List Wd} {k : Nat} (hk : k < al.length) (h : okA t al k = false) : okAs t al = false := by
  cases e : okAs t al with
  | false => rfl
  | true =>
    unfold okAs at e
    rw [List.all_eq_true] at e
    have := e k (List.mem_range.2 hk)
    rw [h] at this; cases this
theorem okAs_t {t : Wd} {al : List Wd} (h : ∀ k, k < al.length → okA t al k = true) : okAs t al = true := by
  unfold okAs; rw [List.all_eq_true]
  intro k hk
  exact h k (List.mem_range.1 hk)
/-- words in order -/
def okI (w : List Wrd) (i : Nat) : Bool := okW (nth w i) && (decide (i = 0) || decide ((nth w (i - 1)).frm ≤ (nth w i).frm))
def okL (w : List Wrd) : Bool := (List.range w.length).all (okI w)
theorem okL_f {w : List Wrd} {k : Nat} (hk : k < w.length) (h : okI w k = false) : okL w = false := by
  cases e : okL w with
  | false => rfl
  | true =>
    unfold okL at e
    rw [List.all_eq_true] at e
    have := e k (List.mem_range.2 hk)
    rw [h] at this; cases this
theorem okL_t {w : List Wrd} (h : ∀ k, k < w.length → okI w k = true) : okL w = true := by
  unfold okL; rw [List.all_eq_true]
  intro k hk
  exact h k (List.mem_range.1 hk)
theorem okL_at {w : List Wrd} (h : okL w = true) {k : Nat} (hk : k < w.length) : okI w k = true := by
  unfold okL at h; rw [List.all_eq_true] at h
  exact h k (List.mem_range.2 hk)
theorem okI_W {w : List Wrd} {k : Nat} (h : okI w k = true) : okW (nth w k) = true := by
  unfold okI at h; rw [Bool.and_eq_true] at h; exact h.1
theorem okW_H {x : Wrd} (h : okW x = true) : okH x = true := by
  unfold okW at h; rw [Bool.and_eq_true] at h; exact h.1
theorem okH_of {x : Wrd} (h : okH x = true) : wordS x.text = true ∧ 0 ≤ x.frm ∧ x.frm < x.til ∧ x.til < 1099511627775 ∧ 0 ≤ x.sp ∧ x.sp < 64 ∧ x.alts.length ≤ 4 := by
  unfold okH at h
  simp only [Bool.and_eq_true, decide_eq_true_eq] at h
  obtain ⟨⟨⟨⟨⟨⟨h1, h2⟩, h3⟩, h4⟩, h5⟩, h6⟩, h7⟩ := h
  exact ⟨h1, h2, h3, h4, h5, h6, h7⟩
/-- the arguments' error -/
def erS (w : List Wrd) (gap most : Int) : Int := if 4096 < w.length then 2 else if okL w = false then 170 else if 1 ≤ gap ∧ gap ≤ 1073741824 ∧ 1 ≤ most ∧ most ≤ 16 then 0 else 1
theorem erS_many {w : List Wrd} {gap most : Int} (h : 4096 < w.length) : erS w gap most = 2 := if_pos h
theorem erS_bad {w : List Wrd} {gap most : Int} (h : ¬ 4096 < w.length) (h2 : okL w = false) : erS w gap most = 170 := by unfold erS; rw [if_neg h, if_pos h2]
theorem erS_ok {w : List Wrd} {gap most : Int} (h : ¬ 4096 < w.length) (h2 : okL w = true) : erS w gap most = if 1 ≤ gap ∧ gap ≤ 1073741824 ∧ 1 ≤ most ∧ most ≤ 16 then 0 else 1 := by unfold erS; rw [if_neg h, if_neg (by rw [h2]; simp)]
theorem erS_zero {w : List Wrd} {gap most : Int} (h : erS w gap most = 0) : w.length ≤ 4096 ∧ okL w = true ∧ 1 ≤ gap ∧ gap ≤ 1073741824 ∧ 1 ≤ most ∧ most ≤ 16 := by
  unfold erS at h
  split at h
  · cases h
  · split at h
    · cases h
    · rename_i h1 h2
      split at h
      · rename_i h3
        exact ⟨by omega, by simpa using h2, h3⟩
      · cases h
/-- a text's last byte is a mark -/
def markT (t : Wd) : Bool := markB (nth t (t.length - 1))
/-- does a word end its sentence by itself? -/
def ownW (x : Wrd) (n most : Int) : Bool := markT x.text || decide (n = most)
def apartW (x y : Wrd) (gap : Int) : Bool := decide (x.til + gap ≤ y.frm) || decide (x.sp ≠ y.sp)
/-- does a sentence end at word i, the n-th of its sentence? -/
def endW (w : List Wrd) (gap most : Int) (i : Nat) (n : Int) : Bool := decide (i + 1 = w.length) || ownW (nth w i) n most || apartW (nth w i) (nth w (i + 1)) gap
/-- the number of a word in its sentence -/
def numW (w : List Wrd) (gap most : Int) : Nat → Nat
  | 0 => 0
  | i + 1 => if endW w gap most i (numW w gap most i + 1 : Nat) = true then 0 else numW w gap most i + 1
/-- the sentences' ends among the first words -/
def endsW (w : List Wrd) (gap most : Int) : Nat → List Int
  | 0 => []
  | i + 1 => if endW w gap most i (numW w gap most i + 1 : Nat) = true then endsW w gap most i ++ [((i + 1 : Nat) : Int)] else endsW w gap most i
theorem numW_le (w : List Wrd) (gap most : Int) (i : Nat) : numW w gap most i ≤ i := by
  induction i with
  | zero => simp [numW]
  | succ i ih => rw [numW]; split <;> omega
theorem endsW_len (w : List Wrd) (gap most : Int) (i : Nat) : (endsW w gap most i).length ≤ i := by
  induction i with
  | zero => simp [endsW]
  | succ i ih =>
    rw [endsW]
    split
    · rw [List.length_append]; simp; omega
    · omega
end Go.Ab
