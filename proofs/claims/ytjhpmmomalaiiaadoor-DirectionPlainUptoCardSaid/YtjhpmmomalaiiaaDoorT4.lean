import Derived.Test.YtjhpmmomalaiiaaDoorT1
set_option linter.unusedVariables false
set_option linter.unusedSimpArgs false
set_option linter.unusedSectionVars false
set_option linter.deprecated false
namespace Go.Ab
open Go.Proofs
set_option maxRecDepth 100000
set_option maxHeartbeats 1000000
def firstF (b : Nat) : Int := if b < 128 then 240 else if b < 194 then 241 else if b < 224 then 2 else if b = 224 then 19 else if b = 237 then 35 else if b < 240 then 3
  else if b = 240 then 52 else if b < 244 then 4 else if b = 244 then 68 else 241
def firstL : List Int := (List.range 256).map firstF
def acceptL : List (Int × Int) := [(128, 191), (160, 191), (128, 159), (144, 191), (128, 143)] ++ List.replicate 11 (0, 0)
theorem globs_0 : globs 0 = some (rows eU firstL) := by
  have : dV Go.Pinned.utf8First = rows eU firstL := by kernel_rfl
  unfold globs; simp [this]
theorem globs_1 : globs 1 = some (rows eU2 acceptL) := by
  have : dV (H := Unit) Go.Proofs.YtjhpmmomalaiiaaDoor.Rows.laid_unicode_utf8_acceptRanges = rows eU2 acceptL := by kernel_rfl
  unfold globs; simp [this]
theorem firstL_len : firstL.length = 256 := by simp [firstL]
theorem acceptL_len : acceptL.length = 16 := by simp [acceptL]
theorem nth_first {b : Nat} (h : b < 256) : nth firstL b = firstF b := by
  unfold nth firstL; simp [h]

theorem ib_eq {n : Int} {b : UInt8} (h : 0 ≤ n ∧ n ≤ 255) : ib n = b ↔ n = b.toNat := by
  constructor
  · intro e; rw [← e, ib_nat h]
  · intro e; subst e; unfold ib; simp
theorem take1 {s : List UInt8} (h : 1 ≤ s.length) : s.take 1 = [nth s 0] := by
  rw [nth_take (by omega)]; simp
theorem take2 {s : List UInt8} (h : 2 ≤ s.length) : s.take 2 = [nth s 0, nth s 1] := by
  rw [nth_take (by omega), take1 (by omega)]; rfl
theorem take3 {s : List UInt8} (h : 3 ≤ s.length) : s.take 3 = [nth s 0, nth s 1, nth s 2] := by
  rw [nth_take (by omega), take2 (by omega)]; rfl
theorem take4 {s : List UInt8} (h : 4 ≤ s.length) : s.take 4 = [nth s 0, nth s 1, nth s 2, nth s 3] := by
  rw [nth_take (by omega), take3 (by omega)]; rfl
theorem enc1 {v : Int} {s : List UInt8} (h : 1 ≤ s.length) (hv : 0 ≤ v ∧ v ≤ 1114111) : encR v = s.take 1 ↔ v < 128 ∧ v = (nth s 0).toNat := by
  rw [take1 h]; unfold encR
  split
  · simp [ib_eq (n := v) (by omega), *]
  · split <;> (try split) <;> simp <;> omega
theorem enc2 {v : Int} {s : List UInt8} (h : 2 ≤ s.length) (hv : 0 ≤ v ∧ v ≤ 1114111) : encR v = s.take 2 ↔ (128 ≤ v ∧ v < 2048) ∧ 192 + v / 64 = (nth s 0).toNat ∧ 128 + v % 64 = (nth s 1).toNat := by
  rw [take2 h]; unfold encR
  split
  · simp; omega
  · split
    · simp only [List.cons.injEq, and_true]; rw [ib_eq (by omega), ib_eq (by omega)]; omega
    · split <;> simp <;> omega
theorem enc3 {v : Int} {s : List UInt8} (h : 3 ≤ s.length) (hv : 0 ≤ v ∧ v ≤ 1114111) : encR v = s.take 3 ↔ (2048 ≤ v ∧ v < 65536) ∧ 224 + v / 4096 = (nth s 0).toNat ∧ 128 + v / 64 % 64 = (nth s 1).toNat ∧ 128 + v % 64 = (nth s 2).toNat := by
  rw [take3 h]; unfold encR
  split
  · simp; omega
  · split
    · simp; omega
    · split
      · simp only [List.cons.injEq, and_true]; rw [ib_eq (by omega), ib_eq (by omega), ib_eq (by omega)]; omega
      · simp; omega
theorem enc4 {v : Int} {s : List UInt8} (h : 4 ≤ s.length) (hv : 0 ≤ v ∧ v ≤ 1114111) : encR v = s.take 4 ↔ 65536 ≤ v ∧ 240 + v / 262144 = (nth s 0).toNat ∧ 128 + v / 4096 % 64 = (nth s 1).toNat ∧ 128 + v / 64 % 64 = (nth s 2).toNat ∧ 128 + v % 64 = (nth s 3).toNat := by
  rw [take4 h]; unfold encR
  split
  · simp; omega
  · split
    · simp; omega
    · split
      · simp; omega
      · simp only [List.cons.injEq, and_true]; rw [ib_eq (by omega), ib_eq (by omega), ib_eq (by omega), ib_eq (by omega)]; omega
/-- What Go's decoder answers. -/
def decG (s : List UInt8) : Int × Int := if (dec s).2 = 0 then (65533, 1) else dec s
theorem dec1 {s : List UInt8} (h : 1 ≤ s.length) (h0 : (nth s 0).toNat < 128) : dec s = (((nth s 0).toNat : Int), 1) := by
  have hl : longR (nth s 0).toNat = (((1 : Nat) : Int), ((nth s 0).toNat : Int)) := by simp [longR]; omega
  rw [dec_of hl (by omega), if_pos]
  · rfl
  · refine ⟨h, by simp [conts], by simp [decV]; omega, (enc1 h (by simp [decV]; omega)).2 (by simp [decV]; omega)⟩
theorem dec0 {s : List UInt8} (h0 : 128 ≤ (nth s 0).toNat ∧ (nth s 0).toNat < 194 ∨ 245 ≤ (nth s 0).toNat) : dec s = (0, 0) := by
  have g1 := UInt8.toNat_lt (nth s 0)
  by_cases h1 : (nth s 0).toNat < 192 ∨ 248 ≤ (nth s 0).toNat
  · have hl : longR (nth s 0).toNat = (0, 0) := by unfold longR; rw [if_neg (by omega), if_neg (by omega), if_neg (by omega), if_neg (by omega)]
    simp [dec, hl]
  by_cases h2 : (nth s 0).toNat < 194
  · have hl : longR (nth s 0).toNat = (((2 : Nat) : Int), ((nth s 0).toNat : Int) - 192) := by simp (disch := omega) [longR]
    rw [dec_of hl (by omega), if_neg]
    rintro ⟨a1, a2, a3, a4⟩
    rw [point_t] at a3
    rw [enc2 a1 (by omega)] at a4
    simp [conts, decV] at a2 a4; omega
  · have hl : longR (nth s 0).toNat = (((4 : Nat) : Int), ((nth s 0).toNat : Int) - 240) := by simp (disch := omega) [longR]
    rw [dec_of hl (by omega), if_neg]
    rintro ⟨a1, a2, a3, a4⟩
    rw [point_t] at a3
    simp [conts, decV] at a2 a3; omega
theorem dec2 {s : List UInt8} (h0 : 194 ≤ (nth s 0).toNat ∧ (nth s 0).toNat < 224) : dec s = if 2 ≤ s.length ∧ 128 ≤ (nth s 1).toNat ∧ (nth s 1).toNat < 192 then (decV s 2, 2) else (0, 0) := by
  have hl : longR (nth s 0).toNat = (((2 : Nat) : Int), ((nth s 0).toNat : Int) - 192) := by simp (disch := omega) [longR]
  rw [dec_of hl (by omega)]
  by_cases h : 2 ≤ s.length ∧ 128 ≤ (nth s 1).toNat ∧ (nth s 1).toNat < 192
  · have hv : decV s 2 = ((nth s 0).toNat - 192) * 64 + (nth s 1).toNat - 128 := rfl
    rw [if_pos h, if_pos]
    · rfl
    · refine ⟨h.1, by simp [conts]; omega, by rw [point_t]; omega, (enc2 h.1 (by omega)).2 (by omega)⟩
  · rw [if_neg h, if_neg]
    rintro ⟨a1, a2, a3, a4⟩
    simp [conts] at a2; omega
theorem dec3 {s : List UInt8} (h0 : 224 ≤ (nth s 0).toNat ∧ (nth s 0).toNat < 240) : dec s = if 3 ≤ s.length ∧ (128 ≤ (nth s 1).toNat ∧ (nth s 1).toNat < 192 ∧ ((nth s 0).toNat = 224 → 160 ≤ (nth s 1).toNat) ∧ ((nth s 0).toNat = 237 → (nth s 1).toNat < 160)) ∧ 128 ≤ (nth s 2).toNat ∧ (nth s 2).toNat < 192 then (decV s 3, 3) else (0, 0) := by
  have hl : longR (nth s 0).toNat = (((3 : Nat) : Int), ((nth s 0).toNat : Int) - 224) := by simp (disch := omega) [longR]
  rw [dec_of hl (by omega)]
  have hv : decV s 3 = (((nth s 0).toNat - 224) * 64 + (nth s 1).toNat - 128) * 64 + (nth s 2).toNat - 128 := rfl
  by_cases h : 3 ≤ s.length ∧ (128 ≤ (nth s 1).toNat ∧ (nth s 1).toNat < 192 ∧ ((nth s 0).toNat = 224 → 160 ≤ (nth s 1).toNat) ∧ ((nth s 0).toNat = 237 → (nth s 1).toNat < 160)) ∧ 128 ≤ (nth s 2).toNat ∧ (nth s 2).toNat < 192
  · rw [if_pos h, if_pos]
    · rfl
    · refine ⟨h.1, by simp [conts]; omega, by rw [point_t]; omega, (enc3 h.1 (by omega)).2 (by omega)⟩
  · rw [if_neg h, if_neg]
    rintro ⟨a1, a2, a3, a4⟩
    rw [point_t] at a3
    rw [enc3 a1 (by omega)] at a4
    simp [conts] at a2; omega
theorem dec4 {s : List UInt8} (h0 : 240 ≤ (nth s 0).toNat ∧ (nth s 0).toNat < 245) : dec s = if 4 ≤ s.length ∧ (128 ≤ (nth s 1).toNat ∧ (nth s 1).toNat < 192 ∧ ((nth s 0).toNat = 240 → 144 ≤ (nth s 1).toNat) ∧ ((nth s 0).toNat = 244 → (nth s 1).toNat < 144)) ∧ (128 ≤ (nth s 2).toNat ∧ (nth s 2).toNat < 192) ∧ 128 ≤ (nth s 3).toNat ∧ (nth s 3).toNat < 192 then (decV s 4, 4) else (0, 0) := by
  have hl : longR (nth s 0).toNat = (((4 : Nat) : Int), ((nth s 0).toNat : Int) - 240) := by simp (disch := omega) [longR]
  rw [dec_of hl (by omega)]
  have hv : decV s 4 = ((((nth s 0).toNat - 240) * 64 + (nth s 1).toNat - 128) * 64 + (nth s 2).toNat - 128) * 64 + (nth s 3).toNat - 128 := rfl
  by_cases h : 4 ≤ s.length ∧ (128 ≤ (nth s 1).toNat ∧ (nth s 1).toNat < 192 ∧ ((nth s 0).toNat = 240 → 144 ≤ (nth s 1).toNat) ∧ ((nth s 0).toNat = 244 → (nth s 1).toNat < 144)) ∧ (128 ≤ (nth s 2).toNat ∧ (nth s 2).toNat < 192) ∧ 128 ≤ (nth s 3).toNat ∧ (nth s 3).toNat < 192
  · rw [if_pos h, if_pos]
    · rfl
    · refine ⟨h.1, by simp [conts]; omega, by rw [point_t]; omega, (enc4 h.1 (by omega)).2 (by omega)⟩
  · rw [if_neg h, if_neg]
    rintro ⟨a1, a2, a3, a4⟩
    rw [point_t] at a3
    rw [enc4 a1 (by omega)] at a4
    simp [conts] at a2; omega
end Go.Ab
