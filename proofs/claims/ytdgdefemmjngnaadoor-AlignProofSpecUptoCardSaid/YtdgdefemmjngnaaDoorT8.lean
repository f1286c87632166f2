/- Layer 9 (text): appending code points; the program's Join. -/
import Derived.Test.YtdgdefemmjngnaaDoorT7
set_option linter.unusedVariables false
set_option linter.unusedSimpArgs false
set_option linter.unusedSectionVars false
set_option linter.deprecated false
namespace Go.Ab
open Go.Proofs
set_option maxRecDepth 100000
set_option maxHeartbeats 4000000
theorem fold_b1 (a b : Bool) (tok : Option Nat) {x : Int} (h : 0 ≤ x ∧ x ≤ 255) : V.row a b [.int .u8 x] 1 tok = R (a, b, tok) eB [ib x] := by
  simp [R, eB, ib_nat h]
theorem fold_b2 (a b : Bool) (tok : Option Nat) {x y : Int} (h : (0 ≤ x ∧ x ≤ 255) ∧ 0 ≤ y ∧ y ≤ 255) : V.row a b [.int .u8 x, .int .u8 y] 2 tok = R (a, b, tok) eB [ib x, ib y] := by
  simp [R, eB, ib_nat h.1, ib_nat h.2]
theorem fold_b3 (a b : Bool) (tok : Option Nat) {x y z : Int} (h : (0 ≤ x ∧ x ≤ 255) ∧ (0 ≤ y ∧ y ≤ 255) ∧ 0 ≤ z ∧ z ≤ 255) : V.row a b [.int .u8 x, .int .u8 y, .int .u8 z] 3 tok = R (a, b, tok) eB [ib x, ib y, ib z] := by
  simp [R, eB, ib_nat h.1, ib_nat h.2.1, ib_nat h.2.2]
theorem fold_b4 (a b : Bool) (tok : Option Nat) {x y z w : Int} (h : (0 ≤ x ∧ x ≤ 255) ∧ (0 ≤ y ∧ y ≤ 255) ∧ (0 ≤ z ∧ z ≤ 255) ∧ 0 ≤ w ∧ w ≤ 255) : V.row a b [.int .u8 x, .int .u8 y, .int .u8 z, .int .u8 w] 4 tok = R (a, b, tok) eB [ib x, ib y, ib z, ib w] := by
  simp [R, eB, ib_nat h.1, ib_nat h.2.1, ib_nat h.2.2.1, ib_nat h.2.2.2]
theorem ishr_6 {x : Int} (h : 0 ≤ x) : ishr .i32 x 6 = x / 64 := by
  unfold ishr; rw [show (2 : Int) ^ min (6 : Int).toNat IntKind.i32.bits = 64 by decide, Int.fdiv_eq_ediv_of_nonneg _ (by omega)]
theorem ishr_12 {x : Int} (h : 0 ≤ x) : ishr .i32 x 12 = x / 4096 := by
  unfold ishr; rw [show (2 : Int) ^ min (12 : Int).toNat IntKind.i32.bits = 4096 by decide, Int.fdiv_eq_ediv_of_nonneg _ (by omega)]
theorem ishr_18 {x : Int} (h : 0 ≤ x) : ishr .i32 x 18 = x / 262144 := by
  unfold ishr; rw [show (2 : Int) ^ min (18 : Int).toNat IntKind.i32.bits = 262144 by decide, Int.fdiv_eq_ediv_of_nonneg _ (by omega)]
theorem wrapu8 (n : Int) : IntKind.u8.wrap n = n % 256 := IntKind.wrap_u8 n
/-- two bytes without a bit in common -/
theorem ior8_low (j : Nat) {x y : Int} (hj : j ≤ 7) (hx : 0 ≤ x ∧ x ≤ 255) (hm : x % 2 ^ j = 0) (hy : 0 ≤ y) (hy2 : y < 2 ^ j) : ior .u8 x y = x + y := by
  obtain ⟨n, rfl⟩ := Int.eq_ofNat_of_zero_le hx.1
  obtain ⟨m, rfl⟩ := Int.eq_ofNat_of_zero_le hy
  have hb : (2 : Nat) ^ IntKind.u8.bits = 256 := by decide
  have hp : (2 : Nat) ^ j ≤ 128 := by
    have := Nat.pow_le_pow_right (n := 2) (by omega) hj
    simpa using this
  have hm' : n % 2 ^ j = 0 := by
    have : ((n % 2 ^ j : Nat) : Int) = 0 := by simpa using hm
    omega
  have hy' : m < 2 ^ j := by
    have : ((m : Nat) : Int) < ((2 ^ j : Nat) : Int) := by simpa using hy2
    omega
  have h1 : (BitVec.ofInt IntKind.u8.bits (n : Int)).toNat = n := by
    rw [BitVec.ofInt_natCast, BitVec.toNat_ofNat, hb]
    exact Nat.mod_eq_of_lt (by omega)
  have h2 : (BitVec.ofInt IntKind.u8.bits (m : Int)).toNat = m := by
    rw [BitVec.ofInt_natCast, BitVec.toNat_ofNat, hb]
    exact Nat.mod_eq_of_lt (by omega)
  have h3 : n = 2 ^ j * (n / 2 ^ j) := by have := Nat.div_add_mod n (2 ^ j); omega
  unfold ior
  rw [BitVec.toNat_or, h1, h2]
  have h4 : n ||| m = n + m := by
    have := Nat.two_pow_add_eq_or_of_lt hy' (n / 2 ^ j)
    rw [← h3] at this
    exact this.symm
  have h5 : n ||| m < 2 ^ 8 := Nat.or_lt_two_pow (by omega) (by omega)
  rw [h4] at h5
  rw [h4]
  exact IntWalk.u8_in _ (by omega)
theorem ior192 {y : Int} (h : 0 ≤ y ∧ y < 64) : ior .u8 192 y = 192 + y := ior8_low 6 (by omega) (by omega) (by decide) h.1 h.2
theorem ior128 {y : Int} (h : 0 ≤ y ∧ y < 128) : ior .u8 128 y = 128 + y := ior8_low 7 (by omega) (by omega) (by decide) h.1 h.2
theorem ior224 {y : Int} (h : 0 ≤ y ∧ y < 32) : ior .u8 224 y = 224 + y := ior8_low 5 (by omega) (by omega) (by decide) h.1 h.2
theorem ior240 {y : Int} (h : 0 ≤ y ∧ y < 16) : ior .u8 240 y = 240 + y := ior8_low 4 (by omega) (by omega) (by decide) h.1 h.2
theorem m256_64 (r : Int) : r % 256 % 64 = r % 64 := by omega
theorem m256d (r : Int) (h : 0 ≤ r ∧ r ≤ 65535) : r / 64 % 256 % 64 = r / 64 % 64 := by omega
/-- what joined answers -/
def joinedV (tok : Nat) (l : List Int) : V := if 4096 < (encAll l).length then .row true true [] 0 none else R (false, false, some tok) eB (encAll l)
theorem App.ext {ts : List (Option Nat)} {sz : Nat} {fl : Fl} (X : List (Option Nat)) (ha : App ts sz fl) : App (ts ++ X) sz fl := by
  rcases ha.ok with h | ⟨k, h1, h2⟩
  · exact ⟨.inl h⟩
  · exact ⟨.inr ⟨k, h1, by rw [List.getElem?_append_left (List.getElem?_eq_some_iff.1 h2).1, h2]⟩⟩
theorem ts_next (a X : List (Option Nat)) : bumpT (a ++ X ++ [some 1]) (some (a.length + X.length)) 1 = a ++ (X ++ [none]) ++ [some 1] := by
  unfold bumpT
  simp only
  rw [List.set_append_right _ _ (by simp)]
  simp
theorem App.tail (a X : List (Option Nat)) : App (a ++ X ++ [some 1]) 1 (false, false, some (a.length + X.length)) := by
  refine ⟨.inr ⟨_, rfl, ?_⟩⟩
  rw [List.getElem?_append_right (by simp)]
  simp
theorem eqV_jn {P : Program} {t : TypeId} {b : Bool} {tok : Nat} {s : List UInt8} (h : slcD (P.underlying t) = true) : eqV P b t (R (false, false, some tok) eB s) (.row true true [] 0 none) = some false := by
  unfold R
  rw [eqV_rn h]
  simp
theorem eqV_nn {P : Program} {t : TypeId} {b f : Bool} (h : slcD (P.underlying t) = true) : eqV P b t (.row true f [] 0 none) (.row true true [] 0 none) = some true := by
  rw [eqV_rn h]; rfl
end Go.Ab
