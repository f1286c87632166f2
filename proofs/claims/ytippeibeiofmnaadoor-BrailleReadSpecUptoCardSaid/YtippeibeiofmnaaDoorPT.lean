
import Derived.Test.YtippeibeiofmnaaDoorAbsD
set_option linter.unusedVariables false
set_option linter.unusedSimpArgs false
set_option linter.unusedSectionVars false
set_option linter.deprecated false
namespace Go.Ab
set_option maxRecDepth 10000
def point (x : Int) : Bool := decide (0 ≤ x ∧ x ≤ 1114111 ∧ (x < 55296 ∨ 57343 < x))
def longR (b : Int) : Int × Int := if b < 128 then (1, b) else if 192 ≤ b ∧ b < 224 then (2, b - 192) else if 224 ≤ b ∧ b < 240 then (3, b - 224) else if 240 ≤ b ∧ b < 248 then (4, b - 240) else (0, 0)
def ib (n : Int) : UInt8 := UInt8.ofNat n.toNat
def encR (r : Int) : List UInt8 :=
 if r < 128 then [ib r] else if r < 2048 then [ib (192 + r / 64), ib (128 + r % 64)]
 else if r < 65536 then [ib (224 + r / 4096), ib (128 + r / 64 % 64), ib (128 + r % 64)]
 else [ib (240 + r / 262144), ib (128 + r / 4096 % 64), ib (128 + r / 64 % 64), ib (128 + r % 64)]
def decV (s : List UInt8) (n : Nat) : Int := match n with
 | 1 => (nth s 0).toNat
 | 2 => ((nth s 0).toNat - 192) * 64 + (nth s 1).toNat - 128
 | 3 => (((nth s 0).toNat - 224) * 64 + (nth s 1).toNat - 128) * 64 + (nth s 2).toNat - 128
 | _ => ((((nth s 0).toNat - 240) * 64 + (nth s 1).toNat - 128) * 64 + (nth s 2).toNat - 128) * 64 + (nth s 3).toNat - 128
def conts (s : List UInt8) (n : Nat) : Prop := (2 ≤ n → 128 ≤ (nth s 1).toNat ∧ (nth s 1).toNat < 192) ∧ (3 ≤ n → 128 ≤ (nth s 2).toNat ∧ (nth s 2).toNat < 192) ∧ (4 ≤ n → 128 ≤ (nth s 3).toNat ∧ (nth s 3).toNat < 192)
instance (s : List UInt8) (n : Nat) : Decidable (conts s n) := by unfold conts; infer_instance
def dec (s : List UInt8) : Int × Int :=
 let n := (longR (nth s 0).toNat).1.toNat
 if n = 0 ∨ s.length < n then (0, 0)
 else if conts s n ∧ point (decV s n) ∧ encR (decV s n) = s.take n then (decV s n, n) else (0, 0)
theorem dec_bound (s : List UInt8) : 0 ≤ (dec s).2 ∧ (dec s).2 ≤ s.length ∧ (dec s).2 ≤ 4 := by
 unfold dec
 simp only
 have : (longR (nth s 0).toNat).1.toNat ≤ 4 := by unfold longR; split <;> (try split) <;> (try split) <;> (try split) <;> simp
 split
 ·simp
 ·split
  ·simp only; omega
  ·simp
def runes (s : List UInt8) : Option (List Int) :=
 if s = [] then some []
 else if (dec s).2 = 0 then none
 else (runes (s.drop (dec s).2.toNat)).map ((dec s).1 :: ·)
termination_by s.length
decreasing_by
 rename_i h0 h1
 have := dec_bound s
 have : s.length ≠ 0 := by simpa using h0
 simp only [List.length_drop]
 omega
def runesG (s : List UInt8) : List Int × Int := if 4096 < s.length then ([], 2) else match runes s with
 | some l => (l, 0)
 | none => ([], 90)
end Go.Ab
