/- A part of the proof. -/
import Derived.Test.YtlmhbemgaikmaaaGreatDoorAbsD
import Derived.Test.YtlmhbemgaikmaaaGreatDoorTBase
import Derived.Test.YtlmhbemgaikmaaaGreatDoorCards
import Derived.Test.YtlmhbemgaikmaaaGreatDoorTie
import Derived.ProofKit
import Derived.OpenShut
import Derived.Deep.DeepHandedRow
import Derived.Lib.LaidTab
set_option linter.unusedVariables false
set_option linter.unusedSimpArgs false
set_option linter.unusedSectionVars false
set_option linter.deprecated false
namespace Go.Ab
set_option maxRecDepth 10000
def point (x : Int) : Bool := decide (0 ≤ x ∧ x ≤ 1114111 ∧ (x < 55296 ∨ 57343 < x))
def longR (b : Int) : Int × Int := if b < 128 then (1, b) else if 192 ≤ b ∧ b < 224 then (2, b - 192) else if 224 ≤ b ∧ b < 240 then (3, b - 224) else if 240 ≤ b ∧ b < 248 then (4, b - 240) else (0, 0)
def ib (n : Int) : UInt8 := UInt8.ofNat n.toNat
def encR (r : Int) : List UInt8 :=
 if r < 128 then [ib r] else if r < 2048 then [ib (192 + r / 64), ib (128 + r % 64)]
 else if r < 65536 then [ib (224 + r / 4096), ib (128 + r / 64 % 64), ib (128 + r % 64)]
 else [ib (240 + r / 262144), ib (128 + r / 4096 % 64), ib (128 + r / 64 % 64), ib (128 + r % 64)]
def decV (s : List UInt8) (n : Nat) : Int := match n with
 | 1 => (nth s 0).toNat
 | 2 => ((nth s 0).toNat - 192) * 64 + (nth s 1).toNat - 128
 | 3 => (((nth s 0).toNat - 224) * 64 + (nth s 1).toNat - 128) * 64 + (nth s 2).toNat - 128
 | _ => ((((nth s 0).toNat - 240) * 64 + (nth s 1).toNat - 128) * 64 + (nth s 2).toNat - 128) * 64 + (nth s 3).toNat - 128
def conts (s : List UInt8) (n : Nat) : Prop := (2 ≤ n → 128 ≤ (nth s 1).toNat ∧ (nth s 1).toNat < 192) ∧ (3 ≤ n → 128 ≤ (nth s 2).toNat ∧ (nth s 2).toNat < 192) ∧ (4 ≤ n → 128 ≤ (nth s 3).toNat ∧ (nth s 3).toNat < 192)
instance (s : List UInt8) (n : Nat) : Decidable (conts s n) := by unfold conts; infer_instance
def dec (s : List UInt8) : Int × Int :=
 let n := (longR (nth s 0).toNat).1.toNat
 if n = 0 ∨ s.length < n then (0, 0)
 else if conts s n ∧ point (decV s n) ∧ encR (decV s n) = s.take n then (decV s n, n) else (0, 0)
theorem dec_bound (s : List UInt8) : 0 ≤ (dec s).2 ∧ (dec s).2 ≤ s.length ∧ (dec s).2 ≤ 4 := by
 unfold dec
 simp only
 have : (longR (nth s 0).toNat).1.toNat ≤ 4 := by unfold longR; split <;> (try split) <;> (try split) <;> (try split) <;> simp
 split
 ·simp
 ·split
  ·simp only; omega
  ·simp
def runes (s : List UInt8) : Option (List Int) :=
 if s = [] then some []
 else if (dec s).2 = 0 then none
 else (runes (s.drop (dec s).2.toNat)).map ((dec s).1 :: ·)
termination_by s.length
decreasing_by
 rename_i h0 h1
 have := dec_bound s
 have : s.length ≠ 0 := by simpa using h0
 simp only [List.length_drop]
 omega
def runesG (s : List UInt8) : List Int × Int := if 4096 < s.length then ([], 2) else match runes s with
 | some l => (l, 0)
 | none => ([], 90)
end Go.Ab
namespace Go.Ab
open Go.Proofs
set_option maxRecDepth 10000
set_option maxHeartbeats 1000000
@[simp] theorem point_t (x : Int) : point x = true ↔ 0 ≤ x ∧ x ≤ 1114111 ∧ (x < 55296 ∨ 57343 < x) := by simp [point]
@[simp] theorem point_f (x : Int) : point x = false ↔ ¬ (0 ≤ x ∧ x ≤ 1114111 ∧ (x < 55296 ∨ 57343 < x)) := by simp only [point, decide_eq_false_iff_not]
theorem C85 (x : Int) : Kc cfg 85 [.int .i64 x] (.ret (.bool (point x))) := by
 refine outS_of_wp cfg (fn := Tryz.f85) Tryz.func85 rfl (by simp [Tryz.f85]) ?_
 simp (disch := first|exact DD|fail) [-getElem?_pos, gZ, gS, Tryz.f85]
 repeat' (first|((first|refine wA ?_ ?_|refine wB ?_ ?_)<;>intro hc<;>try simp at hc)|refine wF ?_|refine wY ?_|refine wL ?_|refine owe ?_ fun ho=>?_|(simp (disch := first|exact DD|fail) [-getElem?_pos, gZ, gS]))
 all_goals grind [point]
@[simp] theorem S85 (x : Int) (hh : Heap) : Ci cfg (.func (.func 85) [] []) [.int .i64 x] hh = some (.ret (.bool (point x)), hh) :=
 Ci_K cfg rfl rfl (by simp) (by simp) (C85 x)
theorem C84 (x : Int) (h0 : 0 ≤ x) (h1 : x ≤ 255) : Kc cfg 84 [.int .i64 x] (.ret (.tuple [.int .i64 (longR x).1, .int .i64 (longR x).2])) := by
 refine outS_of_wp cfg (fn := Tryz.f84) Tryz.func84 rfl (by simp [Tryz.f84]) ?_
 simp (disch := first|exact DD|fail) [-getElem?_pos, gZ, gS, Tryz.f84]
 repeat' (first|((first|refine wA ?_ ?_|refine wB ?_ ?_)<;>intro hc<;>try simp at hc)|refine wF ?_|refine wY ?_|refine wL ?_|refine owe ?_ fun ho=>?_|(simp (disch := first|exact DD|fail) [-getElem?_pos, gZ, gS]))
 all_goals (simp (disch := omega) [longR])
@[simp] theorem S84 (x : Int) (h0 : 0 ≤ x) (h1 : x ≤ 255) (hh : Heap) : Ci cfg (.func (.func 84) [] []) [.int .i64 x] hh = some (.ret (.tuple [.int .i64 (longR x).1, .int .i64 (longR x).2]), hh) :=
 Ci_K cfg rfl rfl (by simp) (by simp) (C84 x h0 h1)
theorem ib_nat {n : Int} (h : 0 ≤ n ∧ n ≤ 255) : ((ib n).toNat : Int) = n := by
 unfold ib
 rw [UInt8.toNat_ofNat']
 omega
theorem C86 (r : Int) (h0 : 0 ≤ r) (h1 : r ≤ 1114111) : Kc cfg 86 [.int .i64 r] (.ret (R fl0 eB (encR r))) := by
 refine outS_of_wp cfg (fn := Tryz.f86) Tryz.func86 rfl (by simp [Tryz.f86]) ?_
 simp (disch := first|exact DD|fail) [-getElem?_pos, gZ, gS, Tryz.f86]
 repeat' (first|((first|refine wA ?_ ?_|refine wB ?_ ?_)<;>intro hc<;>try simp at hc)|refine wF ?_|refine wY ?_|refine wL ?_|refine owe ?_ fun ho=>?_|(simp (disch := first|exact DD|fail) [-getElem?_pos, gZ, gS]))
 all_goals (simp (disch := omega) [encR, R, eB, ib_nat])
@[simp] theorem S86 (r : Int) (h0 : 0 ≤ r) (h1 : r ≤ 1114111) (hh : Heap) : Ci cfg (.func (.func 86) [] []) [.int .i64 r] hh = some (.ret (R fl0 eB (encR r)), hh) :=
 Ci_K cfg rfl rfl (by simp) (by simp) (C86 r h0 h1)
theorem dec_of {s : List UInt8} {n : Nat} {v : Int} (hl : longR (nth s 0).toNat = ((n : Int), v)) (h0 : 0 < n) :
  dec s = if n ≤ s.length ∧ conts s n ∧ point (decV s n) ∧ encR (decV s n) = s.take n then (decV s n, (n : Int)) else (0, 0) := by
 unfold dec
 simp only [hl, Int.toNat_natCast]
 by_cases h : s.length < n
 ·rw [if_pos (.inr h), if_neg (by omega)]
 ·rw [if_neg (by omega)]
  by_cases h2 : conts s n ∧ point (decV s n) ∧ encR (decV s n) = s.take n
  ·rw [if_pos h2, if_pos ⟨by omega, h2⟩]
  ·rw [if_neg h2, if_neg fun x => h2 x.2]
theorem C57 (s : List UInt8) (hs : 0 < s.length) : Kc cfg 57 [.str s] (.ret (.tuple [.int .i64 (dec s).1, .int .i64 (dec s).2])) := by
 have g0 := UInt8.toNat_lt (nth s 0)
 have g1 := UInt8.toNat_lt (nth s 1)
 have g2 := UInt8.toNat_lt (nth s 2)
 have g3 := UInt8.toNat_lt (nth s 3)
 by_cases c1 : (nth s 0).toNat < 128
 ·have hl : longR (nth s 0).toNat = (1, ((nth s 0).toNat : Int)) := by simp [longR]; omega
  have hd := dec_of (n := 1) (by simpa using hl) (by omega)
  refine outS_of_wp cfg (fn := Tryz.f57) Tryz.func57 rfl (by simp [Tryz.f57]) ?_
  simp (disch := first|exact DD|fail) [-getElem?_pos, gZ, gS, Tryz.f57, hl]
  repeat' (first | (refine wp_unroll rfl ?_) | ((first | refine wA ?_ ?_ | refine wB ?_ ?_) <;> intro hc <;> try simp at hc) | refine wF ?_ | refine wY ?_ | refine wL ?_ | refine owe ?_ fun ho => ?_ | (simp (disch := first|exact DD|fail) [hl, -getElem?_pos, gZ, gS]))
  all_goals (rw [hd]; simp [conts, decV]; grind)
 by_cases c2 : 192 ≤ (nth s 0).toNat ∧ (nth s 0).toNat < 224
 ·have hl : longR (nth s 0).toNat = (2, ((nth s 0).toNat : Int) - 192) := by simp (disch := omega) [longR]
  have hd := dec_of (n := 2) (by simpa using hl) (by omega)
  refine outS_of_wp cfg (fn := Tryz.f57) Tryz.func57 rfl (by simp [Tryz.f57]) ?_
  simp (disch := first|exact DD|fail) [-getElem?_pos, gZ, gS, Tryz.f57, hl]
  repeat' (first | (refine wp_unroll rfl ?_) | ((first | refine wA ?_ ?_ | refine wB ?_ ?_) <;> intro hc <;> try simp at hc) | refine wF ?_ | refine wY ?_ | refine wL ?_ | refine owe ?_ fun ho => ?_ | (simp (disch := first|exact DD|fail) [hl, -getElem?_pos, gZ, gS]))
  all_goals (rw [hd]; simp [conts, decV]; grind)
 by_cases c3 : 224 ≤ (nth s 0).toNat ∧ (nth s 0).toNat < 240
 ·have hl : longR (nth s 0).toNat = (3, ((nth s 0).toNat : Int) - 224) := by simp (disch := omega) [longR]
  have hd := dec_of (n := 3) (by simpa using hl) (by omega)
  refine outS_of_wp cfg (fn := Tryz.f57) Tryz.func57 rfl (by simp [Tryz.f57]) ?_
  simp (disch := first|exact DD|fail) [-getElem?_pos, gZ, gS, Tryz.f57, hl]
  repeat' (first | (refine wp_unroll rfl ?_) | ((first | refine wA ?_ ?_ | refine wB ?_ ?_) <;> intro hc <;> try simp at hc) | refine wF ?_ | refine wY ?_ | refine wL ?_ | refine owe ?_ fun ho => ?_ | (simp (disch := first|exact DD|fail) [hl, -getElem?_pos, gZ, gS]))
  all_goals (rw [hd]; simp [conts, decV]; grind)
 by_cases c4 : 240 ≤ (nth s 0).toNat ∧ (nth s 0).toNat < 248
 ·have hl : longR (nth s 0).toNat = (4, ((nth s 0).toNat : Int) - 240) := by simp (disch := omega) [longR]
  have hd := dec_of (n := 4) (by simpa using hl) (by omega)
  refine outS_of_wp cfg (fn := Tryz.f57) Tryz.func57 rfl (by simp [Tryz.f57]) ?_
  simp (disch := first|exact DD|fail) [-getElem?_pos, gZ, gS, Tryz.f57, hl]
  repeat' (first | (refine wp_unroll rfl ?_) | ((first | refine wA ?_ ?_ | refine wB ?_ ?_) <;> intro hc <;> try simp at hc) | refine wF ?_ | refine wY ?_ | refine wL ?_ | refine owe ?_ fun ho => ?_ | (simp (disch := first|exact DD|fail) [hl, -getElem?_pos, gZ, gS]))
  all_goals (rw [hd]; simp [conts, decV]; grind)
 ·have hl : longR (nth s 0).toNat = (0, 0) := by simp (disch := omega) [longR]
  refine outS_of_wp cfg (fn := Tryz.f57) Tryz.func57 rfl (by simp [Tryz.f57]) ?_
  simp (disch := first|exact DD|fail) [-getElem?_pos, gZ, gS, Tryz.f57, hl]
  repeat' (first | (refine wp_unroll rfl ?_) | ((first | refine wA ?_ ?_ | refine wB ?_ ?_) <;> intro hc <;> try simp at hc) | refine wF ?_ | refine wY ?_ | refine wL ?_ | refine owe ?_ fun ho => ?_ | (simp (disch := first|exact DD|fail) [hl, -getElem?_pos, gZ, gS]))
  all_goals (simp [dec, hl])
@[simp] theorem S57 (s : List UInt8) (hs : 0 < s.length) (hh : Heap) : Ci cfg (.func (.func 57) [] []) [.str s] hh = some (.ret (.tuple [.int .i64 (dec s).1, .int .i64 (dec s).2]), hh) :=
 Ci_K cfg rfl rfl (by simp) (by simp) (C57 s hs)
end Go.Ab
namespace Go.Ab
open Go.Proofs
set_option maxRecDepth 100000
set_option maxHeartbeats 1000000
def firstF (b : Nat) : Int := if b < 128 then 240 else if b < 194 then 241 else if b < 224 then 2 else if b = 224 then 19 else if b = 237 then 35 else if b < 240 then 3
 else if b = 240 then 52 else if b < 244 then 4 else if b = 244 then 68 else 241
def firstL : List Int := (List.range 256).map firstF
def acceptL : List (Int × Int) := [(128, 191), (160, 191), (128, 159), (144, 191), (128, 143)] ++ List.replicate 11 (0, 0)
theorem globs_0 : globs 1 = some (rows eU firstL) := by
 have : dV Go.Pinned.utf8First = rows eU firstL := by kernel_rfl
 unfold globs; simp [this]
theorem globs_1 : globs 2 = some (rows eU2 acceptL) := by
 have : dV (H := Unit) Go.Proofs.YtlmhbemgaikmaaaGreatDoor.Rows.laid_unicode_utf8_acceptRanges = rows eU2 acceptL := by kernel_rfl
 unfold globs; simp [this]
theorem firstL_len : firstL.length = 256 := by simp [firstL]
theorem acceptL_len : acceptL.length = 16 := by simp [acceptL]
theorem nth_first {b : Nat} (h : b < 256) : nth firstL b = firstF b := by
 unfold nth firstL; simp [h]
theorem ib_eq {n : Int} {b : UInt8} (h : 0 ≤ n ∧ n ≤ 255) : ib n = b ↔ n = b.toNat := by
 constructor
 ·intro e; rw [← e, ib_nat h]
 ·intro e; subst e; unfold ib; simp
theorem take1 {s : List UInt8} (h : 1 ≤ s.length) : s.take 1 = [nth s 0] := by
 rw [nth_take (by omega)]; simp
theorem take2 {s : List UInt8} (h : 2 ≤ s.length) : s.take 2 = [nth s 0, nth s 1] := by
 rw [nth_take (by omega), take1 (by omega)]; rfl
theorem take3 {s : List UInt8} (h : 3 ≤ s.length) : s.take 3 = [nth s 0, nth s 1, nth s 2] := by
 rw [nth_take (by omega), take2 (by omega)]; rfl
theorem take4 {s : List UInt8} (h : 4 ≤ s.length) : s.take 4 = [nth s 0, nth s 1, nth s 2, nth s 3] := by
 rw [nth_take (by omega), take3 (by omega)]; rfl
theorem enc1 {v : Int} {s : List UInt8} (h : 1 ≤ s.length) (hv : 0 ≤ v ∧ v ≤ 1114111) : encR v = s.take 1 ↔ v < 128 ∧ v = (nth s 0).toNat := by
 rw [take1 h]; unfold encR
 split
 ·simp [ib_eq (n := v) (by omega), *]
 ·split <;> (try split) <;> simp <;> omega
theorem enc2 {v : Int} {s : List UInt8} (h : 2 ≤ s.length) (hv : 0 ≤ v ∧ v ≤ 1114111) : encR v = s.take 2 ↔ (128 ≤ v ∧ v < 2048) ∧ 192 + v / 64 = (nth s 0).toNat ∧ 128 + v % 64 = (nth s 1).toNat := by
 rw [take2 h]; unfold encR
 split
 ·simp; omega
 ·split
  ·simp only [List.cons.injEq, and_true]; rw [ib_eq (by omega), ib_eq (by omega)]; omega
  ·split <;> simp <;> omega
theorem enc3 {v : Int} {s : List UInt8} (h : 3 ≤ s.length) (hv : 0 ≤ v ∧ v ≤ 1114111) : encR v = s.take 3 ↔ (2048 ≤ v ∧ v < 65536) ∧ 224 + v / 4096 = (nth s 0).toNat ∧ 128 + v / 64 % 64 = (nth s 1).toNat ∧ 128 + v % 64 = (nth s 2).toNat := by
 rw [take3 h]; unfold encR
 split
 ·simp; omega
 ·split
  ·simp; omega
  ·split
   ·simp only [List.cons.injEq, and_true]; rw [ib_eq (by omega), ib_eq (by omega), ib_eq (by omega)]; omega
   ·simp; omega
theorem enc4 {v : Int} {s : List UInt8} (h : 4 ≤ s.length) (hv : 0 ≤ v ∧ v ≤ 1114111) : encR v = s.take 4 ↔ 65536 ≤ v ∧ 240 + v / 262144 = (nth s 0).toNat ∧ 128 + v / 4096 % 64 = (nth s 1).toNat ∧ 128 + v / 64 % 64 = (nth s 2).toNat ∧ 128 + v % 64 = (nth s 3).toNat := by
 rw [take4 h]; unfold encR
 split
 ·simp; omega
 ·split
  ·simp; omega
  ·split
   ·simp; omega
   ·simp only [List.cons.injEq, and_true]; rw [ib_eq (by omega), ib_eq (by omega), ib_eq (by omega), ib_eq (by omega)]; omega
def decG (s : List UInt8) : Int × Int := if (dec s).2 = 0 then (65533, 1) else dec s
theorem dec1 {s : List UInt8} (h : 1 ≤ s.length) (h0 : (nth s 0).toNat < 128) : dec s = (((nth s 0).toNat : Int), 1) := by
 have hl : longR (nth s 0).toNat = (((1 : Nat) : Int), ((nth s 0).toNat : Int)) := by simp [longR]; omega
 rw [dec_of hl (by omega), if_pos]
 ·rfl
 ·refine ⟨h, by simp [conts], by simp [decV]; omega, (enc1 h (by simp [decV]; omega)).2 (by simp [decV]; omega)⟩
theorem dec0 {s : List UInt8} (h0 : 128 ≤ (nth s 0).toNat ∧ (nth s 0).toNat < 194 ∨ 245 ≤ (nth s 0).toNat) : dec s = (0, 0) := by
 have g1 := UInt8.toNat_lt (nth s 0)
 by_cases h1 : (nth s 0).toNat < 192 ∨ 248 ≤ (nth s 0).toNat
 ·have hl : longR (nth s 0).toNat = (0, 0) := by unfold longR; rw [if_neg (by omega), if_neg (by omega), if_neg (by omega), if_neg (by omega)]
  simp [dec, hl]
 by_cases h2 : (nth s 0).toNat < 194
 ·have hl : longR (nth s 0).toNat = (((2 : Nat) : Int), ((nth s 0).toNat : Int) - 192) := by simp (disch := omega) [longR]
  rw [dec_of hl (by omega), if_neg]
  rintro ⟨a1, a2, a3, a4⟩
  rw [point_t] at a3
  rw [enc2 a1 (by omega)] at a4
  simp [conts, decV] at a2 a4; omega
 ·have hl : longR (nth s 0).toNat = (((4 : Nat) : Int), ((nth s 0).toNat : Int) - 240) := by simp (disch := omega) [longR]
  rw [dec_of hl (by omega), if_neg]
  rintro ⟨a1, a2, a3, a4⟩
  rw [point_t] at a3
  simp [conts, decV] at a2 a3; omega
theorem dec2 {s : List UInt8} (h0 : 194 ≤ (nth s 0).toNat ∧ (nth s 0).toNat < 224) : dec s = if 2 ≤ s.length ∧ 128 ≤ (nth s 1).toNat ∧ (nth s 1).toNat < 192 then (decV s 2, 2) else (0, 0) := by
 have hl : longR (nth s 0).toNat = (((2 : Nat) : Int), ((nth s 0).toNat : Int) - 192) := by simp (disch := omega) [longR]
 rw [dec_of hl (by omega)]
 by_cases h : 2 ≤ s.length ∧ 128 ≤ (nth s 1).toNat ∧ (nth s 1).toNat < 192
 ·have hv : decV s 2 = ((nth s 0).toNat - 192) * 64 + (nth s 1).toNat - 128 := rfl
  rw [if_pos h, if_pos]
  ·rfl
  ·refine ⟨h.1, by simp [conts]; omega, by rw [point_t]; omega, (enc2 h.1 (by omega)).2 (by omega)⟩
 ·rw [if_neg h, if_neg]
  rintro ⟨a1, a2, a3, a4⟩
  simp [conts] at a2; omega
theorem dec3 {s : List UInt8} (h0 : 224 ≤ (nth s 0).toNat ∧ (nth s 0).toNat < 240) : dec s = if 3 ≤ s.length ∧ (128 ≤ (nth s 1).toNat ∧ (nth s 1).toNat < 192 ∧ ((nth s 0).toNat = 224 → 160 ≤ (nth s 1).toNat) ∧ ((nth s 0).toNat = 237 → (nth s 1).toNat < 160)) ∧ 128 ≤ (nth s 2).toNat ∧ (nth s 2).toNat < 192 then (decV s 3, 3) else (0, 0) := by
 have hl : longR (nth s 0).toNat = (((3 : Nat) : Int), ((nth s 0).toNat : Int) - 224) := by simp (disch := omega) [longR]
 rw [dec_of hl (by omega)]
 have hv : decV s 3 = (((nth s 0).toNat - 224) * 64 + (nth s 1).toNat - 128) * 64 + (nth s 2).toNat - 128 := rfl
 by_cases h : 3 ≤ s.length ∧ (128 ≤ (nth s 1).toNat ∧ (nth s 1).toNat < 192 ∧ ((nth s 0).toNat = 224 → 160 ≤ (nth s 1).toNat) ∧ ((nth s 0).toNat = 237 → (nth s 1).toNat < 160)) ∧ 128 ≤ (nth s 2).toNat ∧ (nth s 2).toNat < 192
 ·rw [if_pos h, if_pos]
  ·rfl
  ·refine ⟨h.1, by simp [conts]; omega, by rw [point_t]; omega, (enc3 h.1 (by omega)).2 (by omega)⟩
 ·rw [if_neg h, if_neg]
  rintro ⟨a1, a2, a3, a4⟩
  rw [point_t] at a3
  rw [enc3 a1 (by omega)] at a4
  simp [conts] at a2; omega
theorem dec4 {s : List UInt8} (h0 : 240 ≤ (nth s 0).toNat ∧ (nth s 0).toNat < 245) : dec s = if 4 ≤ s.length ∧ (128 ≤ (nth s 1).toNat ∧ (nth s 1).toNat < 192 ∧ ((nth s 0).toNat = 240 → 144 ≤ (nth s 1).toNat) ∧ ((nth s 0).toNat = 244 → (nth s 1).toNat < 144)) ∧ (128 ≤ (nth s 2).toNat ∧ (nth s 2).toNat < 192) ∧ 128 ≤ (nth s 3).toNat ∧ (nth s 3).toNat < 192 then (decV s 4, 4) else (0, 0) := by
 have hl : longR (nth s 0).toNat = (((4 : Nat) : Int), ((nth s 0).toNat : Int) - 240) := by simp (disch := omega) [longR]
 rw [dec_of hl (by omega)]
 have hv : decV s 4 = ((((nth s 0).toNat - 240) * 64 + (nth s 1).toNat - 128) * 64 + (nth s 2).toNat - 128) * 64 + (nth s 3).toNat - 128 := rfl
 by_cases h : 4 ≤ s.length ∧ (128 ≤ (nth s 1).toNat ∧ (nth s 1).toNat < 192 ∧ ((nth s 0).toNat = 240 → 144 ≤ (nth s 1).toNat) ∧ ((nth s 0).toNat = 244 → (nth s 1).toNat < 144)) ∧ (128 ≤ (nth s 2).toNat ∧ (nth s 2).toNat < 192) ∧ 128 ≤ (nth s 3).toNat ∧ (nth s 3).toNat < 192
 ·rw [if_pos h, if_pos]
  ·rfl
  ·refine ⟨h.1, by simp [conts]; omega, by rw [point_t]; omega, (enc4 h.1 (by omega)).2 (by omega)⟩
 ·rw [if_neg h, if_neg]
  rintro ⟨a1, a2, a3, a4⟩
  rw [point_t] at a3
  rw [enc4 a1 (by omega)] at a4
  simp [conts] at a2; omega
end Go.Ab
namespace Go.Ab
open Go.Proofs Go.Proofs.YtlmhbemgaikmaaaGreatDoor
set_option maxRecDepth 100000
theorem bulk_one {H : Type} (d : DataW H) : 1 ≤ Rows.uptoBulk d := by
 cases d with
 | lit l => cases l <;> simp [Rows.uptoBulk]
 | nil => simp [Rows.uptoBulk]
 | ptr d => simp [Rows.uptoBulk]
 | slice elems spare => simp [Rows.uptoBulk]
 | agg parts => simp [Rows.uptoBulk]
 | iface t d => simp [Rows.uptoBulk]
 | map entries => simp [Rows.uptoBulk]
 | held h => simp [Rows.uptoBulk]
theorem bulk_all {H : Type} : ∀ l : List (DataW H), Rows.uptoBulkAll l = (l.map Rows.uptoBulk).sum
 | [] => rfl
 | x :: r => by simp only [Rows.uptoBulkAll, List.map_cons, List.sum_cons, bulk_all r]
theorem bulk_ok {H : Type} : BkOk (Rows.uptoBulk (H := H)) where
 one := bulk_one
 str s := by simp [Rows.uptoBulk]
 slice e s := by simp only [Rows.uptoBulk, bulk_all]; omega
 agg p := by simp only [Rows.uptoBulk, bulk_all]; omega
def laidL : List (String × DataW Unit) := [("unicode/utf8.acceptRanges", Rows.laid_unicode_utf8_acceptRanges), ("unicode/utf8.first", Rows.laid_unicode_utf8_first)]
theorem globs_laid {W : World} (h : laidMetH Tryz.prog laidL W) : ∀ i cs, globs i = some cs → RepC (gOf W) cs i 0 := by
 have e : (laidL.filter fun x => x.2.handleName?.isSome) = [] := by kernel_rfl
 unfold laidMetH at h
 rw [e] at h
 obtain ⟨ps, h1, _, _⟩ := h
 intro i cs hi
 unfold globs at hi
 split at hi
 ·rename_i h0
  subst h0
  simp only [Option.some.injEq] at hi
  subst hi
  exact laid_dV h1 (n := "unicode/utf8.first") (by simp [laidL]; rfl) (by kernel_rfl) (t := 172) (by kernel_rfl) (k := 5) (by kernel_rfl)
 ·split at hi
  ·rename_i h0
   subst h0
   simp only [Option.some.injEq] at hi
   subst hi
   exact laid_dV h1 (n := "unicode/utf8.acceptRanges") (by simp [laidL]) (by kernel_rfl) (t := 176) (by kernel_rfl) (k := 5) (by kernel_rfl)
  ·cases hi
noncomputable def laidWorld (os : Os) : World :=
 { World.holding Tryz.prog os ⟨#[], #[], []⟩ with
  heap := (((World.holding Tryz.prog os ⟨#[], #[], []⟩).heap.modify 1 (fun
   | .cells _ t frozen => .cells ((List.range 256).map fun b => Value.int .u8 (firstF b)).toArray t frozen
   | o => o)).modify 2 (fun
   | .cells _ t frozen => .cells (acceptL.flatMap fun x => [Value.int .u8 x.1, Value.int .u8 x.2]).toArray t frozen
   | o => o)) }
end Go.Ab
namespace Go.Ab
open Go.Proofs Go.Proofs.YtlmhbemgaikmaaaGreatDoor
set_option maxRecDepth 100000
theorem rd_string : Reads Tryz.prog 9 (fun _ : List UInt8 => True) (fun s => [.str s]) (fun s => s.length) := reads_string Tryz.underlying9 (by kernel_rfl)
theorem rd_int : Reads Tryz.prog 3 (fun n : Int => (Lit.int .i64 n).wf = true) (fun n => [.int .i64 n]) (fun _ => 0) := reads_int Tryz.underlying3 (by kernel_rfl)
theorem rd_ints : Reads Tryz.prog 36 (fun l : List Int => ∀ y ∈ l, (Lit.int .i64 y).wf = true) (fun l => [R fl0 eI l]) (fun l => (l.map fun _ => 0 + 1).sum) := reads_slice Tryz.underlying36 (by kernel_rfl) (by rw [show Tryz.prog.cellsOf 3 = 1 by kernel_rfl]; decide) rd_int
theorem rd_u8 : Reads Tryz.prog 5 (fun n : Int => (Lit.int .u8 n).wf = true) (fun n => [.int .u8 n]) (fun _ => 0) := reads_int Tryz.underlying5 (by kernel_rfl)
theorem rd_u8s : Reads Tryz.prog 35 (fun l : List Int => ∀ y ∈ l, (Lit.int .u8 y).wf = true) (fun l => [R fl0 eU l]) (fun l => (l.map fun _ => 0 + 1).sum) := reads_slice Tryz.underlying35 (by kernel_rfl) (by rw [show Tryz.prog.cellsOf 5 = 1 by kernel_rfl]; decide) rd_u8
theorem sum_one {α : Type} (l : List α) : (l.map fun _ => 1).sum = l.length := by
 induction l with
 | nil => rfl
 | cons x l ih => simp only [List.map_cons, List.sum_cons, ih, List.length_cons]; omega
theorem sum_mem {α : Type} {f : α → Nat} {l : List α} {x : α} (h : x ∈ l) : f x ≤ (l.map f).sum := by
 induction l with
 | nil => cases h
 | cons y l ih =>
  simp only [List.map_cons, List.sum_cons]
  rcases List.mem_cons.1 h with rfl | h
  ·omega
  ·have := ih h; omega
theorem sum_len {α : Type} {f : α → Nat} (l : List α) : l.length ≤ (l.map fun x => f x + 1).sum := by
 induction l with
 | nil => simp
 | cons y l ih => simp only [List.map_cons, List.sum_cons, List.length_cons]; omega
theorem u8_of {n : Int} (h : (Lit.int .u8 n).wf = true) : 0 ≤ n ∧ n ≤ 255 := by
 simp only [Lit.wf, Bool.and_eq_true, decide_eq_true_eq] at h
 have h1 : IntKind.u8.min = 0 := by decide
 have h2 : IntKind.u8.max = 255 := by decide
 omega
theorem i64_of {n : Int} (h : (Lit.int .i64 n).wf = true) : -9223372036854775808 ≤ n ∧ n ≤ 9223372036854775807 := by
 simp only [Lit.wf, Bool.and_eq_true, decide_eq_true_eq] at h
 have h1 : IntKind.i64.min = -9223372036854775808 := by decide
 have h2 : IntKind.i64.max = 9223372036854775807 := by decide
 omega
end Go.Ab
namespace Go.Proofs.YtlmhbemgaikmaaaGreatDoor
open Go Go.Ab
theorem own : ownKnob Tryz.prog.godebug = none := by kernel_rfl
end Go.Proofs.YtlmhbemgaikmaaaGreatDoor
