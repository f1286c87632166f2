/- A part of the proof. -/
import Derived.Test.YtlmhbemgaikmaaaGreatDoorGr10
import Derived.Test.YtlmhbemgaikmaaaGreatDoorGr9
import Derived.Test.YtlmhbemgaikmaaaGreatDoorGr11
import Derived.Test.YtlmhbemgaikmaaaGreatDoorGr12
import Derived.Test.YtlmhbemgaikmaaaGreatDoorGr19
set_option linter.unusedVariables false
set_option linter.unusedSimpArgs false
set_option linter.unusedSectionVars false
set_option linter.deprecated false
namespace Go.Ab
open Go.Proofs
set_option maxRecDepth 100000
set_option maxHeartbeats 1000000
theorem dec_enc {r : Int} (h : point r = true) (t : List UInt8) : dec (encR r ++ t) = (r, ((encR r).length : Int)) := by
 have hp := h
 rw [point_t] at h
 by_cases h1 : r < 128
 ·have he : encR r = [ib r] := by unfold encR; rw [if_pos h1]
  have b0 : ((nth (encR r ++ t) 0).toNat : Int) = r := by rw [he]; exact ib_nat (by omega)
  have hl : longR (nth (encR r ++ t) 0).toNat = (((1 : Nat) : Int), r) := by rw [b0]; unfold longR; rw [if_pos h1]; rfl
  have hv : decV (encR r ++ t) 1 = r := b0
  rw [dec_of hl (by omega), hv, if_pos ⟨by simp [he], by simp [conts], hp, by simp [he]⟩]; simp [he]
 by_cases h2 : r < 2048
 ·have he : encR r = [ib (192 + r / 64), ib (128 + r % 64)] := by unfold encR; rw [if_neg h1, if_pos h2]
  have b0 : ((nth (encR r ++ t) 0).toNat : Int) = 192 + r / 64 := by rw [he]; exact ib_nat (by omega)
  have b1 : ((nth (encR r ++ t) 1).toNat : Int) = 128 + r % 64 := by rw [he]; exact ib_nat (by omega)
  have hl : longR (nth (encR r ++ t) 0).toNat = (((2 : Nat) : Int), r / 64) := by rw [b0]; unfold longR; rw [if_neg (by omega), if_pos (by omega)]; simp; omega
  have hv : decV (encR r ++ t) 2 = r := by
   show ((nth (encR r ++ t) 0).toNat - 192) * 64 + (nth (encR r ++ t) 1).toNat - 128 = r
   omega
  rw [dec_of hl (by omega), hv, if_pos ⟨by simp [he], by simp only [conts]; omega, hp, by simp [he]⟩]; simp [he]
 by_cases h3 : r < 65536
 ·have he : encR r = [ib (224 + r / 4096), ib (128 + r / 64 % 64), ib (128 + r % 64)] := by unfold encR; rw [if_neg h1, if_neg h2, if_pos h3]
  have b0 : ((nth (encR r ++ t) 0).toNat : Int) = 224 + r / 4096 := by rw [he]; exact ib_nat (by omega)
  have b1 : ((nth (encR r ++ t) 1).toNat : Int) = 128 + r / 64 % 64 := by rw [he]; exact ib_nat (by omega)
  have b2 : ((nth (encR r ++ t) 2).toNat : Int) = 128 + r % 64 := by rw [he]; exact ib_nat (by omega)
  have hl : longR (nth (encR r ++ t) 0).toNat = (((3 : Nat) : Int), r / 4096) := by rw [b0]; unfold longR; rw [if_neg (by omega), if_neg (by omega), if_pos (by omega)]; simp; omega
  have hv : decV (encR r ++ t) 3 = r := by
   show (((nth (encR r ++ t) 0).toNat - 224) * 64 + (nth (encR r ++ t) 1).toNat - 128) * 64 + (nth (encR r ++ t) 2).toNat - 128 = r
   omega
  rw [dec_of hl (by omega), hv, if_pos ⟨by simp [he], by simp only [conts]; omega, hp, by simp [he]⟩]; simp [he]
 ·have he : encR r = [ib (240 + r / 262144), ib (128 + r / 4096 % 64), ib (128 + r / 64 % 64), ib (128 + r % 64)] := by unfold encR; rw [if_neg h1, if_neg h2, if_neg h3]
  have b0 : ((nth (encR r ++ t) 0).toNat : Int) = 240 + r / 262144 := by rw [he]; exact ib_nat (by omega)
  have b1 : ((nth (encR r ++ t) 1).toNat : Int) = 128 + r / 4096 % 64 := by rw [he]; exact ib_nat (by omega)
  have b2 : ((nth (encR r ++ t) 2).toNat : Int) = 128 + r / 64 % 64 := by rw [he]; exact ib_nat (by omega)
  have b3 : ((nth (encR r ++ t) 3).toNat : Int) = 128 + r % 64 := by rw [he]; exact ib_nat (by omega)
  have hl : longR (nth (encR r ++ t) 0).toNat = (((4 : Nat) : Int), r / 262144) := by rw [b0]; unfold longR; rw [if_neg (by omega), if_neg (by omega), if_neg (by omega), if_pos (by omega)]; simp; omega
  have hv : decV (encR r ++ t) 4 = r := by
   show ((((nth (encR r ++ t) 0).toNat - 240) * 64 + (nth (encR r ++ t) 1).toNat - 128) * 64 + (nth (encR r ++ t) 2).toNat - 128) * 64 + (nth (encR r ++ t) 3).toNat - 128 = r
   omega
  rw [dec_of hl (by omega), hv, if_pos ⟨by simp [he], by simp only [conts]; omega, hp, by simp [he]⟩]; simp [he]
theorem runes_app : ∀ (l : List Int) (t : List UInt8), l.all point = true → runes (encAll l ++ t) = (runes t).map (l ++ ·)
 | [], t, _ => by simp
 | r :: l, t, h => by
  simp only [List.all_cons, Bool.and_eq_true] at h
  have hl := encR_len r
  have hd := dec_enc h.1 (encAll l ++ t)
  rw [encAll_cons, List.append_assoc, runes_step (by simp; omega) (by rw [hd]; simp), hd]
  simp only [Int.toNat_natCast, List.drop_left]
  rw [runes_app l t h.2]
  simp [Function.comp_def]
theorem runes_encAll {l : List Int} (h : l.all point = true) : runes (encAll l) = some l := by
 have := runes_app l [] h
 rw [List.append_nil, runes_nil] at this
 simpa using this
theorem runes_append {a b : List UInt8} {x : List Int} (h : runes a = some x) : runes (a ++ b) = (runes b).map (x ++ ·) := by
 obtain ⟨h1, h2⟩ := runes_enc' h
 conv => lhs; rw [← h1]
 exact runes_app x b h2
theorem runesG_bad {s : List UInt8} (h : ¬ (runesG s).2 = 0) : (runesG s).1 = [] := by
 unfold runesG at h ⊢
 split
 ·rfl
 ·rename_i h1
  rw [if_neg h1] at h
  cases hr : runes s with
  | none => rfl
  | some l => rw [hr] at h; simp at h
end Go.Ab
namespace Go.Ab
open Go.Proofs
set_option maxRecDepth 100000
def needW (v : VwZ) (s : List UInt8) : Int × Int := if vwR v = true then (v.speed * (runesG s).1.length, (runesG s).2) else (0, 450)
def codeW (x : List Int × List Int × Bool × Int) : Int × Int := if x.2.2.2 = 0 then (if x.2.2.1 = true then ((x.2.1.length : Int), 0) else (0, 450)) else (0, x.2.2.2)
def widthW (v : VwZ) (s : List UInt8) : Int × Int :=
 if vwR v = true then (if (runesG s).2 = 0 then (if v.cells = 0 then widthS v.font s else codeW (encodeZ v.signs s)) else (0, (runesG s).2)) else (0, 450)
def shapeW (v : VwZ) (s : List UInt8) : List UInt8 × Int :=
 if vwR v = true then (if (runesG s).2 = 0 then (if v.cells = 0 then showS s v.right else (s, 0)) else ([], (runesG s).2)) else ([], 450)
theorem vwR_speed {v : VwZ} (h : vwR v = true) : 0 ≤ v.speed ∧ v.speed ≤ 1000 := by
 have h1 : baseB v = true := by
  cases hb : baseB v with
  | true => rfl
  | false => rw [vwR_base hb] at h; cases h
 have h2 := (baseB_t.1 h1).2.2.2.1
 rwa [inB_t] at h2
theorem need_wrap {v : VwZ} (s : List UInt8) (h : vwR v = true) : IntKind.i64.wrap (v.speed * ((runesG s).1.length : Int)) = v.speed * ((runesG s).1.length : Int) := by
 obtain ⟨h1, h2⟩ := vwR_speed h
 have h3 := runesG_len' s
 have h4 : 0 ≤ v.speed * ((runesG s).1.length : Int) := Int.mul_nonneg h1 (by omega)
 have h5 : v.speed * ((runesG s).1.length : Int) ≤ 1000 * 4096 := Int.mul_le_mul h2 (by omega) (by omega) (by omega)
 exact wrap64 (by omega)
end Go.Ab
