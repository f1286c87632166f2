/- A part of the proof. -/
import Derived.Test.YtippeibeiofmnaaDoorTBase
import Derived.Test.YtippeibeiofmnaaDoorPT
import Derived.Test.YtippeibeiofmnaaDoorCards
import Derived.Test.YtippeibeiofmnaaDoorTie
import Derived.ProofKit
import Derived.OpenShut
import Derived.Deep.DeepHandedRow
import Derived.Lib.LaidTab
set_option linter.unusedVariables false
set_option linter.unusedSimpArgs false
set_option linter.unusedSectionVars false
set_option linter.deprecated false
namespace Go.Ab
open Go.Proofs
set_option maxRecDepth 10000
set_option maxHeartbeats 1000000
theorem take_next {α : Type} [Inhabited α] {a b : List α} {i : Nat} (h1 : i < a.length) (h2 : i < b.length) (h : a.take i = b.take i) (h3 : nth a i = nth b i) : a.take (i + 1) = b.take (i + 1) := by
 rw [nth_take h1, nth_take h2, h, h3]
@[simp] theorem point_t (x : Int) : point x = true ↔ 0 ≤ x ∧ x ≤ 1114111 ∧ (x < 55296 ∨ 57343 < x) := by simp [point]
@[simp] theorem point_f (x : Int) : point x = false ↔ ¬ (0 ≤ x ∧ x ≤ 1114111 ∧ (x < 55296 ∨ 57343 < x)) := by simp only [point, decide_eq_false_iff_not]
theorem C72 (x : Int) : Kc cfg 72 [.int .i64 x] (.ret (.bool (point x))) := by
 refine outS_of_wp cfg (fn := Tryd.f72) Tryd.func72 rfl (by simp [Tryd.f72]) ?_
 simp (disch := first | assumption | omega | (simp; done) | (simp; omega)) [-getElem?_pos, gZ, gS, Tryd.f72]
 repeat' (first | ((first | refine wpc_split _ ?_ ?_ | refine ww_split _ ?_ ?_) <;> intro hc <;> try simp at hc) | (refine wp_drawF (by kernel_rfl) ?_) | refine wk_yldW _ ?_ | refine layOwe _ (by kernel_rfl) ?_ | refine owe ?_ (fun ho => ?_) | (simp (disch := first | assumption | omega | (simp; done) | (simp; omega)) [-getElem?_pos, gZ, gS]))
 all_goals grind [point]
@[simp] theorem S72 (x : Int) (hh : Heap) : Ci cfg (.func (.func 72) [] []) [.int .i64 x] hh = some (.ret (.bool (point x)), hh) :=
 Ci_K cfg rfl rfl (by simp) (by simp) (C72 x)
theorem C71 (x : Int) (h0 : 0 ≤ x) (h1 : x ≤ 255) : Kc cfg 71 [.int .i64 x] (.ret (.tuple [.int .i64 (longR x).1, .int .i64 (longR x).2])) := by
 refine outS_of_wp cfg (fn := Tryd.f71) Tryd.func71 rfl (by simp [Tryd.f71]) ?_
 simp (disch := first | assumption | omega | (simp; done) | (simp; omega)) [-getElem?_pos, gZ, gS, Tryd.f71]
 repeat' (first | ((first | refine wpc_split _ ?_ ?_ | refine ww_split _ ?_ ?_) <;> intro hc <;> try simp at hc) | (refine wp_drawF (by kernel_rfl) ?_) | refine wk_yldW _ ?_ | refine layOwe _ (by kernel_rfl) ?_ | refine owe ?_ (fun ho => ?_) | (simp (disch := first | assumption | omega | (simp; done) | (simp; omega)) [-getElem?_pos, gZ, gS]))
 all_goals (simp (disch := omega) [longR])
@[simp] theorem S71 (x : Int) (h0 : 0 ≤ x) (h1 : x ≤ 255) (hh : Heap) : Ci cfg (.func (.func 71) [] []) [.int .i64 x] hh = some (.ret (.tuple [.int .i64 (longR x).1, .int .i64 (longR x).2]), hh) :=
 Ci_K cfg rfl rfl (by simp) (by simp) (C71 x h0 h1)
theorem ib_nat {n : Int} (h : 0 ≤ n ∧ n ≤ 255) : ((ib n).toNat : Int) = n := by
 unfold ib
 rw [UInt8.toNat_ofNat']
 omega
theorem C73 (r : Int) (h0 : 0 ≤ r) (h1 : r ≤ 1114111) : Kc cfg 73 [.int .i64 r] (.ret (R fl0 eB (encR r))) := by
 refine outS_of_wp cfg (fn := Tryd.f73) Tryd.func73 rfl (by simp [Tryd.f73]) ?_
 simp (disch := first | assumption | omega | (simp; done) | (simp; omega)) [-getElem?_pos, gZ, gS, Tryd.f73]
 repeat' (first | ((first | refine wpc_split _ ?_ ?_ | refine ww_split _ ?_ ?_) <;> intro hc <;> try simp at hc) | (refine wp_drawF (by kernel_rfl) ?_) | refine wk_yldW _ ?_ | refine layOwe _ (by kernel_rfl) ?_ | refine owe ?_ (fun ho => ?_) | (simp (disch := first | assumption | omega | (simp; done) | (simp; omega)) [-getElem?_pos, gZ, gS]))
 all_goals (simp (disch := omega) [encR, R, eB, ib_nat])
@[simp] theorem S73 (r : Int) (h0 : 0 ≤ r) (h1 : r ≤ 1114111) (hh : Heap) : Ci cfg (.func (.func 73) [] []) [.int .i64 r] hh = some (.ret (R fl0 eB (encR r)), hh) :=
 Ci_K cfg rfl rfl (by simp) (by simp) (C73 r h0 h1)
theorem dec_of {s : List UInt8} {n : Nat} {v : Int} (hl : longR (nth s 0).toNat = ((n : Int), v)) (h0 : 0 < n) :
  dec s = if n ≤ s.length ∧ conts s n ∧ point (decV s n) ∧ encR (decV s n) = s.take n then (decV s n, (n : Int)) else (0, 0) := by
 unfold dec
 simp only [hl, Int.toNat_natCast]
 by_cases h : s.length < n
 ·rw [if_pos (.inr h), if_neg (by omega)]
 ·rw [if_neg (by omega)]
  by_cases h2 : conts s n ∧ point (decV s n) ∧ encR (decV s n) = s.take n
  ·rw [if_pos h2, if_pos ⟨by omega, h2⟩]
  ·rw [if_neg h2, if_neg fun x => h2 x.2]
theorem dec_f1 {s : List UInt8} {n : Nat} (h : dec s = (0, 0)) : 0 = (dec s).1 ∧ 0 = (dec s).2 := by rw [h]; simp
theorem C60 (s : List UInt8) (hs : 0 < s.length) : Kc cfg 60 [.str s] (.ret (.tuple [.int .i64 (dec s).1, .int .i64 (dec s).2])) := by
 have g0 := UInt8.toNat_lt (nth s 0)
 have g1 := UInt8.toNat_lt (nth s 1)
 have g2 := UInt8.toNat_lt (nth s 2)
 have g3 := UInt8.toNat_lt (nth s 3)
 by_cases c1 : (nth s 0).toNat < 128
 ·have hl : longR (nth s 0).toNat = (1, ((nth s 0).toNat : Int)) := by simp [longR]; omega
  have hd := dec_of (n := 1) (by simpa using hl) (by omega)
  refine outS_of_wp cfg (fn := Tryd.f60) Tryd.func60 rfl (by simp [Tryd.f60]) ?_
  simp (disch := first | assumption | omega | (simp; done) | (simp; omega)) [-getElem?_pos, gZ, gS, Tryd.f60, hl]
  repeat' (first | (refine wp_unroll rfl ?_) | ((first | refine wpc_split _ ?_ ?_ | refine ww_split _ ?_ ?_) <;> intro hc <;> try simp at hc) | (refine wp_drawF (by kernel_rfl) ?_) | refine wk_yldW _ ?_ | refine layOwe _ (by kernel_rfl) ?_ | refine owe ?_ (fun ho => ?_) | (simp (disch := first | assumption | omega | (simp; done) | (simp; omega)) [hl, -getElem?_pos, gZ, gS]))
  all_goals (rw [hd]; simp [conts, decV]; grind)
 by_cases c2 : 192 ≤ (nth s 0).toNat ∧ (nth s 0).toNat < 224
 ·have hl : longR (nth s 0).toNat = (2, ((nth s 0).toNat : Int) - 192) := by simp (disch := omega) [longR]
  have hd := dec_of (n := 2) (by simpa using hl) (by omega)
  refine outS_of_wp cfg (fn := Tryd.f60) Tryd.func60 rfl (by simp [Tryd.f60]) ?_
  simp (disch := first | assumption | omega | (simp; done) | (simp; omega)) [-getElem?_pos, gZ, gS, Tryd.f60, hl]
  repeat' (first | (refine wp_unroll rfl ?_) | ((first | refine wpc_split _ ?_ ?_ | refine ww_split _ ?_ ?_) <;> intro hc <;> try simp at hc) | (refine wp_drawF (by kernel_rfl) ?_) | refine wk_yldW _ ?_ | refine layOwe _ (by kernel_rfl) ?_ | refine owe ?_ (fun ho => ?_) | (simp (disch := first | assumption | omega | (simp; done) | (simp; omega)) [hl, -getElem?_pos, gZ, gS]))
  all_goals (rw [hd]; simp [conts, decV]; grind)
 by_cases c3 : 224 ≤ (nth s 0).toNat ∧ (nth s 0).toNat < 240
 ·have hl : longR (nth s 0).toNat = (3, ((nth s 0).toNat : Int) - 224) := by simp (disch := omega) [longR]
  have hd := dec_of (n := 3) (by simpa using hl) (by omega)
  refine outS_of_wp cfg (fn := Tryd.f60) Tryd.func60 rfl (by simp [Tryd.f60]) ?_
  simp (disch := first | assumption | omega | (simp; done) | (simp; omega)) [-getElem?_pos, gZ, gS, Tryd.f60, hl]
  repeat' (first | (refine wp_unroll rfl ?_) | ((first | refine wpc_split _ ?_ ?_ | refine ww_split _ ?_ ?_) <;> intro hc <;> try simp at hc) | (refine wp_drawF (by kernel_rfl) ?_) | refine wk_yldW _ ?_ | refine layOwe _ (by kernel_rfl) ?_ | refine owe ?_ (fun ho => ?_) | (simp (disch := first | assumption | omega | (simp; done) | (simp; omega)) [hl, -getElem?_pos, gZ, gS]))
  all_goals (rw [hd]; simp [conts, decV]; grind)
 by_cases c4 : 240 ≤ (nth s 0).toNat ∧ (nth s 0).toNat < 248
 ·have hl : longR (nth s 0).toNat = (4, ((nth s 0).toNat : Int) - 240) := by simp (disch := omega) [longR]
  have hd := dec_of (n := 4) (by simpa using hl) (by omega)
  refine outS_of_wp cfg (fn := Tryd.f60) Tryd.func60 rfl (by simp [Tryd.f60]) ?_
  simp (disch := first | assumption | omega | (simp; done) | (simp; omega)) [-getElem?_pos, gZ, gS, Tryd.f60, hl]
  repeat' (first | (refine wp_unroll rfl ?_) | ((first | refine wpc_split _ ?_ ?_ | refine ww_split _ ?_ ?_) <;> intro hc <;> try simp at hc) | (refine wp_drawF (by kernel_rfl) ?_) | refine wk_yldW _ ?_ | refine layOwe _ (by kernel_rfl) ?_ | refine owe ?_ (fun ho => ?_) | (simp (disch := first | assumption | omega | (simp; done) | (simp; omega)) [hl, -getElem?_pos, gZ, gS]))
  all_goals (rw [hd]; simp [conts, decV]; grind)
 ·have hl : longR (nth s 0).toNat = (0, 0) := by simp (disch := omega) [longR]
  refine outS_of_wp cfg (fn := Tryd.f60) Tryd.func60 rfl (by simp [Tryd.f60]) ?_
  simp (disch := first | assumption | omega | (simp; done) | (simp; omega)) [-getElem?_pos, gZ, gS, Tryd.f60, hl]
  repeat' (first | (refine wp_unroll rfl ?_) | ((first | refine wpc_split _ ?_ ?_ | refine ww_split _ ?_ ?_) <;> intro hc <;> try simp at hc) | (refine wp_drawF (by kernel_rfl) ?_) | refine wk_yldW _ ?_ | refine layOwe _ (by kernel_rfl) ?_ | refine owe ?_ (fun ho => ?_) | (simp (disch := first | assumption | omega | (simp; done) | (simp; omega)) [hl, -getElem?_pos, gZ, gS]))
  all_goals (simp [dec, hl])
@[simp] theorem S60 (s : List UInt8) (hs : 0 < s.length) (hh : Heap) : Ci cfg (.func (.func 60) [] []) [.str s] hh = some (.ret (.tuple [.int .i64 (dec s).1, .int .i64 (dec s).2]), hh) :=
 Ci_K cfg rfl rfl (by simp) (by simp) (C60 s hs)
end Go.Ab
namespace Go.Ab
open Go.Proofs
set_option maxRecDepth 100000
set_option maxHeartbeats 1000000
def firstF (b : Nat) : Int := if b < 128 then 240 else if b < 194 then 241 else if b < 224 then 2 else if b = 224 then 19 else if b = 237 then 35 else if b < 240 then 3
 else if b = 240 then 52 else if b < 244 then 4 else if b = 244 then 68 else 241
def firstL : List Int := (List.range 256).map firstF
def acceptL : List (Int × Int) := [(128, 191), (160, 191), (128, 159), (144, 191), (128, 143)] ++ List.replicate 11 (0, 0)
theorem globs_0 : globs 0 = some (rows eU firstL) := by
 have : dV Go.Pinned.utf8First = rows eU firstL := by kernel_rfl
 unfold globs; simp [this]
theorem globs_1 : globs 1 = some (rows eU2 acceptL) := by
 have : dV (H := Unit) Go.Proofs.YtippeibeiofmnaaDoor.Rows.laid_unicode_utf8_acceptRanges = rows eU2 acceptL := by kernel_rfl
 unfold globs; simp [this]
theorem firstL_len : firstL.length = 256 := by simp [firstL]
theorem acceptL_len : acceptL.length = 16 := by simp [acceptL]
theorem nth_first {b : Nat} (h : b < 256) : nth firstL b = firstF b := by
 unfold nth firstL; simp [h]
theorem ib_eq {n : Int} {b : UInt8} (h : 0 ≤ n ∧ n ≤ 255) : ib n = b ↔ n = b.toNat := by
 constructor
 ·intro e; rw [← e, ib_nat h]
 ·intro e; subst e; unfold ib; simp
theorem take1 {s : List UInt8} (h : 1 ≤ s.length) : s.take 1 = [nth s 0] := by
 rw [nth_take (by omega)]; simp
theorem take2 {s : List UInt8} (h : 2 ≤ s.length) : s.take 2 = [nth s 0, nth s 1] := by
 rw [nth_take (by omega), take1 (by omega)]; rfl
theorem take3 {s : List UInt8} (h : 3 ≤ s.length) : s.take 3 = [nth s 0, nth s 1, nth s 2] := by
 rw [nth_take (by omega), take2 (by omega)]; rfl
theorem take4 {s : List UInt8} (h : 4 ≤ s.length) : s.take 4 = [nth s 0, nth s 1, nth s 2, nth s 3] := by
 rw [nth_take (by omega), take3 (by omega)]; rfl
theorem enc1 {v : Int} {s : List UInt8} (h : 1 ≤ s.length) (hv : 0 ≤ v ∧ v ≤ 1114111) : encR v = s.take 1 ↔ v < 128 ∧ v = (nth s 0).toNat := by
 rw [take1 h]; unfold encR
 split
 ·simp [ib_eq (n := v) (by omega), *]
 ·split <;> (try split) <;> simp <;> omega
theorem enc2 {v : Int} {s : List UInt8} (h : 2 ≤ s.length) (hv : 0 ≤ v ∧ v ≤ 1114111) : encR v = s.take 2 ↔ (128 ≤ v ∧ v < 2048) ∧ 192 + v / 64 = (nth s 0).toNat ∧ 128 + v % 64 = (nth s 1).toNat := by
 rw [take2 h]; unfold encR
 split
 ·simp; omega
 ·split
  ·simp only [List.cons.injEq, and_true]; rw [ib_eq (by omega), ib_eq (by omega)]; omega
  ·split <;> simp <;> omega
theorem enc3 {v : Int} {s : List UInt8} (h : 3 ≤ s.length) (hv : 0 ≤ v ∧ v ≤ 1114111) : encR v = s.take 3 ↔ (2048 ≤ v ∧ v < 65536) ∧ 224 + v / 4096 = (nth s 0).toNat ∧ 128 + v / 64 % 64 = (nth s 1).toNat ∧ 128 + v % 64 = (nth s 2).toNat := by
 rw [take3 h]; unfold encR
 split
 ·simp; omega
 ·split
  ·simp; omega
  ·split
   ·simp only [List.cons.injEq, and_true]; rw [ib_eq (by omega), ib_eq (by omega), ib_eq (by omega)]; omega
   ·simp; omega
theorem enc4 {v : Int} {s : List UInt8} (h : 4 ≤ s.length) (hv : 0 ≤ v ∧ v ≤ 1114111) : encR v = s.take 4 ↔ 65536 ≤ v ∧ 240 + v / 262144 = (nth s 0).toNat ∧ 128 + v / 4096 % 64 = (nth s 1).toNat ∧ 128 + v / 64 % 64 = (nth s 2).toNat ∧ 128 + v % 64 = (nth s 3).toNat := by
 rw [take4 h]; unfold encR
 split
 ·simp; omega
 ·split
  ·simp; omega
  ·split
   ·simp; omega
   ·simp only [List.cons.injEq, and_true]; rw [ib_eq (by omega), ib_eq (by omega), ib_eq (by omega), ib_eq (by omega)]; omega
def decG (s : List UInt8) : Int × Int := if (dec s).2 = 0 then (65533, 1) else dec s
theorem dec1 {s : List UInt8} (h : 1 ≤ s.length) (h0 : (nth s 0).toNat < 128) : dec s = (((nth s 0).toNat : Int), 1) := by
 have hl : longR (nth s 0).toNat = (((1 : Nat) : Int), ((nth s 0).toNat : Int)) := by simp [longR]; omega
 rw [dec_of hl (by omega), if_pos]
 ·rfl
 ·refine ⟨h, by simp [conts], by simp [decV]; omega, (enc1 h (by simp [decV]; omega)).2 (by simp [decV]; omega)⟩
theorem dec0 {s : List UInt8} (h0 : 128 ≤ (nth s 0).toNat ∧ (nth s 0).toNat < 194 ∨ 245 ≤ (nth s 0).toNat) : dec s = (0, 0) := by
 have g1 := UInt8.toNat_lt (nth s 0)
 by_cases h1 : (nth s 0).toNat < 192 ∨ 248 ≤ (nth s 0).toNat
 ·have hl : longR (nth s 0).toNat = (0, 0) := by unfold longR; rw [if_neg (by omega), if_neg (by omega), if_neg (by omega), if_neg (by omega)]
  simp [dec, hl]
 by_cases h2 : (nth s 0).toNat < 194
 ·have hl : longR (nth s 0).toNat = (((2 : Nat) : Int), ((nth s 0).toNat : Int) - 192) := by simp (disch := omega) [longR]
  rw [dec_of hl (by omega), if_neg]
  rintro ⟨a1, a2, a3, a4⟩
  rw [point_t] at a3
  rw [enc2 a1 (by omega)] at a4
  simp [conts, decV] at a2 a4; omega
 ·have hl : longR (nth s 0).toNat = (((4 : Nat) : Int), ((nth s 0).toNat : Int) - 240) := by simp (disch := omega) [longR]
  rw [dec_of hl (by omega), if_neg]
  rintro ⟨a1, a2, a3, a4⟩
  rw [point_t] at a3
  simp [conts, decV] at a2 a3; omega
theorem dec2 {s : List UInt8} (h0 : 194 ≤ (nth s 0).toNat ∧ (nth s 0).toNat < 224) : dec s = if 2 ≤ s.length ∧ 128 ≤ (nth s 1).toNat ∧ (nth s 1).toNat < 192 then (decV s 2, 2) else (0, 0) := by
 have hl : longR (nth s 0).toNat = (((2 : Nat) : Int), ((nth s 0).toNat : Int) - 192) := by simp (disch := omega) [longR]
 rw [dec_of hl (by omega)]
 by_cases h : 2 ≤ s.length ∧ 128 ≤ (nth s 1).toNat ∧ (nth s 1).toNat < 192
 ·have hv : decV s 2 = ((nth s 0).toNat - 192) * 64 + (nth s 1).toNat - 128 := rfl
  rw [if_pos h, if_pos]
  ·rfl
  ·refine ⟨h.1, by simp [conts]; omega, by rw [point_t]; omega, (enc2 h.1 (by omega)).2 (by omega)⟩
 ·rw [if_neg h, if_neg]
  rintro ⟨a1, a2, a3, a4⟩
  simp [conts] at a2; omega
theorem dec3 {s : List UInt8} (h0 : 224 ≤ (nth s 0).toNat ∧ (nth s 0).toNat < 240) : dec s = if 3 ≤ s.length ∧ (128 ≤ (nth s 1).toNat ∧ (nth s 1).toNat < 192 ∧ ((nth s 0).toNat = 224 → 160 ≤ (nth s 1).toNat) ∧ ((nth s 0).toNat = 237 → (nth s 1).toNat < 160)) ∧ 128 ≤ (nth s 2).toNat ∧ (nth s 2).toNat < 192 then (decV s 3, 3) else (0, 0) := by
 have hl : longR (nth s 0).toNat = (((3 : Nat) : Int), ((nth s 0).toNat : Int) - 224) := by simp (disch := omega) [longR]
 rw [dec_of hl (by omega)]
 have hv : decV s 3 = (((nth s 0).toNat - 224) * 64 + (nth s 1).toNat - 128) * 64 + (nth s 2).toNat - 128 := rfl
 by_cases h : 3 ≤ s.length ∧ (128 ≤ (nth s 1).toNat ∧ (nth s 1).toNat < 192 ∧ ((nth s 0).toNat = 224 → 160 ≤ (nth s 1).toNat) ∧ ((nth s 0).toNat = 237 → (nth s 1).toNat < 160)) ∧ 128 ≤ (nth s 2).toNat ∧ (nth s 2).toNat < 192
 ·rw [if_pos h, if_pos]
  ·rfl
  ·refine ⟨h.1, by simp [conts]; omega, by rw [point_t]; omega, (enc3 h.1 (by omega)).2 (by omega)⟩
 ·rw [if_neg h, if_neg]
  rintro ⟨a1, a2, a3, a4⟩
  rw [point_t] at a3
  rw [enc3 a1 (by omega)] at a4
  simp [conts] at a2; omega
theorem dec4 {s : List UInt8} (h0 : 240 ≤ (nth s 0).toNat ∧ (nth s 0).toNat < 245) : dec s = if 4 ≤ s.length ∧ (128 ≤ (nth s 1).toNat ∧ (nth s 1).toNat < 192 ∧ ((nth s 0).toNat = 240 → 144 ≤ (nth s 1).toNat) ∧ ((nth s 0).toNat = 244 → (nth s 1).toNat < 144)) ∧ (128 ≤ (nth s 2).toNat ∧ (nth s 2).toNat < 192) ∧ 128 ≤ (nth s 3).toNat ∧ (nth s 3).toNat < 192 then (decV s 4, 4) else (0, 0) := by
 have hl : longR (nth s 0).toNat = (((4 : Nat) : Int), ((nth s 0).toNat : Int) - 240) := by simp (disch := omega) [longR]
 rw [dec_of hl (by omega)]
 have hv : decV s 4 = ((((nth s 0).toNat - 240) * 64 + (nth s 1).toNat - 128) * 64 + (nth s 2).toNat - 128) * 64 + (nth s 3).toNat - 128 := rfl
 by_cases h : 4 ≤ s.length ∧ (128 ≤ (nth s 1).toNat ∧ (nth s 1).toNat < 192 ∧ ((nth s 0).toNat = 240 → 144 ≤ (nth s 1).toNat) ∧ ((nth s 0).toNat = 244 → (nth s 1).toNat < 144)) ∧ (128 ≤ (nth s 2).toNat ∧ (nth s 2).toNat < 192) ∧ 128 ≤ (nth s 3).toNat ∧ (nth s 3).toNat < 192
 ·rw [if_pos h, if_pos]
  ·rfl
  ·refine ⟨h.1, by simp [conts]; omega, by rw [point_t]; omega, (enc4 h.1 (by omega)).2 (by omega)⟩
 ·rw [if_neg h, if_neg]
  rintro ⟨a1, a2, a3, a4⟩
  rw [point_t] at a3
  rw [enc4 a1 (by omega)] at a4
  simp [conts] at a2; omega
end Go.Ab
namespace Go.Ab
open Go.Proofs Go.Proofs.YtippeibeiofmnaaDoor
set_option maxRecDepth 100000
theorem bulk_one {H : Type} (d : DataW H) : 1 ≤ Rows.uptoBulk d := by
 cases d with
 | lit l => cases l <;> simp [Rows.uptoBulk]
 | nil => simp [Rows.uptoBulk]
 | ptr d => simp [Rows.uptoBulk]
 | slice elems spare => simp [Rows.uptoBulk]
 | agg parts => simp [Rows.uptoBulk]
 | iface t d => simp [Rows.uptoBulk]
 | map entries => simp [Rows.uptoBulk]
 | held h => simp [Rows.uptoBulk]
theorem bulk_all {H : Type} : ∀ l : List (DataW H), Rows.uptoBulkAll l = (l.map Rows.uptoBulk).sum
 | [] => rfl
 | x :: r => by simp only [Rows.uptoBulkAll, List.map_cons, List.sum_cons, bulk_all r]
theorem bulk_ok {H : Type} : BkOk (Rows.uptoBulk (H := H)) where
 one := bulk_one
 str s := by simp [Rows.uptoBulk]
 slice e s := by simp only [Rows.uptoBulk, bulk_all]; omega
 agg p := by simp only [Rows.uptoBulk, bulk_all]; omega
def laidL : List (String × DataW Unit) := [("unicode/utf8.acceptRanges", Rows.laid_unicode_utf8_acceptRanges), ("unicode/utf8.first", Rows.laid_unicode_utf8_first)]
theorem globs_laid {W : World} (h : laidMetH Tryd.prog laidL W) : ∀ i cs, globs i = some cs → RepC (gOf W) cs i 0 := by
 have e : (laidL.filter fun x => x.2.handleName?.isSome) = [] := by kernel_rfl
 unfold laidMetH at h
 rw [e] at h
 obtain ⟨ps, h1, _, _⟩ := h
 intro i cs hi
 unfold globs at hi
 split at hi
 ·rename_i h0
  subst h0
  simp only [Option.some.injEq] at hi
  subst hi
  exact laid_dV h1 (n := "unicode/utf8.first") (by simp [laidL]; rfl) (by kernel_rfl) (t := 110) (by kernel_rfl) (k := 5) (by kernel_rfl)
 ·split at hi
  ·rename_i h0
   subst h0
   simp only [Option.some.injEq] at hi
   subst hi
   exact laid_dV h1 (n := "unicode/utf8.acceptRanges") (by simp [laidL]) (by kernel_rfl) (t := 114) (by kernel_rfl) (k := 5) (by kernel_rfl)
  ·cases hi
noncomputable def laidWorld (os : Os) : World :=
 { World.holding Tryd.prog os ⟨#[], #[], []⟩ with
  heap := (((World.holding Tryd.prog os ⟨#[], #[], []⟩).heap.modify 0 (fun
   | .cells _ t frozen => .cells ((List.range 256).map fun b => Value.int .u8 (firstF b)).toArray t frozen
   | o => o)).modify 1 (fun
   | .cells _ t frozen => .cells (acceptL.flatMap fun x => [Value.int .u8 x.1, Value.int .u8 x.2]).toArray t frozen
   | o => o)) }
end Go.Ab
namespace Go.Ab
open Go.Proofs Go.Proofs.YtippeibeiofmnaaDoor
set_option maxRecDepth 100000
theorem rd_string : Reads Tryd.prog 9 (fun _ : List UInt8 => True) (fun s => [.str s]) (fun s => s.length) := reads_string Tryd.underlying9 (by kernel_rfl)
theorem rd_int : Reads Tryd.prog 3 (fun n : Int => (Lit.int .i64 n).wf = true) (fun n => [.int .i64 n]) (fun _ => 0) := reads_int Tryd.underlying3 (by kernel_rfl)
theorem rd_ints : Reads Tryd.prog 25 (fun l : List Int => ∀ y ∈ l, (Lit.int .i64 y).wf = true) (fun l => [R fl0 eI l]) (fun l => (l.map fun _ => 0 + 1).sum) := reads_slice Tryd.underlying25 (by kernel_rfl) (by rw [show Tryd.prog.cellsOf 3 = 1 by kernel_rfl]; decide) rd_int
theorem rd_u8 : Reads Tryd.prog 5 (fun n : Int => (Lit.int .u8 n).wf = true) (fun n => [.int .u8 n]) (fun _ => 0) := reads_int Tryd.underlying5 (by kernel_rfl)
theorem rd_u8s : Reads Tryd.prog 36 (fun l : List Int => ∀ y ∈ l, (Lit.int .u8 y).wf = true) (fun l => [R fl0 eU l]) (fun l => (l.map fun _ => 0 + 1).sum) := reads_slice Tryd.underlying36 (by kernel_rfl) (by rw [show Tryd.prog.cellsOf 5 = 1 by kernel_rfl]; decide) rd_u8
theorem sum_one {α : Type} (l : List α) : (l.map fun _ => 1).sum = l.length := by
 induction l with
 | nil => rfl
 | cons x l ih => simp only [List.map_cons, List.sum_cons, ih, List.length_cons]; omega
theorem sum_mem {α : Type} {f : α → Nat} {l : List α} {x : α} (h : x ∈ l) : f x ≤ (l.map f).sum := by
 induction l with
 | nil => cases h
 | cons y l ih =>
  simp only [List.map_cons, List.sum_cons]
  rcases List.mem_cons.1 h with rfl | h
  ·omega
  ·have := ih h; omega
theorem sum_len {α : Type} {f : α → Nat} (l : List α) : l.length ≤ (l.map fun x => f x + 1).sum := by
 induction l with
 | nil => simp
 | cons y l ih => simp only [List.map_cons, List.sum_cons, List.length_cons]; omega
theorem u8_of {n : Int} (h : (Lit.int .u8 n).wf = true) : 0 ≤ n ∧ n ≤ 255 := by
 simp only [Lit.wf, Bool.and_eq_true, decide_eq_true_eq] at h
 have h1 : IntKind.u8.min = 0 := by decide
 have h2 : IntKind.u8.max = 255 := by decide
 omega
theorem i64_of {n : Int} (h : (Lit.int .i64 n).wf = true) : -9223372036854775808 ≤ n ∧ n ≤ 9223372036854775807 := by
 simp only [Lit.wf, Bool.and_eq_true, decide_eq_true_eq] at h
 have h1 : IntKind.i64.min = -9223372036854775808 := by decide
 have h2 : IntKind.i64.max = 9223372036854775807 := by decide
 omega
end Go.Ab
namespace Go.Proofs.YtippeibeiofmnaaDoor
open Go Go.Ab
theorem own : ownKnob Tryd.prog.godebug = none := by kernel_rfl
end Go.Proofs.YtippeibeiofmnaaDoor
