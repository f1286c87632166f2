/- A part of the proof. -/
import Derived.Test.YtlmhbemgaikmaaaGreatDoorGr5
import Derived.Test.YtlmhbemgaikmaaaGreatDoorGr6
set_option linter.unusedVariables false
set_option linter.unusedSimpArgs false
set_option linter.unusedSectionVars false
set_option linter.deprecated false
namespace Go.Ab
open Go.Proofs
set_option maxRecDepth 100000
set_option maxHeartbeats 4000000
theorem fold_b1 (a b : Bool) (tok : Option Nat) {x : Int} (h : 0 ≤ x ∧ x ≤ 255) : V.row a b [.int .u8 x] 1 tok = R (a, b, tok) eB [ib x] := by
 simp [R, eB, ib_nat h]
theorem fold_b2 (a b : Bool) (tok : Option Nat) {x y : Int} (h : (0 ≤ x ∧ x ≤ 255) ∧ 0 ≤ y ∧ y ≤ 255) : V.row a b [.int .u8 x, .int .u8 y] 2 tok = R (a, b, tok) eB [ib x, ib y] := by
 simp [R, eB, ib_nat h.1, ib_nat h.2]
theorem fold_b3 (a b : Bool) (tok : Option Nat) {x y z : Int} (h : (0 ≤ x ∧ x ≤ 255) ∧ (0 ≤ y ∧ y ≤ 255) ∧ 0 ≤ z ∧ z ≤ 255) : V.row a b [.int .u8 x, .int .u8 y, .int .u8 z] 3 tok = R (a, b, tok) eB [ib x, ib y, ib z] := by
 simp [R, eB, ib_nat h.1, ib_nat h.2.1, ib_nat h.2.2]
theorem fold_b4 (a b : Bool) (tok : Option Nat) {x y z w : Int} (h : (0 ≤ x ∧ x ≤ 255) ∧ (0 ≤ y ∧ y ≤ 255) ∧ (0 ≤ z ∧ z ≤ 255) ∧ 0 ≤ w ∧ w ≤ 255) : V.row a b [.int .u8 x, .int .u8 y, .int .u8 z, .int .u8 w] 4 tok = R (a, b, tok) eB [ib x, ib y, ib z, ib w] := by
 simp [R, eB, ib_nat h.1, ib_nat h.2.1, ib_nat h.2.2.1, ib_nat h.2.2.2]
theorem ishr_6 {x : Int} (h : 0 ≤ x) : ishr .i32 x 6 = x / 64 := by
 unfold ishr; rw [show (2 : Int) ^ min (6 : Int).toNat IntKind.i32.bits = 64 by decide, Int.fdiv_eq_ediv_of_nonneg _ (by omega)]
theorem ishr_12 {x : Int} (h : 0 ≤ x) : ishr .i32 x 12 = x / 4096 := by
 unfold ishr; rw [show (2 : Int) ^ min (12 : Int).toNat IntKind.i32.bits = 4096 by decide, Int.fdiv_eq_ediv_of_nonneg _ (by omega)]
theorem ishr_18 {x : Int} (h : 0 ≤ x) : ishr .i32 x 18 = x / 262144 := by
 unfold ishr; rw [show (2 : Int) ^ min (18 : Int).toNat IntKind.i32.bits = 262144 by decide, Int.fdiv_eq_ediv_of_nonneg _ (by omega)]
theorem wrapu8 (n : Int) : IntKind.u8.wrap n = n % 256 := IntKind.wrap_u8 n
theorem ior8_low (j : Nat) {x y : Int} (hj : j ≤ 7) (hx : 0 ≤ x ∧ x ≤ 255) (hm : x % 2 ^ j = 0) (hy : 0 ≤ y) (hy2 : y < 2 ^ j) : ior .u8 x y = x + y := by
 obtain ⟨n, rfl⟩ := Int.eq_ofNat_of_zero_le hx.1
 obtain ⟨m, rfl⟩ := Int.eq_ofNat_of_zero_le hy
 have hb : (2 : Nat) ^ IntKind.u8.bits = 256 := by decide
 have hp : (2 : Nat) ^ j ≤ 128 := by
  have := Nat.pow_le_pow_right (n := 2) (by omega) hj
  simpa using this
 have hm' : n % 2 ^ j = 0 := by
  have : ((n % 2 ^ j : Nat) : Int) = 0 := by simpa using hm
  omega
 have hy' : m < 2 ^ j := by
  have : ((m : Nat) : Int) < ((2 ^ j : Nat) : Int) := by simpa using hy2
  omega
 have h1 : (BitVec.ofInt IntKind.u8.bits (n : Int)).toNat = n := by
  rw [BitVec.ofInt_natCast, BitVec.toNat_ofNat, hb]
  exact Nat.mod_eq_of_lt (by omega)
 have h2 : (BitVec.ofInt IntKind.u8.bits (m : Int)).toNat = m := by
  rw [BitVec.ofInt_natCast, BitVec.toNat_ofNat, hb]
  exact Nat.mod_eq_of_lt (by omega)
 have h3 : n = 2 ^ j * (n / 2 ^ j) := by have := Nat.div_add_mod n (2 ^ j); omega
 unfold ior
 rw [BitVec.toNat_or, h1, h2]
 have h4 : n ||| m = n + m := by
  have := Nat.two_pow_add_eq_or_of_lt hy' (n / 2 ^ j)
  rw [← h3] at this
  exact this.symm
 have h5 : n ||| m < 2 ^ 8 := Nat.or_lt_two_pow (by omega) (by omega)
 rw [h4] at h5
 rw [h4]
 exact IntWalk.u8_in _ (by omega)
theorem ior192 {y : Int} (h : 0 ≤ y ∧ y < 64) : ior .u8 192 y = 192 + y := ior8_low 6 (by omega) (by omega) (by decide) h.1 h.2
theorem ior128 {y : Int} (h : 0 ≤ y ∧ y < 128) : ior .u8 128 y = 128 + y := ior8_low 7 (by omega) (by omega) (by decide) h.1 h.2
theorem ior224 {y : Int} (h : 0 ≤ y ∧ y < 32) : ior .u8 224 y = 224 + y := ior8_low 5 (by omega) (by omega) (by decide) h.1 h.2
theorem ior240 {y : Int} (h : 0 ≤ y ∧ y < 16) : ior .u8 240 y = 240 + y := ior8_low 4 (by omega) (by omega) (by decide) h.1 h.2
theorem m256_64 (r : Int) : r % 256 % 64 = r % 64 := by omega
@[simp] theorem SAppendRune (r : Int) (b : List UInt8) (fl : Fl) (h : Heap) (hr : point r = true) (ha : App h.ts 1 fl) (hb : b.length ≤ 2000000) :
  Ci cfg (.func (.func 156) [] []) [R fl eB b, .int .i32 r] h = some (.ret (R (false, false, some h.ts.length) eB (b ++ encR r)), bump h fl.2.2 1) := by
 rw [point_t] at hr
 refine Ci_fun_wp (fn := Tryz.f156) rfl Tryz.func156 rfl (by simp [Tryz.f156]) ?_
 by_cases h1 : r < 128
 ·have he : encR r = [ib r] := by unfold encR; rw [if_pos h1]
  simp (disch := first|exact DD|fail) [-getElem?_pos, gZ, gS, Tryz.f156, fold_b1, he]
 by_cases h2 : r < 2048
 ·have he : encR r = [ib (192 + r / 64), ib (128 + r % 64)] := by unfold encR; rw [if_neg h1, if_pos h2]
  simp (disch := first|exact DD|fail) [-getElem?_pos, gZ, gS, Tryz.f156, Tryz.f157, fold_b2, he, ishr_6, wrapu8, iand_63, m256_64, ior192, ior128, append_Rn]
 by_cases h3 : r < 65536
 ·have he : encR r = [ib (224 + r / 4096), ib (128 + r / 64 % 64), ib (128 + r % 64)] := by unfold encR; rw [if_neg h1, if_neg h2, if_pos h3]
  have h4 : r < 55296 ∨ 57343 < r := hr.2.2
  rcases h4 with h4 | h4
  ·simp (disch := first|exact DD|fail) [-getElem?_pos, gZ, gS, Tryz.f156, Tryz.f157, fold_b3, he, ishr_6, ishr_12, wrapu8, iand_63, m256_64, ior224, ior128, append_Rn]
  ·simp (disch := first|exact DD|fail) [-getElem?_pos, gZ, gS, Tryz.f156, Tryz.f157, fold_b3, he, ishr_6, ishr_12, wrapu8, iand_63, m256_64, ior224, ior128, append_Rn]
 ·have he : encR r = [ib (240 + r / 262144), ib (128 + r / 4096 % 64), ib (128 + r / 64 % 64), ib (128 + r % 64)] := by unfold encR; rw [if_neg h1, if_neg h2, if_neg h3]
  simp (disch := first|exact DD|fail) [-getElem?_pos, gZ, gS, Tryz.f156, Tryz.f157, fold_b4, he, ishr_6, ishr_12, ishr_18, wrapu8, iand_63, m256_64, ior240, ior128, append_Rn]
def joinedV (tok : Nat) (l : List Int) : V := if 4096 < (encAll l).length then .row true true [] 0 none else R (false, false, some tok) eB (encAll l)
theorem App.ext {ts : List (Option Nat)} {sz : Nat} {fl : Fl} (X : List (Option Nat)) (ha : App ts sz fl) : App (ts ++ X) sz fl := by
 rcases ha.ok with h | ⟨k, h1, h2⟩
 ·exact ⟨.inl h⟩
 ·exact ⟨.inr ⟨k, h1, by rw [List.getElem?_append_left (List.getElem?_eq_some_iff.1 h2).1, h2]⟩⟩
theorem ts_next (a X : List (Option Nat)) : bumpT (a ++ X ++ [some 1]) (some (a.length + X.length)) 1 = a ++ (X ++ [none]) ++ [some 1] := by
 unfold bumpT
 simp only
 rw [List.set_append_right _ _ (by simp)]
 simp
theorem App.tail (a X : List (Option Nat)) : App (a ++ X ++ [some 1]) 1 (false, false, some (a.length + X.length)) := by
 refine ⟨.inr ⟨_, rfl, ?_⟩⟩
 rw [List.getElem?_append_right (by simp)]
 simp
theorem Jjoined {k : CC} {K : List Fr} {Q : Ax → St → Prop} (l : List Int) (q : Fl) (hh : Heap) (hl : l.length ≤ 4294967296) (hp : l.all point = true)
  (H : ∀ X tok, wk cfg k K Q (some (.ret (joinedV tok l), ⟨hh.bs, hh.ts ++ X⟩))) : wk cfg k K Q (Ci cfg (.func (.func 152) [] []) [R q eI l] hh) := by
 repeat' (first|((first|refine wA ?_ ?_|refine wB ?_ ?_)<;>intro hc<;>try simp at hc)|refine wF ?_|refine wY ?_|refine wL ?_|refine owe ?_ fun ho=>?_|(simp (disch := first|exact DD|fail) [Tryz.f152, -getElem?_pos, gZ, gS]))
 refine wp_loopE cfg rfl (fun f0 h0 m fr h => ∃ i : Nat, ∃ X : List (Option Nat), fr 9 = f0 9 ∧ fr 10 = f0 10 ∧ fr 11 = .int .i64 i ∧ fr 3 = R (false, false, some (hh.ts.length + X.length)) eB (encAll (l.take i)) ∧ (h.bs = hh.bs) ∧ (h.ts = hh.ts ++ X ++ [some 1]) ∧ (i + m = l.length) ∧ ((encAll (l.take i)).length ≤ 4096)) (l.length) _ _ ⟨0, [], rfl, rfl, by first | rfl | (simp; done) | (simp [R]; done) | simp [R], by first | rfl | (simp; done) | (simp [R]; done) | simp [R], by first | rfl | (simp; done) | omega, by first | rfl | (simp; done) | omega, by first | rfl | (simp; done) | omega, by first | rfl | (simp; done) | omega⟩ ?_
 rintro Am Af Ah ⟨i, X, A9, A10, A11, A3, hb, hts, hm, hle⟩ Aih
 try simp at A9 A10
 have hA : App Ah.ts 1 (false, false, some (hh.ts.length + X.length)) := by rw [hts]; exact App.tail _ _
 have hle2 := encAll_take_le l i
 have hle3 := encAll_take_le l (i + 1)
 by_cases hi : i < l.length
 ·have hpt : point (nth l i) = true := by rw [List.all_eq_true] at hp; exact hp _ (nth_mem hi)
  have hp2 := hpt
  rw [point_t] at hp2
  have hel := encR_len (nth l i)
  have hen := congrArg List.length (encAll_take hi)
  rw [List.length_append] at hen
  repeat' (first|((first|refine wA ?_ ?_|refine wB ?_ ?_)<;>intro hc<;>try simp at hc)|refine wF ?_|refine wY ?_|refine wL ?_|refine owe ?_ fun ho=>?_|(simp (disch := first|exact DD|fail) [A9, A10, A11, A3, eI, hpt, hA, -getElem?_pos, gZ, gS]))
  ·have hj : joinedV 0 l = .row true true [] 0 none := by unfold joinedV; rw [if_pos (by omega)]
   have := H (X ++ [none] ++ [some 1]) 0
   rw [hj] at this
   rw [hb, hts, ts_next]
   simpa using this
  ·exact Aih (Am - 1) _ _ (by omega) ⟨i + 1, X ++ [none], by simp [A9, A10, A11, A3, encAll_take hi, hts, Nat.add_assoc], by simp [A9, A10, A11, A3, encAll_take hi, hts, Nat.add_assoc], by simp [A9, A10, A11, A3, encAll_take hi, hts, Nat.add_assoc], by simp [A9, A10, A11, A3, encAll_take hi, hts, Nat.add_assoc], by simp [hb], by simp only; rw [hts]; exact ts_next _ _, by omega, by omega⟩
 ·have he : encAll (l.take i) = encAll l := by rw [List.take_of_length_le (by omega)]
  rw [he] at hle
  repeat' (first|((first|refine wA ?_ ?_|refine wB ?_ ?_)<;>intro hc<;>try simp at hc)|refine wF ?_|refine wY ?_|refine wL ?_|refine owe ?_ fun ho=>?_|(simp (disch := first|exact DD|fail) [A9, A10, A11, A3, -getElem?_pos, gZ, gS]))
  have hj : joinedV (hh.ts.length + X.length) l = R (false, false, some (hh.ts.length + X.length)) eB (encAll l) := by unfold joinedV; rw [if_neg (by omega)]
  have := H (X ++ [some 1]) (hh.ts.length + X.length)
  rw [hj] at this
  obtain ⟨bs, ts⟩ := Ah
  simp only at hb hts
  subst hb hts
  rw [he]
  simpa using this
theorem eqV_jn {P : Program} {t : TypeId} {b : Bool} {tok : Nat} {s : List UInt8} (h : slcD (P.underlying t) = true) : eqV P b t (R (false, false, some tok) eB s) (.row true true [] 0 none) = some false := by
 unfold R
 rw [eqV_rn h]
 simp
theorem eqV_nn {P : Program} {t : TypeId} {b f : Bool} (h : slcD (P.underlying t) = true) : eqV P b t (.row true f [] 0 none) (.row true true [] 0 none) = some true := by
 rw [eqV_rn h]; rfl
theorem C148 (l : List Int) (hs : l.length ≤ 4294967296) : Kc cfg 148 [R fl0 eI l] (.ret (.tuple [.str (joinG l).1, .int .i64 (joinG l).2])) := by
 refine outS_of_wp cfg (fn := Tryz.f148) Tryz.func148 rfl (by simp [Tryz.f148]) ?_
 simp (disch := first|exact DD|fail) [-getElem?_pos, gZ, gS, Tryz.f148]
 refine wp_loopE cfg rfl (fun f0 h0 m fr h => ∃ i : Nat, fr 0 = f0 0 ∧ fr 7 = f0 7 ∧ fr 8 = f0 8 ∧ fr 9 = .int .i64 i ∧ (i + m = l.length) ∧ ((l.take i).all point = true)) (l.length) _ _ ⟨0, rfl, rfl, rfl, by first | rfl | (simp; done) | (simp [R]; done) | simp [R], by first | rfl | (simp; done) | omega, by first | rfl | (simp; done) | omega⟩ ?_
 rintro Am Af Ah ⟨i, A0, A7, A8, A9, hm, ht⟩ Aih
 try simp at A0 A7 A8
 by_cases hi : i < l.length
 ·by_cases hp : point (nth l i) = true
  ·repeat' (first|((first|refine wA ?_ ?_|refine wB ?_ ?_)<;>intro hc<;>try simp at hc)|refine wF ?_|refine wY ?_|refine wL ?_|refine owe ?_ fun ho=>?_|(simp (disch := first|exact DD|fail) [A0, A7, A8, A9, eI, hp, -getElem?_pos, gZ, gS]))
   exact Aih (Am - 1) _ _ (by omega) ⟨i + 1, by simp [A0, A7, A8, A9], by simp [A0, A7, A8, A9], by simp [A0, A7, A8, A9], by simp [A0, A7, A8, A9], by omega, all_take_next hi ht hp⟩
  ·have hp : point (nth l i) = false := by simpa using hp
   have hj : joinG l = ([], 90) := by unfold joinG; rw [all_nth_false hi hp]; rfl
   repeat' (first|((first|refine wA ?_ ?_|refine wB ?_ ?_)<;>intro hc<;>try simp at hc)|refine wF ?_|refine wY ?_|refine wL ?_|refine owe ?_ fun ho=>?_|(simp (disch := first|exact DD|fail) [A0, A7, A8, A9, eI, hp, -getElem?_pos, gZ, gS]))
   rw [hj]; exact ⟨rfl, rfl⟩
 ·rw [List.take_of_length_le (by omega)] at ht
  repeat' (first|((first|refine wA ?_ ?_|refine wB ?_ ?_)<;>intro hc<;>try simp at hc)|refine wF ?_|refine wY ?_|refine wL ?_|refine owe ?_ fun ho=>?_|(simp (disch := first|exact DD|fail) [A0, A7, A8, A9, -I152, -getElem?_pos, gZ, gS]))
  refine Jjoined l _ _ hs ht (fun X tok => ?_)
  by_cases h4 : 4096 < (encAll l).length
  ·have hj : joinG l = ([], 2) := by unfold joinG; rw [ht, if_pos rfl, if_pos h4]
   have hv : joinedV tok l = .row true true [] 0 none := by unfold joinedV; rw [if_pos h4]
   rw [hv, hj]
   repeat' (first|((first|refine wA ?_ ?_|refine wB ?_ ?_)<;>intro hc<;>try simp at hc)|refine wF ?_|refine wY ?_|refine wL ?_|refine owe ?_ fun ho=>?_|(simp (disch := first|exact DD|fail) [eqV_nn, -getElem?_pos, gZ, gS]))
  ·have hj : joinG l = (encAll l, 0) := by unfold joinG; rw [ht, if_pos rfl, if_neg h4]
   have hv : joinedV tok l = R (false, false, some tok) eB (encAll l) := by unfold joinedV; rw [if_neg h4]
   rw [hv, hj]
   repeat' (first|((first|refine wA ?_ ?_|refine wB ?_ ?_)<;>intro hc<;>try simp at hc)|refine wF ?_|refine wY ?_|refine wL ?_|refine owe ?_ fun ho=>?_|(simp (disch := first|exact DD|fail) [eqV_jn, -getElem?_pos, gZ, gS]))
@[simp] theorem S148 (l : List Int) (hs : l.length ≤ 4294967296) (q1 : Fl) (hh : Heap) : Ci cfg (.func (.func 148) [] []) [R  q1 eI l] hh = some (.ret (.tuple [.str (joinG l).1, .int .i64 (joinG l).2]), hh) :=
 Ci_K cfg rfl rfl (by simp) (by simp) (C148 l hs)
end Go.Ab
namespace Go.Ab
open Go.Proofs
set_option maxRecDepth 100000
set_option maxHeartbeats 4000000
def splitW : List Int → List Int → List (List Int)
 | w, [] => if w = [] then [] else [w]
 | w, c :: r => if spaceR c then (if w = [] then splitW [] r else w :: splitW [] r) else splitW (w ++ [c]) r
def splitG (s : List UInt8) : List (List UInt8) × Int := if (runesG s).2 = 0 then ((splitW [] (runesG s).1).map encAll, 0) else ([], (runesG s).2)
theorem runes_enc : ∀ (n : Nat) (s : List UInt8) (l : List Int), s.length ≤ n → runes s = some l → encAll l = s ∧ l.all point = true := by
 intro n
 induction n with
 | zero =>
  intro s l hn h
  have : s = [] := List.eq_nil_of_length_eq_zero (by omega)
  subst this
  rw [runes_nil] at h
  simp at h
  subst h; simp
 | succ n ih =>
  intro s l hn h
  by_cases h0 : s.length = 0
  ·have : s = [] := List.eq_nil_of_length_eq_zero h0
   subst this
   rw [runes_nil] at h
   simp at h
   subst h; simp
  by_cases hz : (dec s).2 = 0
  ·rw [runes_bad (by omega) hz] at h; cases h
  ·rw [runes_step (by omega) hz] at h
   obtain ⟨l', h1, rfl⟩ := Option.map_eq_some_iff.1 h
   have hb := dec_bound s
   obtain ⟨d1, d2, d3⟩ := dec_len hz
   have := ih _ _ (by simp only [List.length_drop]; omega) h1
   refine ⟨?_, by simp [d1, this.2]⟩
   rw [encAll_cons, this.1, d3, List.take_append_drop]
theorem runes_enc' {s : List UInt8} {l : List Int} (h : runes s = some l) : encAll l = s ∧ l.all point = true := runes_enc _ s l (Nat.le_refl _) h
theorem runesG_all {s : List UInt8} (h : (runesG s).2 = 0) : s.length ≤ 4096 ∧ runes s = some (runesG s).1 := by
 unfold runesG at h ⊢
 split at h
 ·simp at h
 ·rename_i h1
  rw [if_neg h1]
  cases hr : runes s with
  | none => rw [hr] at h; simp at h
  | some l => exact ⟨by omega, rfl⟩
@[simp] theorem Sspace (r : Int) (h : Heap) : Ci cfg (.func (.func 100) [] []) [.int .i64 r] h = some (.ret (.bool (spaceR r)), h) := by
 refine Ci_fun_wp (fn := Tryz.f100) rfl Tryz.func100 rfl (by simp [Tryz.f100]) ?_
 simp (disch := first|exact DD|fail) [-getElem?_pos, gZ, gS, Tryz.f100]
 repeat' (first|((first|refine wA ?_ ?_|refine wB ?_ ?_)<;>intro hc<;>try simp at hc)|refine wF ?_|refine wY ?_|refine wL ?_|refine owe ?_ fun ho=>?_|(simp (disch := first|exact DD|fail) [-getElem?_pos, gZ, gS]))
 all_goals grind [spaceR]
end Go.Ab
namespace Go.Ab
open Go.Proofs
set_option maxRecDepth 100000
set_option maxHeartbeats 4000000
theorem C128 (n : Int) : Kc cfg 128 [.int .i64 n] (.ret (.bool (dotB n))) := by
 have hd : dotB n = (decide (0 ≤ n) && decide (n ≤ 63)) := by unfold dotB; exact Bool.decide_and ..
 rw [hd]
 by_cases h : 0 ≤ n
 ·rw [decide_eq_true h]
  refine outS_of_wp cfg (fn := Tryz.f128) Tryz.func128 rfl (by simp [Tryz.f128]) ?_
  simp (disch := first|exact DD|fail) [-getElem?_pos, gZ, gS, Tryz.f128, h]
  repeat' (first|((first|refine wA ?_ ?_|refine wB ?_ ?_)<;>intro hc<;>try simp at hc)|refine wF ?_|refine wY ?_|refine wL ?_|refine owe ?_ fun ho=>?_|(simp (disch := first|exact DD|fail) [h, -getElem?_pos, gZ, gS]))
 ·rw [decide_eq_false h]
  refine outS_of_wp cfg (fn := Tryz.f128) Tryz.func128 rfl (by simp [Tryz.f128]) ?_
  simp (disch := first|exact DD|fail) [-getElem?_pos, gZ, gS, Tryz.f128, h]
  repeat' (first|((first|refine wA ?_ ?_|refine wB ?_ ?_)<;>intro hc<;>try simp at hc)|refine wF ?_|refine wY ?_|refine wL ?_|refine owe ?_ fun ho=>?_|(simp (disch := first|exact DD|fail) [h, -getElem?_pos, gZ, gS]))
@[simp] theorem S128 (n : Int) (hh : Heap) : Ci cfg (.func (.func 128) [] []) [.int .i64 n] hh = some (.ret (.bool (dotB n)), hh) :=
 Ci_K cfg rfl rfl (by simp) (by simp) (C128 n)
theorem C127 (l : List Int) (hs : l.length < 1099511627776) : Kc cfg 127 [R fl0 eI l, .func (.func 128) [] []] (.ret (.bool (dotsL l))) := by
 have hf := fun j => dotsL_f (l := l) (j := j)
 have ht := dotsL_t (l := l)
 generalize hF : dotsL l = F at *
 refine outS_of_wp cfg (fn := Tryz.f127) Tryz.func127 rfl (by simp [Tryz.f127]) ?_
 simp (disch := first|exact DD|fail) [-getElem?_pos, gZ, gS, Tryz.f127, emptyH]
 repeat' (first|((first|refine wA ?_ ?_|refine wB ?_ ?_)<;>intro hc<;>try simp at hc)|refine wF ?_|refine wY ?_|refine wL ?_|refine owe ?_ fun ho=>?_|(simp (disch := first|exact DD|fail) [emptyH, Tryz.f59, Tryz.f87, Tryz.f132, -getElem?_pos, gZ, gS]))
 refine wp_loopE cfg rfl (fun f0 h0 m fr h => ∃ i : Nat, fr 0 = f0 0 ∧ fr 1 = f0 1 ∧ fr 6 = f0 6 ∧ fr 7 = f0 7 ∧ fr 8 = .int .i64 i ∧ h.bs = h0.bs ∧ (i + m = l.length) ∧ (∀ j, j < i → dotB (nth l j) = true)) (l.length) _ _ ⟨0, rfl, rfl, rfl, rfl, by first | rfl | (simp; done) | (simp [R]; done) | simp [R], rfl, by first | rfl | (simp; done) | omega, fun j hj => by omega⟩ ?_
 rintro Am Af Ah ⟨i, A0, A1, A6, A7, A8, Abs, hm, hx⟩ Aih
 try simp at A0 A1 A6 A7 Abs
 by_cases hi : i < l.length
 ·cases hd : dotB (nth l i) with
  | true =>
   repeat' (first|((first|refine wA ?_ ?_|refine wB ?_ ?_)<;>intro hc<;>try simp at hc)|refine wF ?_|refine wY ?_|refine wL ?_|refine owe ?_ fun ho=>?_|(simp (disch := first|exact DD|fail) [A0, A1, A6, A7, A8, Abs, hd, eI, Abs, Tryz.f132, -getElem?_pos, gZ, gS]))
   exact Aih (Am - 1) _ _ (by omega) ⟨i + 1, by simp [A0, A1, A6, A7, A8, Abs], by simp [A0, A1, A6, A7, A8, Abs], by simp [A0, A1, A6, A7, A8, Abs], by simp [A0, A1, A6, A7, A8, Abs], by simp [A0, A1, A6, A7, A8, Abs], by simp [A0, A1, A6, A7, A8, Abs], by omega, fun j hj => by (by_cases e : j = i; (subst e; exact hd); exact hx j (by omega))⟩
  | false =>
   have h2 := hf i hi hd
   repeat' (first|((first|refine wA ?_ ?_|refine wB ?_ ?_)<;>intro hc<;>try simp at hc)|refine wF ?_|refine wY ?_|refine wL ?_|refine owe ?_ fun ho=>?_|(simp (disch := first|exact DD|fail) [A0, A1, A6, A7, A8, Abs, hd, eI, Abs, Tryz.f132, -getElem?_pos, gZ, gS]))
   exact h2
 ·have h2 := ht (fun j hj => hx j (by omega))
  repeat' (first|((first|refine wA ?_ ?_|refine wB ?_ ?_)<;>intro hc<;>try simp at hc)|refine wF ?_|refine wY ?_|refine wL ?_|refine owe ?_ fun ho=>?_|(simp (disch := first|exact DD|fail) [A0, A1, A6, A7, A8, Abs, -getElem?_pos, gZ, gS]))
  exact h2
@[simp] theorem S127 (l : List Int) (hs : l.length < 1099511627776) (q1 : Fl) (hh : Heap) : Ci cfg (.func (.func 127) [] []) [R  q1 eI l, .func (.func 128) [] []] hh = some (.ret (.bool (dotsL l)), hh) :=
 Ci_K cfg rfl rfl (by simp) (by simp) (C127 l hs)
def preZ (p s : Wd) : Bool := decide (p <+: s)
theorem preZ_short {p s : Wd} (h : p.length ≤ s.length) : preZ p s = (s.take p.length == p) := by
 unfold preZ
 rw [Bool.eq_iff_iff, decide_eq_true_eq, beq_iff_eq, List.prefix_iff_eq_take]
 exact ⟨fun e => e.symm, fun e => e.symm⟩
theorem preZ_long {p s : Wd} (h : ¬ p.length ≤ s.length) : preZ p s = false := by
 unfold preZ
 rw [decide_eq_false_iff_not]
 exact fun e => h e.length_le
theorem C134 (s p : List UInt8) (hs : s.length < 1099511627776) (hp : p.length < 1099511627776) : Kc cfg 134 [.str s, .str p] (.ret (.bool (preZ p s))) := by
 by_cases h : p.length ≤ s.length
 ·rw [preZ_short h]
  refine outS_of_wp cfg (fn := Tryz.f134) Tryz.func134 rfl (by simp [Tryz.f134]) ?_
  simp (disch := first|exact DD|fail) [-getElem?_pos, gZ, gS, Tryz.f134, h]
  repeat' (first|((first|refine wA ?_ ?_|refine wB ?_ ?_)<;>intro hc<;>try simp at hc)|refine wF ?_|refine wY ?_|refine wL ?_|refine owe ?_ fun ho=>?_|(simp (disch := first|exact DD|fail) [h, -getElem?_pos, gZ, gS]))
 ·rw [preZ_long h]
  refine outS_of_wp cfg (fn := Tryz.f134) Tryz.func134 rfl (by simp [Tryz.f134]) ?_
  simp (disch := first|exact DD|fail) [-getElem?_pos, gZ, gS, Tryz.f134, h]
  repeat' (first|((first|refine wA ?_ ?_|refine wB ?_ ?_)<;>intro hc<;>try simp at hc)|refine wF ?_|refine wY ?_|refine wL ?_|refine owe ?_ fun ho=>?_|(simp (disch := first|exact DD|fail) [h, -getElem?_pos, gZ, gS]))
@[simp] theorem S134 (s p : List UInt8) (hs : s.length < 1099511627776) (hp : p.length < 1099511627776) (hh : Heap) : Ci cfg (.func (.func 134) [] []) [.str s, .str p] hh = some (.ret (.bool (preZ p s)), hh) :=
 Ci_K cfg rfl rfl (by simp) (by simp) (C134 s p hs hp)
theorem C131 (s p : List UInt8) (hs : s.length < 1099511627776) (hp : p.length < 1099511627776) : Kc cfg 131 [.str s, .str p] (.ret (.bool (preZ p s))) := by
 refine outS_of_wp cfg (fn := Tryz.f131) Tryz.func131 rfl (by simp [Tryz.f131]) ?_
 simp (disch := first|exact DD|fail) [-getElem?_pos, gZ, gS, Tryz.f131]
 repeat' (first|((first|refine wA ?_ ?_|refine wB ?_ ?_)<;>intro hc<;>try simp at hc)|refine wF ?_|refine wY ?_|refine wL ?_|refine owe ?_ fun ho=>?_|(simp (disch := first|exact DD|fail) [-getElem?_pos, gZ, gS]))
@[simp] theorem S131 (s p : List UInt8) (hs : s.length < 1099511627776) (hp : p.length < 1099511627776) (hh : Heap) : Ci cfg (.func (.func 131) [] []) [.str s, .str p] hh = some (.ret (.bool (preZ p s)), hh) :=
 Ci_K cfg rfl rfl (by simp) (by simp) (C131 s p hs hp)
theorem C97 (l : List Int) (hs : l.length < 1099511627776) : Kc cfg 97 [R fl0 eI l] (.ret (.bool (dotsL l))) := by
 have hf := fun j => dotsL_f (l := l) (j := j)
 have ht := dotsL_t (l := l)
 generalize hF : dotsL l = F at *
 refine outS_of_wp cfg (fn := Tryz.f97) Tryz.func97 rfl (by simp [Tryz.f97]) ?_
 simp (disch := first|exact DD|fail) [-getElem?_pos, gZ, gS, Tryz.f97]
 repeat' (first|((first|refine wA ?_ ?_|refine wB ?_ ?_)<;>intro hc<;>try simp at hc)|refine wF ?_|refine wY ?_|refine wL ?_|refine owe ?_ fun ho=>?_|(simp (disch := first|exact DD|fail) [-getElem?_pos, gZ, gS]))
 refine wp_loopE cfg rfl (fun f0 h0 m fr h => ∃ i : Nat, fr 0 = f0 0 ∧ fr 3 = .int .i64 i ∧ (i + m = l.length) ∧ (∀ j, j < i → dotB (nth l j) = true)) (l.length) _ _ ⟨0, rfl, by first | rfl | (simp; done) | (simp [R]; done) | simp [R], by first | rfl | (simp; done) | omega, fun j hj => by omega⟩ ?_
 rintro Am Af Ah ⟨i, A0, A3, hm, hx⟩ Aih
 try simp at A0
 by_cases hi : i < l.length
 ·by_cases h0 : nth l i < 0
  ·have h2 := hf i hi (decide_eq_false (by omega))
   repeat' (first|((first|refine wA ?_ ?_|refine wB ?_ ?_)<;>intro hc<;>try simp at hc)|refine wF ?_|refine wY ?_|refine wL ?_|refine owe ?_ fun ho=>?_|(simp (disch := first|exact DD|fail) [A0, A3, eI, h0, -getElem?_pos, gZ, gS]))
   exact h2
  ·by_cases h1 : 63 < nth l i
   ·have h2 := hf i hi (decide_eq_false (by omega))
    repeat' (first|((first|refine wA ?_ ?_|refine wB ?_ ?_)<;>intro hc<;>try simp at hc)|refine wF ?_|refine wY ?_|refine wL ?_|refine owe ?_ fun ho=>?_|(simp (disch := first|exact DD|fail) [A0, A3, eI, h0, h1, -getElem?_pos, gZ, gS]))
    exact h2
   ·have hd : dotB (nth l i) = true := decide_eq_true (by omega)
    repeat' (first|((first|refine wA ?_ ?_|refine wB ?_ ?_)<;>intro hc<;>try simp at hc)|refine wF ?_|refine wY ?_|refine wL ?_|refine owe ?_ fun ho=>?_|(simp (disch := first|exact DD|fail) [A0, A3, eI, h0, h1, -getElem?_pos, gZ, gS]))
    all_goals try (exfalso; omega)
    exact Aih (Am - 1) _ _ (by omega) ⟨i + 1, by simp [A0, A3], by simp [A0, A3], by omega, fun j hj => by (by_cases e : j = i; (subst e; exact hd); exact hx j (by omega))⟩
 ·have h2 := ht (fun j hj => hx j (by omega))
  repeat' (first|((first|refine wA ?_ ?_|refine wB ?_ ?_)<;>intro hc<;>try simp at hc)|refine wF ?_|refine wY ?_|refine wL ?_|refine owe ?_ fun ho=>?_|(simp (disch := first|exact DD|fail) [A0, A3, -getElem?_pos, gZ, gS]))
  exact h2
@[simp] theorem S97 (l : List Int) (hs : l.length < 1099511627776) (q1 : Fl) (hh : Heap) : Ci cfg (.func (.func 97) [] []) [R  q1 eI l] hh = some (.ret (.bool (dotsL l)), hh) :=
 Ci_K cfg rfl rfl (by simp) (by simp) (C97 l hs)
end Go.Ab
