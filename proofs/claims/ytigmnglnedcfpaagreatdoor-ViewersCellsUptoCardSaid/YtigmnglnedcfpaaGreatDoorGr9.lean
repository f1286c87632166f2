/- A part of the proof. -/
import Derived.Test.YtigmnglnedcfpaaGreatDoorGr4
import Derived.Test.YtigmnglnedcfpaaGreatDoorGr5
set_option linter.unusedVariables false
set_option linter.unusedSimpArgs false
set_option linter.unusedSectionVars false
set_option linter.deprecated false
namespace Go.Ab
open Go.Proofs
set_option maxRecDepth 100000
set_option maxHeartbeats 4000000
theorem fold_b1 (a b : Bool) (tok : Option Nat) {x : Int} (h : 0 ≤ x ∧ x ≤ 255) : V.row a b [.int .u8 x] 1 tok = R (a, b, tok) eB [ib x] := by
 simp [R, eB, ib_nat h]
theorem fold_b2 (a b : Bool) (tok : Option Nat) {x y : Int} (h : (0 ≤ x ∧ x ≤ 255) ∧ 0 ≤ y ∧ y ≤ 255) : V.row a b [.int .u8 x, .int .u8 y] 2 tok = R (a, b, tok) eB [ib x, ib y] := by
 simp [R, eB, ib_nat h.1, ib_nat h.2]
theorem fold_b3 (a b : Bool) (tok : Option Nat) {x y z : Int} (h : (0 ≤ x ∧ x ≤ 255) ∧ (0 ≤ y ∧ y ≤ 255) ∧ 0 ≤ z ∧ z ≤ 255) : V.row a b [.int .u8 x, .int .u8 y, .int .u8 z] 3 tok = R (a, b, tok) eB [ib x, ib y, ib z] := by
 simp [R, eB, ib_nat h.1, ib_nat h.2.1, ib_nat h.2.2]
theorem fold_b4 (a b : Bool) (tok : Option Nat) {x y z w : Int} (h : (0 ≤ x ∧ x ≤ 255) ∧ (0 ≤ y ∧ y ≤ 255) ∧ (0 ≤ z ∧ z ≤ 255) ∧ 0 ≤ w ∧ w ≤ 255) : V.row a b [.int .u8 x, .int .u8 y, .int .u8 z, .int .u8 w] 4 tok = R (a, b, tok) eB [ib x, ib y, ib z, ib w] := by
 simp [R, eB, ib_nat h.1, ib_nat h.2.1, ib_nat h.2.2.1, ib_nat h.2.2.2]
theorem ishr_6 {x : Int} (h : 0 ≤ x) : ishr .i32 x 6 = x / 64 := by
 unfold ishr; rw [show (2 : Int) ^ min (6 : Int).toNat IntKind.i32.bits = 64 by decide, Int.fdiv_eq_ediv_of_nonneg _ (by omega)]
theorem ishr_12 {x : Int} (h : 0 ≤ x) : ishr .i32 x 12 = x / 4096 := by
 unfold ishr; rw [show (2 : Int) ^ min (12 : Int).toNat IntKind.i32.bits = 4096 by decide, Int.fdiv_eq_ediv_of_nonneg _ (by omega)]
theorem ishr_18 {x : Int} (h : 0 ≤ x) : ishr .i32 x 18 = x / 262144 := by
 unfold ishr; rw [show (2 : Int) ^ min (18 : Int).toNat IntKind.i32.bits = 262144 by decide, Int.fdiv_eq_ediv_of_nonneg _ (by omega)]
theorem wrapu8 (n : Int) : IntKind.u8.wrap n = n % 256 := IntKind.wrap_u8 n
theorem ior8_low (j : Nat) {x y : Int} (hj : j ≤ 7) (hx : 0 ≤ x ∧ x ≤ 255) (hm : x % 2 ^ j = 0) (hy : 0 ≤ y) (hy2 : y < 2 ^ j) : ior .u8 x y = x + y := by
 obtain ⟨n, rfl⟩ := Int.eq_ofNat_of_zero_le hx.1
 obtain ⟨m, rfl⟩ := Int.eq_ofNat_of_zero_le hy
 have hb : (2 : Nat) ^ IntKind.u8.bits = 256 := by decide
 have hp : (2 : Nat) ^ j ≤ 128 := by
  have := Nat.pow_le_pow_right (n := 2) (by omega) hj
  simpa using this
 have hm' : n % 2 ^ j = 0 := by
  have : ((n % 2 ^ j : Nat) : Int) = 0 := by simpa using hm
  omega
 have hy' : m < 2 ^ j := by
  have : ((m : Nat) : Int) < ((2 ^ j : Nat) : Int) := by simpa using hy2
  omega
 have h1 : (BitVec.ofInt IntKind.u8.bits (n : Int)).toNat = n := by
  rw [BitVec.ofInt_natCast, BitVec.toNat_ofNat, hb]
  exact Nat.mod_eq_of_lt (by omega)
 have h2 : (BitVec.ofInt IntKind.u8.bits (m : Int)).toNat = m := by
  rw [BitVec.ofInt_natCast, BitVec.toNat_ofNat, hb]
  exact Nat.mod_eq_of_lt (by omega)
 have h3 : n = 2 ^ j * (n / 2 ^ j) := by have := Nat.div_add_mod n (2 ^ j); omega
 unfold ior
 rw [BitVec.toNat_or, h1, h2]
 have h4 : n ||| m = n + m := by
  have := Nat.two_pow_add_eq_or_of_lt hy' (n / 2 ^ j)
  rw [← h3] at this
  exact this.symm
 have h5 : n ||| m < 2 ^ 8 := Nat.or_lt_two_pow (by omega) (by omega)
 rw [h4] at h5
 rw [h4]
 exact IntWalk.u8_in _ (by omega)
theorem ior192 {y : Int} (h : 0 ≤ y ∧ y < 64) : ior .u8 192 y = 192 + y := ior8_low 6 (by omega) (by omega) (by decide) h.1 h.2
theorem ior128 {y : Int} (h : 0 ≤ y ∧ y < 128) : ior .u8 128 y = 128 + y := ior8_low 7 (by omega) (by omega) (by decide) h.1 h.2
theorem ior224 {y : Int} (h : 0 ≤ y ∧ y < 32) : ior .u8 224 y = 224 + y := ior8_low 5 (by omega) (by omega) (by decide) h.1 h.2
theorem ior240 {y : Int} (h : 0 ≤ y ∧ y < 16) : ior .u8 240 y = 240 + y := ior8_low 4 (by omega) (by omega) (by decide) h.1 h.2
theorem m256_64 (r : Int) : r % 256 % 64 = r % 64 := by omega
@[simp] theorem SAppendRune (r : Int) (b : List UInt8) (fl : Fl) (h : Heap) (hr : point r = true) (ha : App h.ts 1 fl) (hb : b.length ≤ 2000000) :
  Ci cfg (.func (.func 66) [] []) [R fl eB b, .int .i32 r] h = some (.ret (R (false, false, some h.ts.length) eB (b ++ encR r)), bump h fl.2.2 1) := by
 rw [point_t] at hr
 refine Ci_fun_wp (fn := Tryz.f66) rfl Tryz.func66 rfl (by simp [Tryz.f66]) ?_
 by_cases h1 : r < 128
 ·have he : encR r = [ib r] := by unfold encR; rw [if_pos h1]
  simp (disch := first | assumption | omega | (simp; done) | (simp; omega)) [-getElem?_pos, gZ, gS, Tryz.f66, fold_b1, he]
 by_cases h2 : r < 2048
 ·have he : encR r = [ib (192 + r / 64), ib (128 + r % 64)] := by unfold encR; rw [if_neg h1, if_pos h2]
  simp (disch := first | assumption | omega | (simp; done) | (simp; omega)) [-getElem?_pos, gZ, gS, Tryz.f66, Tryz.f85, fold_b2, he, ishr_6, wrapu8, iand_63, m256_64, ior192, ior128, append_Rn]
 by_cases h3 : r < 65536
 ·have he : encR r = [ib (224 + r / 4096), ib (128 + r / 64 % 64), ib (128 + r % 64)] := by unfold encR; rw [if_neg h1, if_neg h2, if_pos h3]
  have h4 : r < 55296 ∨ 57343 < r := hr.2.2
  rcases h4 with h4 | h4
  ·simp (disch := first | assumption | omega | (simp; done) | (simp; omega)) [-getElem?_pos, gZ, gS, Tryz.f66, Tryz.f85, fold_b3, he, ishr_6, ishr_12, wrapu8, iand_63, m256_64, ior224, ior128, append_Rn]
  ·simp (disch := first | assumption | omega | (simp; done) | (simp; omega)) [-getElem?_pos, gZ, gS, Tryz.f66, Tryz.f85, fold_b3, he, ishr_6, ishr_12, wrapu8, iand_63, m256_64, ior224, ior128, append_Rn]
 ·have he : encR r = [ib (240 + r / 262144), ib (128 + r / 4096 % 64), ib (128 + r / 64 % 64), ib (128 + r % 64)] := by unfold encR; rw [if_neg h1, if_neg h2, if_neg h3]
  simp (disch := first | assumption | omega | (simp; done) | (simp; omega)) [-getElem?_pos, gZ, gS, Tryz.f66, Tryz.f85, fold_b4, he, ishr_6, ishr_12, ishr_18, wrapu8, iand_63, m256_64, ior240, ior128, append_Rn]
def joinedV (tok : Nat) (l : List Int) : V := if 4096 < (encAll l).length then .row true true [] 0 none else R (false, false, some tok) eB (encAll l)
theorem App.ext {ts : List (Option Nat)} {sz : Nat} {fl : Fl} (X : List (Option Nat)) (ha : App ts sz fl) : App (ts ++ X) sz fl := by
 rcases ha.ok with h | ⟨k, h1, h2⟩
 ·exact ⟨.inl h⟩
 ·exact ⟨.inr ⟨k, h1, by rw [List.getElem?_append_left (List.getElem?_eq_some_iff.1 h2).1, h2]⟩⟩
theorem ts_next (a X : List (Option Nat)) : bumpT (a ++ X ++ [some 1]) (some (a.length + X.length)) 1 = a ++ (X ++ [none]) ++ [some 1] := by
 unfold bumpT
 simp only
 rw [List.set_append_right _ _ (by simp)]
 simp
theorem App.tail (a X : List (Option Nat)) : App (a ++ X ++ [some 1]) 1 (false, false, some (a.length + X.length)) := by
 refine ⟨.inr ⟨_, rfl, ?_⟩⟩
 rw [List.getElem?_append_right (by simp)]
 simp
theorem Jjoined {k : CC} {K : List Fr} {Q : Ax → St → Prop} (l : List Int) (q : Fl) (hh : Heap) (hl : l.length ≤ 4294967296) (hp : l.all point = true)
  (H : ∀ X tok, wk cfg k K Q (some (.ret (joinedV tok l), ⟨hh.bs, hh.ts ++ X⟩))) : wk cfg k K Q (Ci cfg (.func (.func 43) [] []) [R q eI l] hh) := by
 repeat' (first | ((first | refine wpc_split _ ?_ ?_ | refine ww_split _ ?_ ?_) <;> intro hc <;> try simp at hc) | (refine wp_drawF (by kernel_rfl) ?_) | refine wk_yldW _ ?_ | refine layOwe _ (by kernel_rfl) ?_ | refine owe ?_ (fun ho => ?_) | (simp (disch := first | assumption | omega | (simp; done) | (simp; omega)) [Tryz.f43, -getElem?_pos, gZ, gS]))
 refine wp_loopE cfg rfl (fun f0 h0 m fr h => ∃ i : Nat, ∃ X : List (Option Nat), fr 9 = f0 9 ∧ fr 10 = f0 10 ∧ fr 11 = .int .i64 i ∧ fr 3 = R (false, false, some (hh.ts.length + X.length)) eB (encAll (l.take i)) ∧ (h.bs = hh.bs) ∧ (h.ts = hh.ts ++ X ++ [some 1]) ∧ (i + m = l.length) ∧ ((encAll (l.take i)).length ≤ 4096)) (l.length) _ _ ⟨0, [], rfl, rfl, by first | rfl | (simp; done) | (simp [R]; done) | simp [R], by first | rfl | (simp; done) | (simp [R]; done) | simp [R], by first | rfl | (simp; done) | omega, by first | rfl | (simp; done) | omega, by first | rfl | (simp; done) | omega, by first | rfl | (simp; done) | omega⟩ ?_
 rintro Am Af Ah ⟨i, X, A9, A10, A11, A3, hb, hts, hm, hle⟩ Aih
 try simp at A9 A10
 have hA : App Ah.ts 1 (false, false, some (hh.ts.length + X.length)) := by rw [hts]; exact App.tail _ _
 have hle2 := encAll_take_le l i
 have hle3 := encAll_take_le l (i + 1)
 by_cases hi : i < l.length
 ·have hpt : point (nth l i) = true := by rw [List.all_eq_true] at hp; exact hp _ (nth_mem hi)
  have hp2 := hpt
  rw [point_t] at hp2
  have hel := encR_len (nth l i)
  have hen := congrArg List.length (encAll_take hi)
  rw [List.length_append] at hen
  repeat' (first | ((first | refine wpc_split _ ?_ ?_ | refine ww_split _ ?_ ?_) <;> intro hc <;> try simp at hc) | (refine wp_drawF (by kernel_rfl) ?_) | refine wk_yldW _ ?_ | refine layOwe _ (by kernel_rfl) ?_ | refine owe ?_ (fun ho => ?_) | (simp (disch := first | assumption | omega | (simp; done) | (simp; omega)) [A9, A10, A11, A3, eI, hpt, hA, -getElem?_pos, gZ, gS]))
  ·have hj : joinedV 0 l = .row true true [] 0 none := by unfold joinedV; rw [if_pos (by omega)]
   have := H (X ++ [none] ++ [some 1]) 0
   rw [hj] at this
   rw [hb, hts, ts_next]
   simpa using this
  ·exact Aih (Am - 1) _ _ (by omega) ⟨i + 1, X ++ [none], by simp [A9, A10, A11, A3, encAll_take hi, hts, Nat.add_assoc], by simp [A9, A10, A11, A3, encAll_take hi, hts, Nat.add_assoc], by simp [A9, A10, A11, A3, encAll_take hi, hts, Nat.add_assoc], by simp [A9, A10, A11, A3, encAll_take hi, hts, Nat.add_assoc], by simp [hb], by simp only; rw [hts]; exact ts_next _ _, by omega, by omega⟩
 ·have he : encAll (l.take i) = encAll l := by rw [List.take_of_length_le (by omega)]
  rw [he] at hle
  repeat' (first | ((first | refine wpc_split _ ?_ ?_ | refine ww_split _ ?_ ?_) <;> intro hc <;> try simp at hc) | (refine wp_drawF (by kernel_rfl) ?_) | refine wk_yldW _ ?_ | refine layOwe _ (by kernel_rfl) ?_ | refine owe ?_ (fun ho => ?_) | (simp (disch := first | assumption | omega | (simp; done) | (simp; omega)) [A9, A10, A11, A3, -getElem?_pos, gZ, gS]))
  have hj : joinedV (hh.ts.length + X.length) l = R (false, false, some (hh.ts.length + X.length)) eB (encAll l) := by unfold joinedV; rw [if_neg (by omega)]
  have := H (X ++ [some 1]) (hh.ts.length + X.length)
  rw [hj] at this
  obtain ⟨bs, ts⟩ := Ah
  simp only at hb hts
  subst hb hts
  rw [he]
  simpa using this
theorem eqV_jn {P : Program} {t : TypeId} {b : Bool} {tok : Nat} {s : List UInt8} (h : slcD (P.underlying t) = true) : eqV P b t (R (false, false, some tok) eB s) (.row true true [] 0 none) = some false := by
 unfold R
 rw [eqV_rn h]
 simp
theorem eqV_nn {P : Program} {t : TypeId} {b f : Bool} (h : slcD (P.underlying t) = true) : eqV P b t (.row true f [] 0 none) (.row true true [] 0 none) = some true := by
 rw [eqV_rn h]; rfl
theorem C20 (l : List Int) (hs : l.length ≤ 4294967296) : Kc cfg 20 [R fl0 eI l] (.ret (.tuple [.str (joinG l).1, .int .i64 (joinG l).2])) := by
 refine outS_of_wp cfg (fn := Tryz.f20) Tryz.func20 rfl (by simp [Tryz.f20]) ?_
 simp (disch := first | assumption | omega | (simp; done) | (simp; omega)) [-getElem?_pos, gZ, gS, Tryz.f20]
 refine wp_loopE cfg rfl (fun f0 h0 m fr h => ∃ i : Nat, fr 0 = f0 0 ∧ fr 7 = f0 7 ∧ fr 8 = f0 8 ∧ fr 9 = .int .i64 i ∧ (i + m = l.length) ∧ ((l.take i).all point = true)) (l.length) _ _ ⟨0, rfl, rfl, rfl, by first | rfl | (simp; done) | (simp [R]; done) | simp [R], by first | rfl | (simp; done) | omega, by first | rfl | (simp; done) | omega⟩ ?_
 rintro Am Af Ah ⟨i, A0, A7, A8, A9, hm, ht⟩ Aih
 try simp at A0 A7 A8
 by_cases hi : i < l.length
 ·by_cases hp : point (nth l i) = true
  ·repeat' (first | ((first | refine wpc_split _ ?_ ?_ | refine ww_split _ ?_ ?_) <;> intro hc <;> try simp at hc) | (refine wp_drawF (by kernel_rfl) ?_) | refine wk_yldW _ ?_ | refine layOwe _ (by kernel_rfl) ?_ | refine owe ?_ (fun ho => ?_) | (simp (disch := first | assumption | omega | (simp; done) | (simp; omega)) [A0, A7, A8, A9, eI, hp, -getElem?_pos, gZ, gS]))
   exact Aih (Am - 1) _ _ (by omega) ⟨i + 1, by simp [A0, A7, A8, A9], by simp [A0, A7, A8, A9], by simp [A0, A7, A8, A9], by simp [A0, A7, A8, A9], by omega, all_take_next hi ht hp⟩
  ·have hp : point (nth l i) = false := by simpa using hp
   have hj : joinG l = ([], 90) := by unfold joinG; rw [all_nth_false hi hp]; rfl
   repeat' (first | ((first | refine wpc_split _ ?_ ?_ | refine ww_split _ ?_ ?_) <;> intro hc <;> try simp at hc) | (refine wp_drawF (by kernel_rfl) ?_) | refine wk_yldW _ ?_ | refine layOwe _ (by kernel_rfl) ?_ | refine owe ?_ (fun ho => ?_) | (simp (disch := first | assumption | omega | (simp; done) | (simp; omega)) [A0, A7, A8, A9, eI, hp, -getElem?_pos, gZ, gS]))
   rw [hj]; exact ⟨rfl, rfl⟩
 ·rw [List.take_of_length_le (by omega)] at ht
  repeat' (first | ((first | refine wpc_split _ ?_ ?_ | refine ww_split _ ?_ ?_) <;> intro hc <;> try simp at hc) | (refine wp_drawF (by kernel_rfl) ?_) | refine wk_yldW _ ?_ | refine layOwe _ (by kernel_rfl) ?_ | refine owe ?_ (fun ho => ?_) | (simp (disch := first | assumption | omega | (simp; done) | (simp; omega)) [A0, A7, A8, A9, -I43, -getElem?_pos, gZ, gS]))
  refine Jjoined l _ _ hs ht (fun X tok => ?_)
  by_cases h4 : 4096 < (encAll l).length
  ·have hj : joinG l = ([], 2) := by unfold joinG; rw [ht, if_pos rfl, if_pos h4]
   have hv : joinedV tok l = .row true true [] 0 none := by unfold joinedV; rw [if_pos h4]
   rw [hv, hj]
   repeat' (first | ((first | refine wpc_split _ ?_ ?_ | refine ww_split _ ?_ ?_) <;> intro hc <;> try simp at hc) | (refine wp_drawF (by kernel_rfl) ?_) | refine wk_yldW _ ?_ | refine layOwe _ (by kernel_rfl) ?_ | refine owe ?_ (fun ho => ?_) | (simp (disch := first | assumption | omega | (simp; done) | (simp; omega)) [eqV_nn, -getElem?_pos, gZ, gS]))
  ·have hj : joinG l = (encAll l, 0) := by unfold joinG; rw [ht, if_pos rfl, if_neg h4]
   have hv : joinedV tok l = R (false, false, some tok) eB (encAll l) := by unfold joinedV; rw [if_neg h4]
   rw [hv, hj]
   repeat' (first | ((first | refine wpc_split _ ?_ ?_ | refine ww_split _ ?_ ?_) <;> intro hc <;> try simp at hc) | (refine wp_drawF (by kernel_rfl) ?_) | refine wk_yldW _ ?_ | refine layOwe _ (by kernel_rfl) ?_ | refine owe ?_ (fun ho => ?_) | (simp (disch := first | assumption | omega | (simp; done) | (simp; omega)) [eqV_jn, -getElem?_pos, gZ, gS]))
@[simp] theorem S20 (l : List Int) (hs : l.length ≤ 4294967296) (q1 : Fl) (hh : Heap) : Ci cfg (.func (.func 20) [] []) [R  q1 eI l] hh = some (.ret (.tuple [.str (joinG l).1, .int .i64 (joinG l).2]), hh) :=
 Ci_K cfg rfl rfl (by simp) (by simp) (C20 l hs)
end Go.Ab
namespace Go.Ab
open Go.Proofs
set_option maxRecDepth 100000
set_option maxHeartbeats 4000000
def splitW : List Int → List Int → List (List Int)
 | w, [] => if w = [] then [] else [w]
 | w, c :: r => if spaceR c then (if w = [] then splitW [] r else w :: splitW [] r) else splitW (w ++ [c]) r
def splitG (s : List UInt8) : List (List UInt8) × Int := if (runesG s).2 = 0 then ((splitW [] (runesG s).1).map encAll, 0) else ([], (runesG s).2)
theorem runes_enc : ∀ (n : Nat) (s : List UInt8) (l : List Int), s.length ≤ n → runes s = some l → encAll l = s ∧ l.all point = true := by
 intro n
 induction n with
 | zero =>
  intro s l hn h
  have : s = [] := List.eq_nil_of_length_eq_zero (by omega)
  subst this
  rw [runes_nil] at h
  simp at h
  subst h; simp
 | succ n ih =>
  intro s l hn h
  by_cases h0 : s.length = 0
  ·have : s = [] := List.eq_nil_of_length_eq_zero h0
   subst this
   rw [runes_nil] at h
   simp at h
   subst h; simp
  by_cases hz : (dec s).2 = 0
  ·rw [runes_bad (by omega) hz] at h; cases h
  ·rw [runes_step (by omega) hz] at h
   obtain ⟨l', h1, rfl⟩ := Option.map_eq_some_iff.1 h
   have hb := dec_bound s
   obtain ⟨d1, d2, d3⟩ := dec_len hz
   have := ih _ _ (by simp only [List.length_drop]; omega) h1
   refine ⟨?_, by simp [d1, this.2]⟩
   rw [encAll_cons, this.1, d3, List.take_append_drop]
theorem runes_enc' {s : List UInt8} {l : List Int} (h : runes s = some l) : encAll l = s ∧ l.all point = true := runes_enc _ s l (Nat.le_refl _) h
theorem joinG_part {l : List Int} (h : l.all point = true) (hl : (encAll l).length ≤ 4096) : joinG l = (encAll l, 0) := by
 unfold joinG; rw [h, if_pos rfl, if_neg (by omega)]
theorem runesG_all {s : List UInt8} (h : (runesG s).2 = 0) : s.length ≤ 4096 ∧ runes s = some (runesG s).1 := by
 unfold runesG at h ⊢
 split at h
 ·simp at h
 ·rename_i h1
  rw [if_neg h1]
  cases hr : runes s with
  | none => rw [hr] at h; simp at h
  | some l => exact ⟨by omega, rfl⟩
@[simp] theorem Sspace (r : Int) (h : Heap) : Ci cfg (.func (.func 140) [] []) [.int .i64 r] h = some (.ret (.bool (spaceR r)), h) := by
 refine Ci_fun_wp (fn := Tryz.f140) rfl Tryz.func140 rfl (by simp [Tryz.f140]) ?_
 simp (disch := first | assumption | omega | (simp; done) | (simp; omega)) [-getElem?_pos, gZ, gS, Tryz.f140]
 repeat' (first | ((first | refine wpc_split _ ?_ ?_ | refine ww_split _ ?_ ?_) <;> intro hc <;> try simp at hc) | (refine wp_drawF (by kernel_rfl) ?_) | refine wk_yldW _ ?_ | refine layOwe _ (by kernel_rfl) ?_ | refine owe ?_ (fun ho => ?_) | (simp (disch := first | assumption | omega | (simp; done) | (simp; omega)) [-getElem?_pos, gZ, gS]))
 all_goals grind [spaceR]
end Go.Ab
namespace Go.Ab
open Go.Proofs
set_option maxRecDepth 100000
set_option maxHeartbeats 4000000
theorem C116 (n : Int) : Kc cfg 116 [.int .i64 n] (.ret (.bool (dotB n))) := by
 have hd : dotB n = (decide (0 ≤ n) && decide (n ≤ 63)) := by unfold dotB; exact Bool.decide_and ..
 rw [hd]
 by_cases h : 0 ≤ n
 ·rw [decide_eq_true h]
  refine outS_of_wp cfg (fn := Tryz.f116) Tryz.func116 rfl (by simp [Tryz.f116]) ?_
  simp (disch := first | assumption | omega | (simp; done) | (simp; omega)) [-getElem?_pos, gZ, gS, Tryz.f116, h]
  repeat' (first | ((first | refine wpc_split _ ?_ ?_ | refine ww_split _ ?_ ?_) <;> intro hc <;> try simp at hc) | (refine wp_drawF (by kernel_rfl) ?_) | refine wk_yldW _ ?_ | refine layOwe _ (by kernel_rfl) ?_ | refine owe ?_ (fun ho => ?_) | (simp (disch := first | assumption | omega | (simp; done) | (simp; omega)) [h, -getElem?_pos, gZ, gS]))
 ·rw [decide_eq_false h]
  refine outS_of_wp cfg (fn := Tryz.f116) Tryz.func116 rfl (by simp [Tryz.f116]) ?_
  simp (disch := first | assumption | omega | (simp; done) | (simp; omega)) [-getElem?_pos, gZ, gS, Tryz.f116, h]
  repeat' (first | ((first | refine wpc_split _ ?_ ?_ | refine ww_split _ ?_ ?_) <;> intro hc <;> try simp at hc) | (refine wp_drawF (by kernel_rfl) ?_) | refine wk_yldW _ ?_ | refine layOwe _ (by kernel_rfl) ?_ | refine owe ?_ (fun ho => ?_) | (simp (disch := first | assumption | omega | (simp; done) | (simp; omega)) [h, -getElem?_pos, gZ, gS]))
@[simp] theorem S116 (n : Int) (hh : Heap) : Ci cfg (.func (.func 116) [] []) [.int .i64 n] hh = some (.ret (.bool (dotB n)), hh) :=
 Ci_K cfg rfl rfl (by simp) (by simp) (C116 n)
theorem C115 (l : List Int) (hs : l.length < 1099511627776) : Kc cfg 115 [R fl0 eI l, .func (.func 116) [] []] (.ret (.bool (dotsL l))) := by
 have hf := fun j => dotsL_f (l := l) (j := j)
 have ht := dotsL_t (l := l)
 generalize hF : dotsL l = F at *
 refine outS_of_wp cfg (fn := Tryz.f115) Tryz.func115 rfl (by simp [Tryz.f115]) ?_
 simp (disch := first | assumption | omega | (simp; done) | (simp; omega)) [-getElem?_pos, gZ, gS, Tryz.f115, emptyH]
 repeat' (first | ((first | refine wpc_split _ ?_ ?_ | refine ww_split _ ?_ ?_) <;> intro hc <;> try simp at hc) | (refine wp_drawF (by kernel_rfl) ?_) | refine wk_yldW _ ?_ | refine layOwe _ (by kernel_rfl) ?_ | refine owe ?_ (fun ho => ?_) | (simp (disch := first | assumption | omega | (simp; done) | (simp; omega)) [emptyH, Tryz.f120, Tryz.f124, Tryz.f121, -getElem?_pos, gZ, gS]))
 refine wp_loopE cfg rfl (fun f0 h0 m fr h => ∃ i : Nat, fr 0 = f0 0 ∧ fr 1 = f0 1 ∧ fr 6 = f0 6 ∧ fr 7 = f0 7 ∧ fr 8 = .int .i64 i ∧ h.bs = h0.bs ∧ (i + m = l.length) ∧ (∀ j, j < i → dotB (nth l j) = true)) (l.length) _ _ ⟨0, rfl, rfl, rfl, rfl, by first | rfl | (simp; done) | (simp [R]; done) | simp [R], rfl, by first | rfl | (simp; done) | omega, fun j hj => by omega⟩ ?_
 rintro Am Af Ah ⟨i, A0, A1, A6, A7, A8, Abs, hm, hx⟩ Aih
 try simp at A0 A1 A6 A7 Abs
 by_cases hi : i < l.length
 ·cases hd : dotB (nth l i) with
  | true =>
   repeat' (first | ((first | refine wpc_split _ ?_ ?_ | refine ww_split _ ?_ ?_) <;> intro hc <;> try simp at hc) | (refine wp_drawF (by kernel_rfl) ?_) | refine wk_yldW _ ?_ | refine layOwe _ (by kernel_rfl) ?_ | refine owe ?_ (fun ho => ?_) | (simp (disch := first | assumption | omega | (simp; done) | (simp; omega)) [A0, A1, A6, A7, A8, Abs, hd, eI, Abs, Tryz.f121, -getElem?_pos, gZ, gS]))
   exact Aih (Am - 1) _ _ (by omega) ⟨i + 1, by simp [A0, A1, A6, A7, A8, Abs], by simp [A0, A1, A6, A7, A8, Abs], by simp [A0, A1, A6, A7, A8, Abs], by simp [A0, A1, A6, A7, A8, Abs], by simp [A0, A1, A6, A7, A8, Abs], by simp [A0, A1, A6, A7, A8, Abs], by omega, fun j hj => by (by_cases e : j = i; (subst e; exact hd); exact hx j (by omega))⟩
  | false =>
   have h2 := hf i hi hd
   repeat' (first | ((first | refine wpc_split _ ?_ ?_ | refine ww_split _ ?_ ?_) <;> intro hc <;> try simp at hc) | (refine wp_drawF (by kernel_rfl) ?_) | refine wk_yldW _ ?_ | refine layOwe _ (by kernel_rfl) ?_ | refine owe ?_ (fun ho => ?_) | (simp (disch := first | assumption | omega | (simp; done) | (simp; omega)) [A0, A1, A6, A7, A8, Abs, hd, eI, Abs, Tryz.f121, -getElem?_pos, gZ, gS]))
   exact h2
 ·have h2 := ht (fun j hj => hx j (by omega))
  repeat' (first | ((first | refine wpc_split _ ?_ ?_ | refine ww_split _ ?_ ?_) <;> intro hc <;> try simp at hc) | (refine wp_drawF (by kernel_rfl) ?_) | refine wk_yldW _ ?_ | refine layOwe _ (by kernel_rfl) ?_ | refine owe ?_ (fun ho => ?_) | (simp (disch := first | assumption | omega | (simp; done) | (simp; omega)) [A0, A1, A6, A7, A8, Abs, -getElem?_pos, gZ, gS]))
  exact h2
@[simp] theorem S115 (l : List Int) (hs : l.length < 1099511627776) (q1 : Fl) (hh : Heap) : Ci cfg (.func (.func 115) [] []) [R  q1 eI l, .func (.func 116) [] []] hh = some (.ret (.bool (dotsL l)), hh) :=
 Ci_K cfg rfl rfl (by simp) (by simp) (C115 l hs)
def preZ (p s : Wd) : Bool := decide (p <+: s)
theorem preZ_short {p s : Wd} (h : p.length ≤ s.length) : preZ p s = (s.take p.length == p) := by
 unfold preZ
 rw [Bool.eq_iff_iff, decide_eq_true_eq, beq_iff_eq, List.prefix_iff_eq_take]
 exact ⟨fun e => e.symm, fun e => e.symm⟩
theorem preZ_long {p s : Wd} (h : ¬ p.length ≤ s.length) : preZ p s = false := by
 unfold preZ
 rw [decide_eq_false_iff_not]
 exact fun e => h e.length_le
theorem C123 (s p : List UInt8) (hs : s.length < 1099511627776) (hp : p.length < 1099511627776) : Kc cfg 123 [.str s, .str p] (.ret (.bool (preZ p s))) := by
 by_cases h : p.length ≤ s.length
 ·rw [preZ_short h]
  refine outS_of_wp cfg (fn := Tryz.f123) Tryz.func123 rfl (by simp [Tryz.f123]) ?_
  simp (disch := first | assumption | omega | (simp; done) | (simp; omega)) [-getElem?_pos, gZ, gS, Tryz.f123, h]
  repeat' (first | ((first | refine wpc_split _ ?_ ?_ | refine ww_split _ ?_ ?_) <;> intro hc <;> try simp at hc) | (refine wp_drawF (by kernel_rfl) ?_) | refine wk_yldW _ ?_ | refine layOwe _ (by kernel_rfl) ?_ | refine owe ?_ (fun ho => ?_) | (simp (disch := first | assumption | omega | (simp; done) | (simp; omega)) [h, -getElem?_pos, gZ, gS]))
 ·rw [preZ_long h]
  refine outS_of_wp cfg (fn := Tryz.f123) Tryz.func123 rfl (by simp [Tryz.f123]) ?_
  simp (disch := first | assumption | omega | (simp; done) | (simp; omega)) [-getElem?_pos, gZ, gS, Tryz.f123, h]
  repeat' (first | ((first | refine wpc_split _ ?_ ?_ | refine ww_split _ ?_ ?_) <;> intro hc <;> try simp at hc) | (refine wp_drawF (by kernel_rfl) ?_) | refine wk_yldW _ ?_ | refine layOwe _ (by kernel_rfl) ?_ | refine owe ?_ (fun ho => ?_) | (simp (disch := first | assumption | omega | (simp; done) | (simp; omega)) [h, -getElem?_pos, gZ, gS]))
@[simp] theorem S123 (s p : List UInt8) (hs : s.length < 1099511627776) (hp : p.length < 1099511627776) (hh : Heap) : Ci cfg (.func (.func 123) [] []) [.str s, .str p] hh = some (.ret (.bool (preZ p s)), hh) :=
 Ci_K cfg rfl rfl (by simp) (by simp) (C123 s p hs hp)
theorem C119 (s p : List UInt8) (hs : s.length < 1099511627776) (hp : p.length < 1099511627776) : Kc cfg 119 [.str s, .str p] (.ret (.bool (preZ p s))) := by
 refine outS_of_wp cfg (fn := Tryz.f119) Tryz.func119 rfl (by simp [Tryz.f119]) ?_
 simp (disch := first | assumption | omega | (simp; done) | (simp; omega)) [-getElem?_pos, gZ, gS, Tryz.f119]
 repeat' (first | ((first | refine wpc_split _ ?_ ?_ | refine ww_split _ ?_ ?_) <;> intro hc <;> try simp at hc) | (refine wp_drawF (by kernel_rfl) ?_) | refine wk_yldW _ ?_ | refine layOwe _ (by kernel_rfl) ?_ | refine owe ?_ (fun ho => ?_) | (simp (disch := first | assumption | omega | (simp; done) | (simp; omega)) [-getElem?_pos, gZ, gS]))
@[simp] theorem S119 (s p : List UInt8) (hs : s.length < 1099511627776) (hp : p.length < 1099511627776) (hh : Heap) : Ci cfg (.func (.func 119) [] []) [.str s, .str p] hh = some (.ret (.bool (preZ p s)), hh) :=
 Ci_K cfg rfl rfl (by simp) (by simp) (C119 s p hs hp)
theorem C83 (l : List Int) (hs : l.length < 1099511627776) : Kc cfg 83 [R fl0 eI l] (.ret (.bool (dotsL l))) := by
 have hf := fun j => dotsL_f (l := l) (j := j)
 have ht := dotsL_t (l := l)
 generalize hF : dotsL l = F at *
 refine outS_of_wp cfg (fn := Tryz.f83) Tryz.func83 rfl (by simp [Tryz.f83]) ?_
 simp (disch := first | assumption | omega | (simp; done) | (simp; omega)) [-getElem?_pos, gZ, gS, Tryz.f83]
 repeat' (first | ((first | refine wpc_split _ ?_ ?_ | refine ww_split _ ?_ ?_) <;> intro hc <;> try simp at hc) | (refine wp_drawF (by kernel_rfl) ?_) | refine wk_yldW _ ?_ | refine layOwe _ (by kernel_rfl) ?_ | refine owe ?_ (fun ho => ?_) | (simp (disch := first | assumption | omega | (simp; done) | (simp; omega)) [-getElem?_pos, gZ, gS]))
 refine wp_loopE cfg rfl (fun f0 h0 m fr h => ∃ i : Nat, fr 0 = f0 0 ∧ fr 3 = .int .i64 i ∧ (i + m = l.length) ∧ (∀ j, j < i → dotB (nth l j) = true)) (l.length) _ _ ⟨0, rfl, by first | rfl | (simp; done) | (simp [R]; done) | simp [R], by first | rfl | (simp; done) | omega, fun j hj => by omega⟩ ?_
 rintro Am Af Ah ⟨i, A0, A3, hm, hx⟩ Aih
 try simp at A0
 by_cases hi : i < l.length
 ·by_cases h0 : nth l i < 0
  ·have h2 := hf i hi (decide_eq_false (by omega))
   repeat' (first | ((first | refine wpc_split _ ?_ ?_ | refine ww_split _ ?_ ?_) <;> intro hc <;> try simp at hc) | (refine wp_drawF (by kernel_rfl) ?_) | refine wk_yldW _ ?_ | refine layOwe _ (by kernel_rfl) ?_ | refine owe ?_ (fun ho => ?_) | (simp (disch := first | assumption | omega | (simp; done) | (simp; omega)) [A0, A3, eI, h0, -getElem?_pos, gZ, gS]))
   exact h2
  ·by_cases h1 : 63 < nth l i
   ·have h2 := hf i hi (decide_eq_false (by omega))
    repeat' (first | ((first | refine wpc_split _ ?_ ?_ | refine ww_split _ ?_ ?_) <;> intro hc <;> try simp at hc) | (refine wp_drawF (by kernel_rfl) ?_) | refine wk_yldW _ ?_ | refine layOwe _ (by kernel_rfl) ?_ | refine owe ?_ (fun ho => ?_) | (simp (disch := first | assumption | omega | (simp; done) | (simp; omega)) [A0, A3, eI, h0, h1, -getElem?_pos, gZ, gS]))
    exact h2
   ·have hd : dotB (nth l i) = true := decide_eq_true (by omega)
    repeat' (first | ((first | refine wpc_split _ ?_ ?_ | refine ww_split _ ?_ ?_) <;> intro hc <;> try simp at hc) | (refine wp_drawF (by kernel_rfl) ?_) | refine wk_yldW _ ?_ | refine layOwe _ (by kernel_rfl) ?_ | refine owe ?_ (fun ho => ?_) | (simp (disch := first | assumption | omega | (simp; done) | (simp; omega)) [A0, A3, eI, h0, h1, -getElem?_pos, gZ, gS]))
    all_goals try (exfalso; omega)
    exact Aih (Am - 1) _ _ (by omega) ⟨i + 1, by simp [A0, A3], by simp [A0, A3], by omega, fun j hj => by (by_cases e : j = i; (subst e; exact hd); exact hx j (by omega))⟩
 ·have h2 := ht (fun j hj => hx j (by omega))
  repeat' (first | ((first | refine wpc_split _ ?_ ?_ | refine ww_split _ ?_ ?_) <;> intro hc <;> try simp at hc) | (refine wp_drawF (by kernel_rfl) ?_) | refine wk_yldW _ ?_ | refine layOwe _ (by kernel_rfl) ?_ | refine owe ?_ (fun ho => ?_) | (simp (disch := first | assumption | omega | (simp; done) | (simp; omega)) [A0, A3, -getElem?_pos, gZ, gS]))
  exact h2
@[simp] theorem S83 (l : List Int) (hs : l.length < 1099511627776) (q1 : Fl) (hh : Heap) : Ci cfg (.func (.func 83) [] []) [R  q1 eI l] hh = some (.ret (.bool (dotsL l)), hh) :=
 Ci_K cfg rfl rfl (by simp) (by simp) (C83 l hs)
end Go.Ab
namespace Go.Ab
def neverZ : Int := 1048576
def lenZ (t : List Sgn) (k : Nat) : Nat := (nth t k).text.length
def cellZ (t : List Sgn) (k : Nat) : Nat := (nth t k).cells.length
def bestZ (t : List Sgn) (s : Wd) (L : List Int) (i : Nat) : Nat → Int × Nat
 | 0 => (neverZ, 0)
 | k + 1 => if preZ (nth t k).text (s.drop i) = true ∧ (cellZ t k : Int) + nth L (i + lenZ t k) < (bestZ t s L i k).1 then ((cellZ t k : Int) + nth L (i + lenZ t k), k) else bestZ t s L i k
def leastL (t : List Sgn) : Wd → List Int
 | [] => [0]
 | b :: u => (bestZ t (b :: u) (0 :: leastL t u) 0 t.length).1 :: leastL t u
theorem leastL_drop (t : List Sgn) : ∀ (s : Wd) (i : Nat), i ≤ s.length → (leastL t s).drop i = leastL t (s.drop i)
 | s, 0, _ => rfl
 | [], i + 1, h => by simp at h
 | b :: u, i + 1, h => by
  rw [leastL, List.drop_succ_cons, List.drop_succ_cons]
  exact leastL_drop t u i (by simpa using h)
theorem nth_dropZ {α : Type} [Inhabited α] (l : List α) (e j : Nat) : nth (l.drop e) j = nth l (e + j) := nth_drop_add
theorem bestZ_congr {t : List Sgn} {s s2 : Wd} {L L2 : List Int} {i i2 : Nat} (hs : s.drop i = s2.drop i2) : ∀ k, (∀ j, j < k → 0 < lenZ t j) → (∀ d, 0 < d → nth L (i + d) = nth L2 (i2 + d)) → bestZ t s L i k = bestZ t s2 L2 i2 k
 | 0, _, _ => rfl
 | k + 1, h0, h => by
  rw [bestZ, bestZ, bestZ_congr hs k (fun j hj => h0 j (by omega)) h, hs, h _ (h0 k (by omega))]
theorem least_at {t : List Sgn} {s : Wd} (h0 : ∀ j, j < t.length → 0 < lenZ t j) {i : Nat} (hi : i < s.length) : nth (leastL t s) i = (bestZ t s (leastL t s) i t.length).1 := by
 have h1 : nth (leastL t s) i = nth ((leastL t s).drop i) 0 := by rw [nth_dropZ]; rfl
 rw [h1, leastL_drop t s i (by omega)]
 obtain ⟨b, u, hu⟩ : ∃ b u, s.drop i = b :: u := by
  cases h : s.drop i with
  | nil => have := congrArg List.length h; rw [List.length_drop] at this; simp at this; omega
  | cons b u => exact ⟨b, u, rfl⟩
 rw [hu, leastL]
 show (bestZ t (b :: u) (0 :: leastL t u) 0 t.length).1 = _
 congr 1
 refine bestZ_congr (by rw [List.drop_zero, hu]) _ h0 (fun d hd => ?_)
 have h2 : leastL t u = (leastL t s).drop (i + 1) := by
  rw [leastL_drop t s (i + 1) (by omega), ← List.drop_drop, hu]; rfl
 obtain ⟨e, rfl⟩ : ∃ e, d = e + 1 := ⟨d - 1, by omega⟩
 rw [Nat.zero_add]
 show nth (leastL t u) e = _
 rw [h2, nth_dropZ]
 congr 1; omega
theorem least_end (t : List Sgn) (s : Wd) : nth (leastL t s) s.length = 0 := by
 have h1 : nth (leastL t s) s.length = nth ((leastL t s).drop s.length) 0 := by rw [nth_dropZ]; rfl
 rw [h1, leastL_drop t s s.length (Nat.le_refl _), List.drop_length]; rfl
theorem bestZ_le {t : List Sgn} {s : Wd} {L : List Int} {i : Nat} : ∀ k, (bestZ t s L i k).1 ≤ neverZ
 | 0 => Int.le_refl _
 | k + 1 => by
  have := bestZ_le (t := t) (s := s) (L := L) (i := i) k
  rw [bestZ]
  split
  ·rename_i h; simp only; omega
  ·exact this
theorem bestZ_nonneg {t : List Sgn} {s : Wd} {L : List Int} {i : Nat} (h : ∀ d, 0 ≤ nth L d) : ∀ k, 0 ≤ (bestZ t s L i k).1
 | 0 => by show (0 : Int) ≤ neverZ; unfold neverZ; omega
 | k + 1 => by
  have := bestZ_nonneg (t := t) (s := s) (i := i) h k
  rw [bestZ]
  split
  ·have := h (i + lenZ t k); simp only; omega
  ·exact this
theorem least_all (t : List Sgn) : ∀ (s : Wd) (j : Nat), 0 ≤ nth (leastL t s) j ∧ nth (leastL t s) j ≤ neverZ
 | [], 0 => ⟨by show (0 : Int) ≤ 0; omega, by show (0 : Int) ≤ neverZ; unfold neverZ; omega⟩
 | [], j + 1 => ⟨by show (0 : Int) ≤ 0; omega, by show (0 : Int) ≤ neverZ; unfold neverZ; omega⟩
 | b :: u, 0 => by
  have ih := fun d => (least_all t u d).1
  refine ⟨bestZ_nonneg (fun d => ?_) _, bestZ_le _⟩
  cases d with
  | zero => exact Int.le_refl 0
  | succ d => exact ih d
 | b :: u, j + 1 => least_all t u j
theorem bestZ_spec {t : List Sgn} {s : Wd} {L : List Int} {i : Nat} : ∀ k, bestZ t s L i k = (neverZ, 0) ∨ ((bestZ t s L i k).2 < k ∧ preZ (nth t (bestZ t s L i k).2).text (s.drop i) = true ∧
  (bestZ t s L i k).1 = (cellZ t (bestZ t s L i k).2 : Int) + nth L (i + lenZ t (bestZ t s L i k).2) ∧ (bestZ t s L i k).1 < neverZ ∧
  ∀ j, j < (bestZ t s L i k).2 → preZ (nth t j).text (s.drop i) = true → (bestZ t s L i k).1 < (cellZ t j : Int) + nth L (i + lenZ t j))
 | 0 => .inl rfl
 | k + 1 => by
  have hle := bestZ_le (t := t) (s := s) (L := L) (i := i) k
  rw [bestZ]
  split
  ·rename_i h
   refine .inr ⟨by simp, h.1, rfl, by simp only; omega, fun j hj hp => ?_⟩
   simp only at hj ⊢
   have key : ∀ m, ∀ j, j < m → preZ (nth t j).text (s.drop i) = true → (bestZ t s L i m).1 ≤ (cellZ t j : Int) + nth L (i + lenZ t j) := by
    intro m
    induction m with
    | zero => intro j hj; omega
    | succ m ih =>
     intro j hj hp
     rw [bestZ]
     split
     ·rename_i h2
      by_cases e : j = m
      ·subst e; exact Int.le_refl _
      ·have := ih j (by omega) hp; simp only; omega
     ·rename_i h2
      by_cases e : j = m
      ·subst e
       rcases Int.lt_or_le ((cellZ t j : Int) + nth L (i + lenZ t j)) (bestZ t s L i j).1 with h3 | h3
       ·exact absurd ⟨hp, h3⟩ h2
       ·exact h3
      ·exact ih j (by omega) hp
   have := key k j hj hp
   omega
  ·rcases bestZ_spec (t := t) (s := s) (L := L) (i := i) k with h | ⟨h1, h2, h3, h4, h5⟩
   ·exact .inl h
   ·exact .inr ⟨by omega, h2, h3, h4, h5⟩
theorem bestZ_min {t : List Sgn} {s : Wd} {L : List Int} {i : Nat} : ∀ m, ∀ j, j < m → preZ (nth t j).text (s.drop i) = true → (bestZ t s L i m).1 ≤ (cellZ t j : Int) + nth L (i + lenZ t j) := by
 intro m
 induction m with
 | zero => intro j hj; omega
 | succ m ih =>
  intro j hj hp
  rw [bestZ]
  split
  ·rename_i h2
   by_cases e : j = m
   ·subst e; exact Int.le_refl _
   ·have := ih j (by omega) hp; simp only; omega
  ·rename_i h2
   by_cases e : j = m
   ·subst e
    rcases Int.lt_or_le ((cellZ t j : Int) + nth L (i + lenZ t j)) (bestZ t s L i j).1 with h3 | h3
    ·exact absurd ⟨hp, h3⟩ h2
    ·exact h3
   ·exact ih j (by omega) hp
def firstZ (t : List Sgn) (s : Wd) (i : Nat) : Nat := (bestZ t s (leastL t s) i t.length).2
def pathZ (t : List Sgn) (s : Wd) : Nat → Nat → List Nat
 | 0, _ => []
 | f + 1, i => if i < s.length then firstZ t s i :: pathZ t s f (i + lenZ t (firstZ t s i)) else []
def signsZ (t : List Sgn) (s : Wd) : List Int := (pathZ t s s.length 0).map fun (k : Nat) => (k : Int)
def cellsZ (t : List Sgn) (l : List Nat) : List Int := l.flatMap fun k => (nth t k).cells
def encodeZ (t : List Sgn) (s : Wd) : List Int × List Int × Bool × Int :=
 if ¬ checkZ t = 0 then ([], [], false, checkZ t)
 else if ¬ (runesG s).2 = 0 then ([], [], false, (runesG s).2)
 else if neverZ ≤ nth (leastL t s) 0 then ([], [], false, 0)
 else if 4096 < nth (leastL t s) 0 then ([], [], false, 2)
 else (signsZ t s, cellsZ t (pathZ t s s.length 0), true, 0)
theorem preZ_len {p s : Wd} {i : Nat} (h : preZ p (s.drop i) = true) : p.length ≤ s.length - i := by
 unfold preZ at h
 rw [decide_eq_true_eq] at h
 have := h.length_le
 rwa [List.length_drop] at this
theorem path_step {t : List Sgn} {s : Wd} (h0 : ∀ j, j < t.length → 0 < lenZ t j) {i : Nat} (hi : i < s.length) (hn : nth (leastL t s) i < neverZ) :
  firstZ t s i < t.length ∧ i + lenZ t (firstZ t s i) ≤ s.length ∧ 0 < lenZ t (firstZ t s i) ∧ nth (leastL t s) i = (cellZ t (firstZ t s i) : Int) + nth (leastL t s) (i + lenZ t (firstZ t s i)) ∧
  nth (leastL t s) (i + lenZ t (firstZ t s i)) < neverZ ∧ preZ (nth t (firstZ t s i)).text (s.drop i) = true := by
 have ha := least_at (t := t) (s := s) h0 hi
 rcases bestZ_spec (t := t) (s := s) (L := leastL t s) (i := i) t.length with h | ⟨h1, h2, h3, h4, h5⟩
 ·rw [h] at ha; simp only at ha; omega
 ·rw [← ha] at h3
  have hl := preZ_len h2
  refine ⟨h1, ?_, h0 _ h1, h3, ?_, h2⟩
  ·show i + (nth t (bestZ t s (leastL t s) i t.length).2).text.length ≤ s.length
   omega
  ·show nth (leastL t s) (i + lenZ t (bestZ t s (leastL t s) i t.length).2) < neverZ
   omega
end Go.Ab
