/- Layer 9 (text): appending code points; the program's Join. -/
import Derived.Test.YtjhpmmomalaiiaaDoorT7
set_option linter.unusedVariables false
set_option linter.unusedSimpArgs false
set_option linter.unusedSectionVars false
set_option linter.deprecated false
namespace Go.Ab
open Go.Proofs
set_option maxRecDepth 100000
set_option maxHeartbeats 4000000
theorem fold_b1 (a b : Bool) (tok : Option Nat) {x : Int} (h : 0 ≤ x ∧ x ≤ 255) : V.row a b [.int .u8 x] 1 tok = R (a, b, tok) eB [ib x] := by
  simp [R, eB, ib_nat h]
theorem fold_b2 (a b : Bool) (tok : Option Nat) {x y : Int} (h : (0 ≤ x ∧ x ≤ 255) ∧ 0 ≤ y ∧ y ≤ 255) : V.row a b [.int .u8 x, .int .u8 y] 2 tok = R (a, b, tok) eB [ib x, ib y] := by
  simp [R, eB, ib_nat h.1, ib_nat h.2]
theorem fold_b3 (a b : Bool) (tok : Option Nat) {x y z : Int} (h : (0 ≤ x ∧ x ≤ 255) ∧ (0 ≤ y ∧ y ≤ 255) ∧ 0 ≤ z ∧ z ≤ 255) : V.row a b [.int .u8 x, .int .u8 y, .int .u8 z] 3 tok = R (a, b, tok) eB [ib x, ib y, ib z] := by
  simp [R, eB, ib_nat h.1, ib_nat h.2.1, ib_nat h.2.2]
theorem fold_b4 (a b : Bool) (tok : Option Nat) {x y z w : Int} (h : (0 ≤ x ∧ x ≤ 255) ∧ (0 ≤ y ∧ y ≤ 255) ∧ (0 ≤ z ∧ z ≤ 255) ∧ 0 ≤ w ∧ w ≤ 255) : V.row a b [.int .u8 x, .int .u8 y, .int .u8 z, .int .u8 w] 4 tok = R (a, b, tok) eB [ib x, ib y, ib z, ib w] := by
  simp [R, eB, ib_nat h.1, ib_nat h.2.1, ib_nat h.2.2.1, ib_nat h.2.2.2]
theorem ishr_6 {x : Int} (h : 0 ≤ x) : ishr .i32 x 6 = x / 64 := by
  unfold ishr; rw [show (2 : Int) ^ min (6 : Int).toNat IntKind.i32.bits = 64 by decide, Int.fdiv_eq_ediv_of_nonneg _ (by omega)]
theorem ishr_12 {x : Int} (h : 0 ≤ x) : ishr .i32 x 12 = x / 4096 := by
  unfold ishr; rw [show (2 : Int) ^ min (12 : Int).toNat IntKind.i32.bits = 4096 by decide, Int.fdiv_eq_ediv_of_nonneg _ (by omega)]
theorem ishr_18 {x : Int} (h : 0 ≤ x) : ishr .i32 x 18 = x / 262144 := by
  unfold ishr; rw [show (2 : Int) ^ min (18 : Int).toNat IntKind.i32.bits = 262144 by decide, Int.fdiv_eq_ediv_of_nonneg _ (by omega)]
theorem wrapu8 (n : Int) : IntKind.u8.wrap n = n % 256 := IntKind.wrap_u8 n
/-- two bytes without a bit in common -/
theorem ior8_low (j : Nat) {x y : Int} (hj : j ≤ 7) (hx : 0 ≤ x ∧ x ≤ 255) (hm : x % 2 ^ j = 0) (hy : 0 ≤ y) (hy2 : y < 2 ^ j) : ior .u8 x y = x + y := by
  obtain ⟨n, rfl⟩ := Int.eq_ofNat_of_zero_le hx.1
  obtain ⟨m, rfl⟩ := Int.eq_ofNat_of_zero_le hy
  have hb : (2 : Nat) ^ IntKind.u8.bits = 256 := by decide
  have hp : (2 : Nat) ^ j ≤ 128 := by
    have := Nat.pow_le_pow_right (n := 2) (by omega) hj
    simpa using this
  have hm' : n % 2 ^ j = 0 := by
    have : ((n % 2 ^ j : Nat) : Int) = 0 := by simpa using hm
    omega
  have hy' : m < 2 ^ j := by
    have : ((m : Nat) : Int) < ((2 ^ j : Nat) : Int) := by simpa using hy2
    omega
  have h1 : (BitVec.ofInt IntKind.u8.bits (n : Int)).toNat = n := by
    rw [BitVec.ofInt_natCast, BitVec.toNat_ofNat, hb]
    exact Nat.mod_eq_of_lt (by omega)
  have h2 : (BitVec.ofInt IntKind.u8.bits (m : Int)).toNat = m := by
    rw [BitVec.ofInt_natCast, BitVec.toNat_ofNat, hb]
    exact Nat.mod_eq_of_lt (by omega)
  have h3 : n = 2 ^ j * (n / 2 ^ j) := by have := Nat.div_add_mod n (2 ^ j); omega
  unfold ior
  rw [BitVec.toNat_or, h1, h2]
  have h4 : n ||| m = n + m := by
    have := Nat.two_pow_add_eq_or_of_lt hy' (n / 2 ^ j)
    rw [← h3] at this
    exact this.symm
  have h5 : n ||| m < 2 ^ 8 := Nat.or_lt_two_pow (by omega) (by omega)
  rw [h4] at h5
  rw [h4]
  exact IntWalk.u8_in _ (by omega)
theorem ior192 {y : Int} (h : 0 ≤ y ∧ y < 64) : ior .u8 192 y = 192 + y := ior8_low 6 (by omega) (by omega) (by decide) h.1 h.2
theorem ior128 {y : Int} (h : 0 ≤ y ∧ y < 128) : ior .u8 128 y = 128 + y := ior8_low 7 (by omega) (by omega) (by decide) h.1 h.2
theorem ior224 {y : Int} (h : 0 ≤ y ∧ y < 32) : ior .u8 224 y = 224 + y := ior8_low 5 (by omega) (by omega) (by decide) h.1 h.2
theorem ior240 {y : Int} (h : 0 ≤ y ∧ y < 16) : ior .u8 240 y = 240 + y := ior8_low 4 (by omega) (by omega) (by decide) h.1 h.2
theorem m256_64 (r : Int) : r % 256 % 64 = r % 64 := by omega
theorem m256d (r : Int) (h : 0 ≤ r ∧ r ≤ 65535) : r / 64 % 256 % 64 = r / 64 % 64 := by omega
@[simp] theorem SAppendRune (r : Int) (b : List UInt8) (fl : Fl) (h : Heap) (hr : point r = true) (ha : App h.ts 1 fl) (hb : b.length ≤ 2000000) :
    Ci cfg (.func (.func 52) [] []) [R fl eB b, .int .i32 r] h = some (.ret (R (false, false, some h.ts.length) eB (b ++ encR r)), bump h fl.2.2 1) := by
  rw [point_t] at hr
  refine Ci_fun_wp (fn := Tryd.f52) rfl Tryd.func52 rfl (by simp [Tryd.f52]) ?_
  by_cases h1 : r < 128
  · have he : encR r = [ib r] := by unfold encR; rw [if_pos h1]
    simp (disch := first | assumption | omega | (simp; done) | (simp; omega)) [-getElem?_pos, List.getElem?_cons_zero, List.getElem?_cons_succ, Tryd.f52, fold_b1, he]
  by_cases h2 : r < 2048
  · have he : encR r = [ib (192 + r / 64), ib (128 + r % 64)] := by unfold encR; rw [if_neg h1, if_pos h2]
    simp (disch := first | assumption | omega | (simp; done) | (simp; omega)) [-getElem?_pos, List.getElem?_cons_zero, List.getElem?_cons_succ, Tryd.f52, Tryd.f58, fold_b2, he, ishr_6, wrapu8, iand_63, m256_64, ior192, ior128, append_Rn]
  by_cases h3 : r < 65536
  · have he : encR r = [ib (224 + r / 4096), ib (128 + r / 64 % 64), ib (128 + r % 64)] := by unfold encR; rw [if_neg h1, if_neg h2, if_pos h3]
    have h4 : r < 55296 ∨ 57343 < r := hr.2.2
    rcases h4 with h4 | h4
    · simp (disch := first | assumption | omega | (simp; done) | (simp; omega)) [-getElem?_pos, List.getElem?_cons_zero, List.getElem?_cons_succ, Tryd.f52, Tryd.f58, fold_b3, he, ishr_6, ishr_12, wrapu8, iand_63, m256_64, ior224, ior128, append_Rn]
    · simp (disch := first | assumption | omega | (simp; done) | (simp; omega)) [-getElem?_pos, List.getElem?_cons_zero, List.getElem?_cons_succ, Tryd.f52, Tryd.f58, fold_b3, he, ishr_6, ishr_12, wrapu8, iand_63, m256_64, ior224, ior128, append_Rn]
  · have he : encR r = [ib (240 + r / 262144), ib (128 + r / 4096 % 64), ib (128 + r / 64 % 64), ib (128 + r % 64)] := by unfold encR; rw [if_neg h1, if_neg h2, if_neg h3]
    simp (disch := first | assumption | omega | (simp; done) | (simp; omega)) [-getElem?_pos, List.getElem?_cons_zero, List.getElem?_cons_succ, Tryd.f52, Tryd.f58, fold_b4, he, ishr_6, ishr_12, ishr_18, wrapu8, iand_63, m256_64, ior240, ior128, append_Rn]
/-- what joined answers -/
def joinedV (tok : Nat) (l : List Int) : V := if 4096 < (encAll l).length then .row true true [] 0 none else R (false, false, some tok) eB (encAll l)
theorem App.ext {ts : List (Option Nat)} {sz : Nat} {fl : Fl} (X : List (Option Nat)) (ha : App ts sz fl) : App (ts ++ X) sz fl := by
  rcases ha.ok with h | ⟨k, h1, h2⟩
  · exact ⟨.inl h⟩
  · exact ⟨.inr ⟨k, h1, by rw [List.getElem?_append_left (List.getElem?_eq_some_iff.1 h2).1, h2]⟩⟩
theorem ts_next (a X : List (Option Nat)) : bumpT (a ++ X ++ [some 1]) (some (a.length + X.length)) 1 = a ++ (X ++ [none]) ++ [some 1] := by
  unfold bumpT
  simp only
  rw [List.set_append_right _ _ (by simp)]
  simp
theorem App.tail (a X : List (Option Nat)) : App (a ++ X ++ [some 1]) 1 (false, false, some (a.length + X.length)) := by
  refine ⟨.inr ⟨_, rfl, ?_⟩⟩
  rw [List.getElem?_append_right (by simp)]
  simp
theorem Jjoined {k : CC} {K : List Fr} {Q : Ax → St → Prop} (l : List Int) (q : Fl) (hh : Heap) (hl : l.length ≤ 4294967296) (hp : l.all point = true)
    (H : ∀ X tok, wk cfg k K Q (some (.ret (joinedV tok l), ⟨hh.bs, hh.ts ++ X⟩))) : wk cfg k K Q (Ci cfg (.func (.func 43) [] []) [R q eI l] hh) := by
  repeat' (first | (refine wpc_split _ (fun hc => ?_) (fun hc => ?_) <;> (try simp at hc)) | (refine ww_split _ (fun hc => ?_) (fun hc => ?_) <;> (try simp at hc)) | (refine wp_drawF (by kernel_rfl) ?_) | (refine wk_yldW _ ?_) | (refine layOwe _ (by kernel_rfl) ?_) | (refine owe ?_ (fun ho => ?_)) | (simp (disch := first | assumption | omega | (simp; done) | (simp; omega)) [Tryd.f43, -getElem?_pos, List.getElem?_cons_zero, List.getElem?_cons_succ]))
  refine wp_loopE cfg rfl (fun f0 h0 m fr h => ∃ i : Nat, ∃ X : List (Option Nat), fr 9 = f0 9 ∧ fr 10 = f0 10 ∧ fr 11 = .int .i64 i ∧ fr 3 = R (false, false, some (hh.ts.length + X.length)) eB (encAll (l.take i)) ∧ (h.bs = hh.bs) ∧ (h.ts = hh.ts ++ X ++ [some 1]) ∧ (i + m = l.length) ∧ ((encAll (l.take i)).length ≤ 4096)) (l.length) _ _ ⟨0, [], rfl, rfl, by first | rfl | (simp; done) | (simp [R]; done) | simp [R], by first | rfl | (simp; done) | (simp [R]; done) | simp [R], by first | rfl | (simp; done) | omega, by first | rfl | (simp; done) | omega, by first | rfl | (simp; done) | omega, by first | rfl | (simp; done) | omega⟩ ?_
  rintro Am Af Ah ⟨i, X, A9, A10, A11, A3, hb, hts, hm, hle⟩ Aih
  try simp at A9 A10
  have hA : App Ah.ts 1 (false, false, some (hh.ts.length + X.length)) := by rw [hts]; exact App.tail _ _
  have hle2 := encAll_take_le l i
  have hle3 := encAll_take_le l (i + 1)
  by_cases hi : i < l.length
  · have hpt : point (nth l i) = true := by rw [List.all_eq_true] at hp; exact hp _ (nth_mem hi)
    have hp2 := hpt
    rw [point_t] at hp2
    have hel := encR_len (nth l i)
    have hen := congrArg List.length (encAll_take hi)
    rw [List.length_append] at hen
    repeat' (first | (refine wpc_split _ (fun hc => ?_) (fun hc => ?_) <;> (try simp at hc)) | (refine ww_split _ (fun hc => ?_) (fun hc => ?_) <;> (try simp at hc)) | (refine wp_drawF (by kernel_rfl) ?_) | (refine wk_yldW _ ?_) | (refine layOwe _ (by kernel_rfl) ?_) | (refine owe ?_ (fun ho => ?_)) | (simp (disch := first | assumption | omega | (simp; done) | (simp; omega)) [A9, A10, A11, A3, eI, hpt, hA, -getElem?_pos, List.getElem?_cons_zero, List.getElem?_cons_succ]))
    · have hj : joinedV 0 l = .row true true [] 0 none := by unfold joinedV; rw [if_pos (by omega)]
      have := H (X ++ [none] ++ [some 1]) 0
      rw [hj] at this
      rw [hb, hts, ts_next]
      simpa using this
    · exact Aih (Am - 1) _ _ (by omega) ⟨i + 1, X ++ [none], by simp [A9, A10, A11, A3, encAll_take hi, hts, Nat.add_assoc], by simp [A9, A10, A11, A3, encAll_take hi, hts, Nat.add_assoc], by simp [A9, A10, A11, A3, encAll_take hi, hts, Nat.add_assoc], by simp [A9, A10, A11, A3, encAll_take hi, hts, Nat.add_assoc], by simp [hb], by simp only; rw [hts]; exact ts_next _ _, by omega, by omega⟩
  · have he : encAll (l.take i) = encAll l := by rw [List.take_of_length_le (by omega)]
    rw [he] at hle
    repeat' (first | (refine wpc_split _ (fun hc => ?_) (fun hc => ?_) <;> (try simp at hc)) | (refine ww_split _ (fun hc => ?_) (fun hc => ?_) <;> (try simp at hc)) | (refine wp_drawF (by kernel_rfl) ?_) | (refine wk_yldW _ ?_) | (refine layOwe _ (by kernel_rfl) ?_) | (refine owe ?_ (fun ho => ?_)) | (simp (disch := first | assumption | omega | (simp; done) | (simp; omega)) [A9, A10, A11, A3, -getElem?_pos, List.getElem?_cons_zero, List.getElem?_cons_succ]))
    have hj : joinedV (hh.ts.length + X.length) l = R (false, false, some (hh.ts.length + X.length)) eB (encAll l) := by unfold joinedV; rw [if_neg (by omega)]
    have := H (X ++ [some 1]) (hh.ts.length + X.length)
    rw [hj] at this
    obtain ⟨bs, ts⟩ := Ah
    simp only at hb hts
    subst hb hts
    rw [he]
    simpa using this
theorem eqV_jn {P : Program} {t : TypeId} {b : Bool} {tok : Nat} {s : List UInt8} (h : slcD (P.underlying t) = true) : eqV P b t (R (false, false, some tok) eB s) (.row true true [] 0 none) = some false := by
  unfold R
  rw [eqV_rn h]
  simp
theorem eqV_nn {P : Program} {t : TypeId} {b f : Bool} (h : slcD (P.underlying t) = true) : eqV P b t (.row true f [] 0 none) (.row true true [] 0 none) = some true := by
  rw [eqV_rn h]; rfl
theorem C33 (l : List Int) (hs : l.length ≤ 4294967296) : Kc cfg 33 [R fl0 eI l] (.ret (.tuple [.str (joinG l).1, .int .i64 (joinG l).2])) := by
  refine outS_of_wp cfg (fn := Tryd.f33) Tryd.func33 rfl (by simp [Tryd.f33]) ?_
  simp (disch := first | assumption | omega | (simp; done) | (simp; omega)) [-getElem?_pos, List.getElem?_cons_zero, List.getElem?_cons_succ, Tryd.f33]
  refine wp_loopE cfg rfl (fun f0 h0 m fr h => ∃ i : Nat, fr 0 = f0 0 ∧ fr 7 = f0 7 ∧ fr 8 = f0 8 ∧ fr 9 = .int .i64 i ∧ (i + m = l.length) ∧ ((l.take i).all point = true)) (l.length) _ _ ⟨0, rfl, rfl, rfl, by first | rfl | (simp; done) | (simp [R]; done) | simp [R], by first | rfl | (simp; done) | omega, by first | rfl | (simp; done) | omega⟩ ?_
  rintro Am Af Ah ⟨i, A0, A7, A8, A9, hm, ht⟩ Aih
  try simp at A0 A7 A8
  by_cases hi : i < l.length
  · by_cases hp : point (nth l i) = true
    · repeat' (first | (refine wpc_split _ (fun hc => ?_) (fun hc => ?_) <;> (try simp at hc)) | (refine ww_split _ (fun hc => ?_) (fun hc => ?_) <;> (try simp at hc)) | (refine wp_drawF (by kernel_rfl) ?_) | (refine wk_yldW _ ?_) | (refine layOwe _ (by kernel_rfl) ?_) | (refine owe ?_ (fun ho => ?_)) | (simp (disch := first | assumption | omega | (simp; done) | (simp; omega)) [A0, A7, A8, A9, eI, hp, -getElem?_pos, List.getElem?_cons_zero, List.getElem?_cons_succ]))
      exact Aih (Am - 1) _ _ (by omega) ⟨i + 1, by simp [A0, A7, A8, A9], by simp [A0, A7, A8, A9], by simp [A0, A7, A8, A9], by simp [A0, A7, A8, A9], by omega, all_take_next hi ht hp⟩
    · have hp : point (nth l i) = false := by simpa using hp
      have hj : joinG l = ([], 90) := by unfold joinG; rw [all_nth_false hi hp]; rfl
      repeat' (first | (refine wpc_split _ (fun hc => ?_) (fun hc => ?_) <;> (try simp at hc)) | (refine ww_split _ (fun hc => ?_) (fun hc => ?_) <;> (try simp at hc)) | (refine wp_drawF (by kernel_rfl) ?_) | (refine wk_yldW _ ?_) | (refine layOwe _ (by kernel_rfl) ?_) | (refine owe ?_ (fun ho => ?_)) | (simp (disch := first | assumption | omega | (simp; done) | (simp; omega)) [A0, A7, A8, A9, eI, hp, -getElem?_pos, List.getElem?_cons_zero, List.getElem?_cons_succ]))
      rw [hj]; exact ⟨rfl, rfl⟩
  · rw [List.take_of_length_le (by omega)] at ht
    repeat' (first | (refine wpc_split _ (fun hc => ?_) (fun hc => ?_) <;> (try simp at hc)) | (refine ww_split _ (fun hc => ?_) (fun hc => ?_) <;> (try simp at hc)) | (refine wp_drawF (by kernel_rfl) ?_) | (refine wk_yldW _ ?_) | (refine layOwe _ (by kernel_rfl) ?_) | (refine owe ?_ (fun ho => ?_)) | (simp (disch := first | assumption | omega | (simp; done) | (simp; omega)) [A0, A7, A8, A9, -I43, -getElem?_pos, List.getElem?_cons_zero, List.getElem?_cons_succ]))
    refine Jjoined l _ _ hs ht (fun X tok => ?_)
    by_cases h4 : 4096 < (encAll l).length
    · have hj : joinG l = ([], 2) := by unfold joinG; rw [ht, if_pos rfl, if_pos h4]
      have hv : joinedV tok l = .row true true [] 0 none := by unfold joinedV; rw [if_pos h4]
      rw [hv, hj]
      repeat' (first | (refine wpc_split _ (fun hc => ?_) (fun hc => ?_) <;> (try simp at hc)) | (refine ww_split _ (fun hc => ?_) (fun hc => ?_) <;> (try simp at hc)) | (refine wp_drawF (by kernel_rfl) ?_) | (refine wk_yldW _ ?_) | (refine layOwe _ (by kernel_rfl) ?_) | (refine owe ?_ (fun ho => ?_)) | (simp (disch := first | assumption | omega | (simp; done) | (simp; omega)) [eqV_nn, -getElem?_pos, List.getElem?_cons_zero, List.getElem?_cons_succ]))
    · have hj : joinG l = (encAll l, 0) := by unfold joinG; rw [ht, if_pos rfl, if_neg h4]
      have hv : joinedV tok l = R (false, false, some tok) eB (encAll l) := by unfold joinedV; rw [if_neg h4]
      rw [hv, hj]
      repeat' (first | (refine wpc_split _ (fun hc => ?_) (fun hc => ?_) <;> (try simp at hc)) | (refine ww_split _ (fun hc => ?_) (fun hc => ?_) <;> (try simp at hc)) | (refine wp_drawF (by kernel_rfl) ?_) | (refine wk_yldW _ ?_) | (refine layOwe _ (by kernel_rfl) ?_) | (refine owe ?_ (fun ho => ?_)) | (simp (disch := first | assumption | omega | (simp; done) | (simp; omega)) [eqV_jn, -getElem?_pos, List.getElem?_cons_zero, List.getElem?_cons_succ]))
@[simp] theorem S33 (l : List Int) (hs : l.length ≤ 4294967296) (q1 : Fl) (hh : Heap) : Ci cfg (.func (.func 33) [] []) [R  q1 eI l] hh = some (.ret (.tuple [.str (joinG l).1, .int .i64 (joinG l).2]), hh) :=
  Ci_K cfg rfl rfl (by simp) (by simp) (C33 l hs)
end Go.Ab
