/- TextBytes: the law. -/
import Derived.Test.YtgeohlknkajlkaaDoorS09
import Derived.Test.YtgeohlknkajlkaaDoorP09
import Derived.Test.YtgeohlknkajlkaaDoorT10
set_option linter.unusedVariables false
set_option linter.unusedSimpArgs false
set_option linter.unusedSectionVars false
set_option linter.deprecated false
namespace Go.Ab
open Go.Proofs
set_option maxRecDepth 100000
set_option maxHeartbeats 4000000
theorem kindG_ok {r : Int} (h : point r = true) : (kindG r).2 = 0 := by unfold kindG; rw [if_pos h]
theorem kindG_no {r : Int} (h : ¬ point r = true) : kindG r = (0, 90) := by unfold kindG; rw [if_neg h]
theorem ixor8_bound (x y : Int) : 0 ≤ ixor .u8 x y ∧ ixor .u8 x y ≤ 255 := by
  unfold ixor; rw [wrapu8]; omega
theorem ixor8_zero {x : Int} (h : 0 ≤ x ∧ x ≤ 255) : ixor .u8 x 0 = x := by
  obtain ⟨n, rfl⟩ := Int.eq_ofNat_of_zero_le h.1
  have hb : (2 : Nat) ^ IntKind.u8.bits = 256 := by decide
  unfold ixor
  have h1 : (BitVec.ofInt IntKind.u8.bits (n : Int)).toNat = n := by
    rw [BitVec.ofInt_natCast, BitVec.toNat_ofNat, hb]
    exact Nat.mod_eq_of_lt (by omega)
  rw [BitVec.toNat_xor, h1]
  have h2 : (BitVec.ofInt IntKind.u8.bits 0).toNat = 0 := by decide
  rw [h2, Nat.xor_zero]
  exact IntWalk.u8_in _ h
theorem ixor8_ne {x y : Int} (h : 0 ≤ x ∧ x ≤ 255) (hy : 0 ≤ y ∧ y ≤ 255) (h0 : y ≠ 0) : ixor .u8 x y ≠ x := by
  obtain ⟨n, rfl⟩ := Int.eq_ofNat_of_zero_le h.1
  obtain ⟨m, rfl⟩ := Int.eq_ofNat_of_zero_le hy.1
  have hb : (2 : Nat) ^ IntKind.u8.bits = 256 := by decide
  have h1 : (BitVec.ofInt IntKind.u8.bits (n : Int)).toNat = n := by
    rw [BitVec.ofInt_natCast, BitVec.toNat_ofNat, hb]
    exact Nat.mod_eq_of_lt (by omega)
  have h2 : (BitVec.ofInt IntKind.u8.bits (m : Int)).toNat = m := by
    rw [BitVec.ofInt_natCast, BitVec.toNat_ofNat, hb]
    exact Nat.mod_eq_of_lt (by omega)
  unfold ixor
  rw [BitVec.toNat_xor, h1, h2, IntWalk.u8_in _ (by have := Nat.xor_lt_two_pow (n := 8) (x := n) (y := m) (by omega) (by omega); omega)]
  intro e
  have e2 : n ^^^ m = n := by omega
  have e3 : n ^^^ (n ^^^ m) = 0 := by rw [e2, Nat.xor_self]
  rw [← Nat.xor_assoc, Nat.xor_self, Nat.zero_xor] at e3
  omega
/-- how many bytes a code point has -/
theorem encR_size (r : Int) : ((encR r).length : Int) = 1 + (if 128 ≤ r then 1 else 0) + (if 2048 ≤ r then 1 else 0) + (if 65536 ≤ r then 1 else 0) := by
  unfold encR
  split
  · rw [if_neg (by omega), if_neg (by omega), if_neg (by omega)]; rfl
  · split
    · rw [if_pos (by omega), if_neg (by omega), if_neg (by omega)]; rfl
    · split
      · rw [if_pos (by omega), if_pos (by omega), if_neg (by omega)]; rfl
      · rw [if_pos (by omega), if_pos (by omega), if_pos (by omega)]; rfl
theorem C6 (r ka kb : Int) (hr : -9223372036854775808 ≤ r ∧ r ≤ 9223372036854775807) (ha : 0 ≤ ka ∧ ka ≤ 255) (hb : 0 ≤ kb ∧ kb ≤ 255) : Kc cfg 6 [.int .i64 r, .int .u8 ka, .int .u8 kb] (.ret (.bool true)) := by
  by_cases hp : point r = true
  · have hj : joinG [r] = (encR r, 0) := by
      have := encR_len r
      rw [joinG_part (by simp [hp]) (by simp; omega)]; simp
    have hk := kindG_ok hp
    have hen := encR_len r
    have hsz := encR_size r
    obtain ⟨k, hkm, hkl⟩ : ∃ k : Nat, ka % ((encR r).length : Int) = (k : Int) ∧ k < (encR r).length := by
      refine ⟨(ka % ((encR r).length : Int)).toNat, ?_, ?_⟩
      · have := Int.emod_nonneg ka (b := ((encR r).length : Int)) (by omega); omega
      · have := Int.emod_lt_of_pos ka (b := ((encR r).length : Int)) (by omega); omega
    have hr1b : runesG (encR r) = ([r], 0) := by
      have := runes_encAll (l := [r]) (by simp [hp])
      simp at this
      exact runesG_some (by omega) this
    by_cases h128 : r < 128
    · have hp0 := hp
      rw [point_t] at hp0
      have he : encR r = [ib r] := by unfold encR; rw [if_pos h128]
      have hib : (((ib r).toNat : Nat) : Int) = r := ib_nat (by omega)
      rw [he] at hj hr1b
      by_cases h0 : kb = 0
      · subst h0
        have hx0 := ixor8_zero (x := r) (by omega)
        have hbb : UInt8.ofNat r.toNat = ib r := rfl
        refine outS_of_wp cfg (fn := Tryd.f6) Tryd.func6 rfl (by simp [Tryd.f6]) ?_
        simp (disch := first | assumption | omega | (simp; done) | (simp; omega)) [-getElem?_pos, List.getElem?_cons_zero, List.getElem?_cons_succ, Tryd.f6, fold_I1, hj, hk]
        repeat' (first | (refine wp_unroll rfl ?_) | (refine wpc_split _ (fun hc => ?_) (fun hc => ?_) <;> (try simp at hc)) | (refine ww_split _ (fun hc => ?_) (fun hc => ?_) <;> (try simp at hc)) | (refine wp_draw _ (by kernel_rfl) ?_) | (refine wk_yldW _ ?_) | (refine owe ?_ (fun ho => ?_)) | (simp (disch := first | assumption | omega | (simp; done) | (simp; omega)) [fold_I1, hj, hk, eB, hib, hx0, bytesOfCells, hbb, hr1b, eI, -getElem?_pos, List.getElem?_cons_zero, List.getElem?_cons_succ]))
      · have hxb := ixor8_bound r kb
        have hxn := ixor8_ne (x := r) (y := kb) (by omega) hb h0
        generalize hx : ixor .u8 r kb = x at *
        have hne : (runesG [UInt8.ofNat x.toNat]).2 = 0 → ((runesG [UInt8.ofNat x.toNat]).1.length : Int) = 1 → nth (runesG [UInt8.ofNat x.toNat]).1 0 = r → False := by
          intro h1 h2 h3
          obtain ⟨q1, q2⟩ := runesG_all h1
          obtain ⟨q3, q4⟩ := runes_enc' q2
          have q5 : (runesG [UInt8.ofNat x.toNat]).1 = [r] := by
            cases hq : (runesG [UInt8.ofNat x.toNat]).1 with
            | nil => rw [hq] at h2; simp at h2
            | cons y l => cases l with
              | nil => rw [hq] at h3; simp at h3; rw [h3]
              | cons z l => rw [hq] at h2; simp at h2; omega
          rw [q5] at q3
          simp [he] at q3
          have h4 := congrArg UInt8.toNat q3
          rw [UInt8.toNat_ofNat'] at h4
          omega
        refine outS_of_wp cfg (fn := Tryd.f6) Tryd.func6 rfl (by simp [Tryd.f6]) ?_
        simp (disch := first | assumption | omega | (simp; done) | (simp; omega)) [-getElem?_pos, List.getElem?_cons_zero, List.getElem?_cons_succ, Tryd.f6, fold_I1, hj, hk]
        repeat' (first | (refine wp_unroll rfl ?_) | (refine wpc_split _ (fun hc => ?_) (fun hc => ?_) <;> (try simp at hc)) | (refine ww_split _ (fun hc => ?_) (fun hc => ?_) <;> (try simp at hc)) | (refine wp_draw _ (by kernel_rfl) ?_) | (refine wk_yldW _ ?_) | (refine owe ?_ (fun ho => ?_)) | (simp (disch := first | assumption | omega | (simp; done) | (simp; omega)) [fold_I1, hj, hk, eB, hib, hx, bytesOfCells, eI, -getElem?_pos, List.getElem?_cons_zero, List.getElem?_cons_succ]))
        all_goals exact fun h => hne (by assumption) (by assumption) h
    refine outS_of_wp cfg (fn := Tryd.f6) Tryd.func6 rfl (by simp [Tryd.f6]) ?_
    simp (disch := first | assumption | omega | (simp; done) | (simp; omega)) [-getElem?_pos, List.getElem?_cons_zero, List.getElem?_cons_succ, Tryd.f6, fold_I1, hj, hk]
    repeat' (first | (refine wp_unroll rfl ?_) | (refine wpc_split _ (fun hc => ?_) (fun hc => ?_) <;> (try simp at hc)) | (refine ww_split _ (fun hc => ?_) (fun hc => ?_) <;> (try simp at hc)) | (refine wp_draw _ (by kernel_rfl) ?_) | (refine wk_yldW _ ?_) | (refine owe ?_ (fun ho => ?_)) | (simp (disch := first | assumption | omega | (simp; done) | (simp; omega)) [fold_I1, hj, hk, -getElem?_pos, List.getElem?_cons_zero, List.getElem?_cons_succ]))
    all_goals
      have hlen : (encR r).length = 1 ∨ (encR r).length = 2 ∨ (encR r).length = 3 ∨ (encR r).length = 4 := by omega
      have hxb := ixor8_bound (nth (encR r) k).toNat kb
      have hrl : (rows eB (encR r)).length = (encR r).length := by rw [rows_length, Nat.mul_one]
      have hset : ((encR r).set k (UInt8.ofNat (ixor .u8 (nth (encR r) k).toNat kb).toNat)).length = (encR r).length := by simp
      have hset0 : kb = 0 → (encR r).set k (UInt8.ofNat (ixor .u8 (nth (encR r) k).toNat kb).toNat) = encR r := by
        intro h0
        have g := UInt8.toNat_lt (nth (encR r) k)
        rw [h0, ixor8_zero (by omega)]
        simp [nth_eq hkl]
      have hset1 : kb ≠ 0 → (encR r).set k (UInt8.ofNat (ixor .u8 (nth (encR r) k).toNat kb).toNat) ≠ encR r := by
        intro h0 e
        have g := UInt8.toNat_lt (nth (encR r) k)
        have h2 := ixor8_ne (x := (nth (encR r) k).toNat) (y := kb) (by omega) hb h0
        have h3 := nth_set (l := encR r) (j := k) (x := UInt8.ofNat (ixor .u8 (nth (encR r) k).toNat kb).toNat) hkl
        rw [if_pos rfl, e] at h3
        have h4 := congrArg UInt8.toNat h3
        rw [UInt8.toNat_ofNat'] at h4
        omega
      generalize hs' : (encR r).set k (UInt8.ofNat (ixor .u8 (nth (encR r) k).toNat kb).toNat) = s' at *
      have hrl2 : (rows eB s').length = s'.length := by rw [rows_length, Nat.mul_one]
      have hne : kb ≠ 0 → (runesG s').2 = 0 → ((runesG s').1.length : Int) = 1 → nth (runesG s').1 0 = r → False := by
        intro h0 h1 h2 h3
        obtain ⟨q1, q2⟩ := runesG_all h1
        obtain ⟨q3, q4⟩ := runes_enc' q2
        have q5 : (runesG s').1 = [r] := by
          cases hq : (runesG s').1 with
          | nil => rw [hq] at h2; simp at h2
          | cons y l => cases l with
            | nil => rw [hq] at h3; simp at h3; rw [h3]
            | cons z l => rw [hq] at h2; simp at h2; omega
        rw [q5] at q3
        simp at q3
        exact hset1 h0 q3.symm
      rcases hlen with hlen | hlen | hlen | hlen <;> rw [hlen] at hkm <;> (try simp at hkm) <;> first
        | (exfalso; omega)
        | (by_cases h0 : kb = 0
           · have hr1 : runesG s' = ([r], 0) := by rw [hset0 h0]; exact hr1b
             subst h0
             repeat' (first | (refine wpc_split _ (fun hc => ?_) (fun hc => ?_) <;> (try simp at hc)) | (refine ww_split _ (fun hc => ?_) (fun hc => ?_) <;> (try simp at hc)) | (refine wp_draw _ (by kernel_rfl) ?_) | (refine wk_yldW _ ?_) | (refine owe ?_ (fun ho => ?_)) | (simp (disch := first | assumption | omega | (simp; done) | (simp; omega)) [rows_get1, take_rows1, bytesOfCells_eB, hrl, hrl2, rowsB_set', eB, hs', hkm, hr1, eI, -getElem?_pos, List.getElem?_cons_zero, List.getElem?_cons_succ]))
           · repeat' (first | (refine wpc_split _ (fun hc => ?_) (fun hc => ?_) <;> (try simp at hc)) | (refine ww_split _ (fun hc => ?_) (fun hc => ?_) <;> (try simp at hc)) | (refine wp_draw _ (by kernel_rfl) ?_) | (refine wk_yldW _ ?_) | (refine owe ?_ (fun ho => ?_)) | (simp (disch := first | assumption | omega | (simp; done) | (simp; omega)) [rows_get1, take_rows1, bytesOfCells_eB, hrl, hrl2, rowsB_set', eB, hs', hkm, h0, eI, -getElem?_pos, List.getElem?_cons_zero, List.getElem?_cons_succ]))
             all_goals exact fun h => hne h0 (by assumption) (by assumption) h)
  · have hj : joinG [r] = ([], 90) := by unfold joinG; rw [if_neg (by simpa using hp)]
    have hk := kindG_no hp
    refine outS_of_wp cfg (fn := Tryd.f6) Tryd.func6 rfl (by simp [Tryd.f6]) ?_
    simp (disch := first | assumption | omega | (simp; done) | (simp; omega)) [-getElem?_pos, List.getElem?_cons_zero, List.getElem?_cons_succ, Tryd.f6, fold_I1, hj, hk]
    repeat' (first | (refine wpc_split _ (fun hc => ?_) (fun hc => ?_) <;> (try simp at hc)) | (refine ww_split _ (fun hc => ?_) (fun hc => ?_) <;> (try simp at hc)) | (refine wp_draw _ (by kernel_rfl) ?_) | (refine wk_yldW _ ?_) | (refine owe ?_ (fun ho => ?_)) | (simp (disch := first | assumption | omega | (simp; done) | (simp; omega)) [fold_I1, hj, hk, -getElem?_pos, List.getElem?_cons_zero, List.getElem?_cons_succ]))
@[simp] theorem S6 (r ka kb : Int) (hr : -9223372036854775808 ≤ r ∧ r ≤ 9223372036854775807) (ha : 0 ≤ ka ∧ ka ≤ 255) (hb : 0 ≤ kb ∧ kb ≤ 255) (hh : Heap) : Ci cfg (.func (.func 6) [] []) [.int .i64 r, .int .u8 ka, .int .u8 kb] hh = some (.ret (.bool true), hh) :=
  Ci_K cfg rfl rfl (by simp) (by simp) (C6 r ka kb hr ha hb)
end Go.Ab
