import Derived.Test.YtjhpmmomalaiiaaDoorT4
set_option linter.unusedVariables false
set_option linter.unusedSimpArgs false
set_option linter.unusedSectionVars false
set_option linter.deprecated false
namespace Go.Ab
open Go.Proofs
set_option maxRecDepth 100000
set_option maxHeartbeats 4000000
theorem acc0 : nth acceptL 0 = (128, 191) := rfl
theorem acc1 : nth acceptL 1 = (160, 191) := rfl
theorem acc2 : nth acceptL 2 = (128, 159) := rfl
theorem acc3 : nth acceptL 3 = (144, 191) := rfl
theorem acc4 : nth acceptL 4 = (128, 143) := rfl
theorem shr2 : ishr .u8 2 4 = 0 := by decide
theorem shr3 : ishr .u8 3 4 = 0 := by decide
theorem shr4 : ishr .u8 4 4 = 0 := by decide
theorem shr19 : ishr .u8 19 4 = 1 := by decide
theorem shr35 : ishr .u8 35 4 = 2 := by decide
theorem shr52 : ishr .u8 52 4 = 3 := by decide
theorem shr68 : ishr .u8 68 4 = 4 := by decide
theorem shl241 : ishl .i32 241 31 = -2147483648 := by decide
theorem shrneg : ishr .i32 (-2147483648) 31 = -1 := by decide
theorem andneg : iand .i32 65533 (-1) = 65533 := by decide
theorem or0 : ior .i32 0 65533 = 65533 := by decide
theorem andNotneg (x : Int) : iandNot .i32 x (-1) = 0 := by
  unfold iandNot
  have : ~~~(BitVec.ofInt IntKind.i32.bits (-1)) = 0 := by decide
  rw [this]; simp
attribute [local simp] shr2 shr3 shr4 shr19 shr35 shr52 shr68 shl241 shrneg andneg or0 andNotneg
attribute [local simp] globs_0 globs_1 firstL_len acceptL_len acc0 acc1 acc2 acc3 acc4 iand_7 iand_15 iand_31 iand_63 ior_6 ior_12 ior_18 ishl_6 ishl_12 ishl_18 eU eU2
theorem C57 (s : List UInt8) (hs : 1 ≤ s.length) (h128 : 128 ≤ (nth s 0).toNat) (hlen : s.length < 1099511627776) : Kc cfg 57 [.str s] (.ret (.tuple [.int .i32 (decG s).1, .int .i64 (decG s).2])) := by
  have g0 := UInt8.toNat_lt (nth s 0)
  have g1 := UInt8.toNat_lt (nth s 1)
  have g2 := UInt8.toNat_lt (nth s 2)
  have g3 := UInt8.toNat_lt (nth s 3)
  have hf := nth_first (b := (nth s 0).toNat) (by omega)
  by_cases c1 : 128 ≤ (nth s 0).toNat ∧ (nth s 0).toNat < 194 ∨ 245 ≤ (nth s 0).toNat
  · have hv : firstF (nth s 0).toNat = 241 := by unfold firstF; rcases c1 with c1 | c1 <;> simp (disch := omega)
    have hd : decG s = (65533, 1) := by simp [decG, dec0 c1]
    rw [hd]
    rw [hv] at hf
    refine outS_of_wp cfg (fn := Tryd.f57) Tryd.func57 rfl (by simp [Tryd.f57]) ?_
    simp (disch := first | assumption | omega | (simp; done) | (simp; omega)) [-getElem?_pos, List.getElem?_cons_zero, List.getElem?_cons_succ, Tryd.f57, hf]
  by_cases c2 : (nth s 0).toNat < 224
  · have hv : firstF (nth s 0).toNat = 2 := by unfold firstF; simp (disch := omega)
    have hd := dec2 (s := s) (by omega)
    rw [hv] at hf
    refine outS_of_wp cfg (fn := Tryd.f57) Tryd.func57 rfl (by simp [Tryd.f57]) ?_
    simp (disch := first | assumption | omega | (simp; done) | (simp; omega)) [-getElem?_pos, List.getElem?_cons_zero, List.getElem?_cons_succ, Tryd.f57, hf]
    repeat' (first | (refine wpc_split _ (fun hc => ?_) (fun hc => ?_) <;> (try simp at hc)) | (refine ww_split _ (fun hc => ?_) (fun hc => ?_) <;> (try simp at hc)) | (refine wp_drawF (by kernel_rfl) ?_) | (refine wk_yldW _ ?_) | (refine layOwe _ (by kernel_rfl) ?_) | (refine owe ?_ (fun ho => ?_)) | (simp (disch := first | assumption | omega | (simp; done) | (simp; omega)) [hf, -getElem?_pos, List.getElem?_cons_zero, List.getElem?_cons_succ]))
    all_goals (simp (disch := omega) [decG, hd, decV, if_t, if_f]; try omega)
  by_cases c3 : (nth s 0).toNat < 240
  · have hd := dec3 (s := s) (by omega)
    by_cases c4 : (nth s 0).toNat = 224
    · have hv : firstF (nth s 0).toNat = 19 := by unfold firstF; simp (disch := omega)
      rw [hv] at hf
      refine outS_of_wp cfg (fn := Tryd.f57) Tryd.func57 rfl (by simp [Tryd.f57]) ?_
      simp (disch := first | assumption | omega | (simp; done) | (simp; omega)) [-getElem?_pos, List.getElem?_cons_zero, List.getElem?_cons_succ, Tryd.f57, hf]
      repeat' (first | (refine wpc_split _ (fun hc => ?_) (fun hc => ?_) <;> (try simp at hc)) | (refine ww_split _ (fun hc => ?_) (fun hc => ?_) <;> (try simp at hc)) | (refine wp_drawF (by kernel_rfl) ?_) | (refine wk_yldW _ ?_) | (refine layOwe _ (by kernel_rfl) ?_) | (refine owe ?_ (fun ho => ?_)) | (simp (disch := first | assumption | omega | (simp; done) | (simp; omega)) [hf, -getElem?_pos, List.getElem?_cons_zero, List.getElem?_cons_succ]))
      all_goals (simp (disch := omega) [decG, hd, decV, if_t, if_f]; try omega)
    by_cases c5 : (nth s 0).toNat = 237
    · have hv : firstF (nth s 0).toNat = 35 := by unfold firstF; simp (disch := omega)
      rw [hv] at hf
      refine outS_of_wp cfg (fn := Tryd.f57) Tryd.func57 rfl (by simp [Tryd.f57]) ?_
      simp (disch := first | assumption | omega | (simp; done) | (simp; omega)) [-getElem?_pos, List.getElem?_cons_zero, List.getElem?_cons_succ, Tryd.f57, hf]
      repeat' (first | (refine wpc_split _ (fun hc => ?_) (fun hc => ?_) <;> (try simp at hc)) | (refine ww_split _ (fun hc => ?_) (fun hc => ?_) <;> (try simp at hc)) | (refine wp_drawF (by kernel_rfl) ?_) | (refine wk_yldW _ ?_) | (refine layOwe _ (by kernel_rfl) ?_) | (refine owe ?_ (fun ho => ?_)) | (simp (disch := first | assumption | omega | (simp; done) | (simp; omega)) [hf, -getElem?_pos, List.getElem?_cons_zero, List.getElem?_cons_succ]))
      all_goals (simp (disch := omega) [decG, hd, decV, if_t, if_f]; try omega)
    · have hv : firstF (nth s 0).toNat = 3 := by unfold firstF; simp (disch := omega)
      rw [hv] at hf
      refine outS_of_wp cfg (fn := Tryd.f57) Tryd.func57 rfl (by simp [Tryd.f57]) ?_
      simp (disch := first | assumption | omega | (simp; done) | (simp; omega)) [-getElem?_pos, List.getElem?_cons_zero, List.getElem?_cons_succ, Tryd.f57, hf]
      repeat' (first | (refine wpc_split _ (fun hc => ?_) (fun hc => ?_) <;> (try simp at hc)) | (refine ww_split _ (fun hc => ?_) (fun hc => ?_) <;> (try simp at hc)) | (refine wp_drawF (by kernel_rfl) ?_) | (refine wk_yldW _ ?_) | (refine layOwe _ (by kernel_rfl) ?_) | (refine owe ?_ (fun ho => ?_)) | (simp (disch := first | assumption | omega | (simp; done) | (simp; omega)) [hf, -getElem?_pos, List.getElem?_cons_zero, List.getElem?_cons_succ]))
      all_goals (simp (disch := omega) [decG, hd, decV, if_t, if_f]; try omega)
  · have hd := dec4 (s := s) (by omega)
    by_cases c4 : (nth s 0).toNat = 240
    · have hv : firstF (nth s 0).toNat = 52 := by unfold firstF; simp (disch := omega)
      rw [hv] at hf
      refine outS_of_wp cfg (fn := Tryd.f57) Tryd.func57 rfl (by simp [Tryd.f57]) ?_
      simp (disch := first | assumption | omega | (simp; done) | (simp; omega)) [-getElem?_pos, List.getElem?_cons_zero, List.getElem?_cons_succ, Tryd.f57, hf]
      repeat' (first | (refine wpc_split _ (fun hc => ?_) (fun hc => ?_) <;> (try simp at hc)) | (refine ww_split _ (fun hc => ?_) (fun hc => ?_) <;> (try simp at hc)) | (refine wp_drawF (by kernel_rfl) ?_) | (refine wk_yldW _ ?_) | (refine layOwe _ (by kernel_rfl) ?_) | (refine owe ?_ (fun ho => ?_)) | (simp (disch := first | assumption | omega | (simp; done) | (simp; omega)) [hf, -getElem?_pos, List.getElem?_cons_zero, List.getElem?_cons_succ]))
      all_goals (simp (disch := omega) [decG, hd, decV, if_t, if_f]; try omega)
    by_cases c5 : (nth s 0).toNat = 244
    · have hv : firstF (nth s 0).toNat = 68 := by unfold firstF; simp (disch := omega)
      rw [hv] at hf
      refine outS_of_wp cfg (fn := Tryd.f57) Tryd.func57 rfl (by simp [Tryd.f57]) ?_
      simp (disch := first | assumption | omega | (simp; done) | (simp; omega)) [-getElem?_pos, List.getElem?_cons_zero, List.getElem?_cons_succ, Tryd.f57, hf]
      repeat' (first | (refine wpc_split _ (fun hc => ?_) (fun hc => ?_) <;> (try simp at hc)) | (refine ww_split _ (fun hc => ?_) (fun hc => ?_) <;> (try simp at hc)) | (refine wp_drawF (by kernel_rfl) ?_) | (refine wk_yldW _ ?_) | (refine layOwe _ (by kernel_rfl) ?_) | (refine owe ?_ (fun ho => ?_)) | (simp (disch := first | assumption | omega | (simp; done) | (simp; omega)) [hf, -getElem?_pos, List.getElem?_cons_zero, List.getElem?_cons_succ]))
      all_goals (simp (disch := omega) [decG, hd, decV, if_t, if_f]; try omega)
    · have hv : firstF (nth s 0).toNat = 4 := by unfold firstF; simp (disch := omega)
      rw [hv] at hf
      refine outS_of_wp cfg (fn := Tryd.f57) Tryd.func57 rfl (by simp [Tryd.f57]) ?_
      simp (disch := first | assumption | omega | (simp; done) | (simp; omega)) [-getElem?_pos, List.getElem?_cons_zero, List.getElem?_cons_succ, Tryd.f57, hf]
      repeat' (first | (refine wpc_split _ (fun hc => ?_) (fun hc => ?_) <;> (try simp at hc)) | (refine ww_split _ (fun hc => ?_) (fun hc => ?_) <;> (try simp at hc)) | (refine wp_drawF (by kernel_rfl) ?_) | (refine wk_yldW _ ?_) | (refine layOwe _ (by kernel_rfl) ?_) | (refine owe ?_ (fun ho => ?_)) | (simp (disch := first | assumption | omega | (simp; done) | (simp; omega)) [hf, -getElem?_pos, List.getElem?_cons_zero, List.getElem?_cons_succ]))
      all_goals (simp (disch := omega) [decG, hd, decV, if_t, if_f]; try omega)
@[simp] theorem S57 (s : List UInt8) (hs : 1 ≤ s.length) (h128 : 128 ≤ (nth s 0).toNat) (hlen : s.length < 1099511627776) (hh : Heap) : Ci cfg (.func (.func 57) [] []) [.str s] hh = some (.ret (.tuple [.int .i32 (decG s).1, .int .i64 (decG s).2]), hh) :=
  Ci_K cfg rfl rfl (by simp) (by simp) (C57 s hs h128 hlen)
theorem C51 (s : List UInt8) (hs : 1 ≤ s.length) (hlen : s.length < 1099511627776) : Kc cfg 51 [.str s] (.ret (.tuple [.int .i32 (decG s).1, .int .i64 (decG s).2])) := by
  have g0 := UInt8.toNat_lt (nth s 0)
  have hne : ¬ s = [] := by intro e; subst e; simp at hs
  refine outS_of_wp cfg (fn := Tryd.f51) Tryd.func51 rfl (by simp [Tryd.f51]) ?_
  simp (disch := first | assumption | omega | (simp; done) | (simp; omega)) [-getElem?_pos, List.getElem?_cons_zero, List.getElem?_cons_succ, Tryd.f51, hne]
  repeat' (first | (refine wpc_split _ (fun hc => ?_) (fun hc => ?_) <;> (try simp at hc)) | (refine ww_split _ (fun hc => ?_) (fun hc => ?_) <;> (try simp at hc)) | (refine wp_drawF (by kernel_rfl) ?_) | (refine wk_yldW _ ?_) | (refine layOwe _ (by kernel_rfl) ?_) | (refine owe ?_ (fun ho => ?_)) | (simp (disch := first | assumption | omega | (simp; done) | (simp; omega)) [hne, -getElem?_pos, List.getElem?_cons_zero, List.getElem?_cons_succ]))
  · simp [decG, dec1 hs (by omega)]
@[simp] theorem S51 (s : List UInt8) (hs : 1 ≤ s.length) (hlen : s.length < 1099511627776) (hh : Heap) : Ci cfg (.func (.func 51) [] []) [.str s] hh = some (.ret (.tuple [.int .i32 (decG s).1, .int .i64 (decG s).2]), hh) :=
  Ci_K cfg rfl rfl (by simp) (by simp) (C51 s hs hlen)
end Go.Ab
