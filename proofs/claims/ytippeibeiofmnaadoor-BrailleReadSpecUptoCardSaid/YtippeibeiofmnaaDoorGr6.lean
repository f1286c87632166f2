/- A part of the proof. -/
import Derived.Test.YtippeibeiofmnaaDoorGr4
import Derived.Test.YtippeibeiofmnaaDoorGr5
set_option linter.unusedVariables false
set_option linter.unusedSimpArgs false
set_option linter.unusedSectionVars false
set_option linter.deprecated false
namespace Go.Ab
open Go.Proofs
set_option maxRecDepth 100000
set_option maxHeartbeats 4000000
theorem acc0 : nth acceptL 0 = (128, 191) := rfl
theorem acc1 : nth acceptL 1 = (160, 191) := rfl
theorem acc2 : nth acceptL 2 = (128, 159) := rfl
theorem acc3 : nth acceptL 3 = (144, 191) := rfl
theorem acc4 : nth acceptL 4 = (128, 143) := rfl
theorem shr2 : ishr .u8 2 4 = 0 := by decide
theorem shr3 : ishr .u8 3 4 = 0 := by decide
theorem shr4 : ishr .u8 4 4 = 0 := by decide
theorem shr19 : ishr .u8 19 4 = 1 := by decide
theorem shr35 : ishr .u8 35 4 = 2 := by decide
theorem shr52 : ishr .u8 52 4 = 3 := by decide
theorem shr68 : ishr .u8 68 4 = 4 := by decide
theorem shl241 : ishl .i32 241 31 = -2147483648 := by decide
theorem shrneg : ishr .i32 (-2147483648) 31 = -1 := by decide
theorem andneg : iand .i32 65533 (-1) = 65533 := by decide
theorem or0 : ior .i32 0 65533 = 65533 := by decide
theorem andNotneg (x : Int) : iandNot .i32 x (-1) = 0 := by
 unfold iandNot
 have : ~~~(BitVec.ofInt IntKind.i32.bits (-1)) = 0 := by decide
 rw [this]; simp
attribute [local simp] shr2 shr3 shr4 shr19 shr35 shr52 shr68 shl241 shrneg andneg or0 andNotneg
attribute [local simp] globs_0 globs_1 firstL_len acceptL_len acc0 acc1 acc2 acc3 acc4 iand_7 iand_15 iand_31 iand_63 ior_6 ior_12 ior_18 ishl_6 ishl_12 ishl_18 eU eU2
theorem C77 (s : List UInt8) (hs : 1 ≤ s.length) (h128 : 128 ≤ (nth s 0).toNat) (hlen : s.length < 1099511627776) : Kc cfg 77 [.str s] (.ret (.tuple [.int .i32 (decG s).1, .int .i64 (decG s).2])) := by
 have g0 := UInt8.toNat_lt (nth s 0)
 have g1 := UInt8.toNat_lt (nth s 1)
 have g2 := UInt8.toNat_lt (nth s 2)
 have g3 := UInt8.toNat_lt (nth s 3)
 have hf := nth_first (b := (nth s 0).toNat) (by omega)
 by_cases c1 : 128 ≤ (nth s 0).toNat ∧ (nth s 0).toNat < 194 ∨ 245 ≤ (nth s 0).toNat
 ·have hv : firstF (nth s 0).toNat = 241 := by unfold firstF; rcases c1 with c1 | c1 <;> simp (disch := omega)
  have hd : decG s = (65533, 1) := by simp [decG, dec0 c1]
  rw [hd]
  rw [hv] at hf
  refine outS_of_wp cfg (fn := Tryd.f77) Tryd.func77 rfl (by simp [Tryd.f77]) ?_
  simp (disch := first | assumption | omega | (simp; done) | (simp; omega)) [-getElem?_pos, gZ, gS, Tryd.f77, hf]
 by_cases c2 : (nth s 0).toNat < 224
 ·have hv : firstF (nth s 0).toNat = 2 := by unfold firstF; simp (disch := omega)
  have hd := dec2 (s := s) (by omega)
  rw [hv] at hf
  refine outS_of_wp cfg (fn := Tryd.f77) Tryd.func77 rfl (by simp [Tryd.f77]) ?_
  simp (disch := first | assumption | omega | (simp; done) | (simp; omega)) [-getElem?_pos, gZ, gS, Tryd.f77, hf]
  repeat' (first | ((first | refine wpc_split _ ?_ ?_ | refine ww_split _ ?_ ?_) <;> intro hc <;> try simp at hc) | (refine wp_drawF (by kernel_rfl) ?_) | refine wk_yldW _ ?_ | refine layOwe _ (by kernel_rfl) ?_ | refine owe ?_ (fun ho => ?_) | (simp (disch := first | assumption | omega | (simp; done) | (simp; omega)) [hf, -getElem?_pos, gZ, gS]))
  all_goals (simp (disch := omega) [decG, hd, decV, if_t, if_f]; try omega)
 by_cases c3 : (nth s 0).toNat < 240
 ·have hd := dec3 (s := s) (by omega)
  by_cases c4 : (nth s 0).toNat = 224
  ·have hv : firstF (nth s 0).toNat = 19 := by unfold firstF; simp (disch := omega)
   rw [hv] at hf
   refine outS_of_wp cfg (fn := Tryd.f77) Tryd.func77 rfl (by simp [Tryd.f77]) ?_
   simp (disch := first | assumption | omega | (simp; done) | (simp; omega)) [-getElem?_pos, gZ, gS, Tryd.f77, hf]
   repeat' (first | ((first | refine wpc_split _ ?_ ?_ | refine ww_split _ ?_ ?_) <;> intro hc <;> try simp at hc) | (refine wp_drawF (by kernel_rfl) ?_) | refine wk_yldW _ ?_ | refine layOwe _ (by kernel_rfl) ?_ | refine owe ?_ (fun ho => ?_) | (simp (disch := first | assumption | omega | (simp; done) | (simp; omega)) [hf, -getElem?_pos, gZ, gS]))
   all_goals (simp (disch := omega) [decG, hd, decV, if_t, if_f]; try omega)
  by_cases c5 : (nth s 0).toNat = 237
  ·have hv : firstF (nth s 0).toNat = 35 := by unfold firstF; simp (disch := omega)
   rw [hv] at hf
   refine outS_of_wp cfg (fn := Tryd.f77) Tryd.func77 rfl (by simp [Tryd.f77]) ?_
   simp (disch := first | assumption | omega | (simp; done) | (simp; omega)) [-getElem?_pos, gZ, gS, Tryd.f77, hf]
   repeat' (first | ((first | refine wpc_split _ ?_ ?_ | refine ww_split _ ?_ ?_) <;> intro hc <;> try simp at hc) | (refine wp_drawF (by kernel_rfl) ?_) | refine wk_yldW _ ?_ | refine layOwe _ (by kernel_rfl) ?_ | refine owe ?_ (fun ho => ?_) | (simp (disch := first | assumption | omega | (simp; done) | (simp; omega)) [hf, -getElem?_pos, gZ, gS]))
   all_goals (simp (disch := omega) [decG, hd, decV, if_t, if_f]; try omega)
  ·have hv : firstF (nth s 0).toNat = 3 := by unfold firstF; simp (disch := omega)
   rw [hv] at hf
   refine outS_of_wp cfg (fn := Tryd.f77) Tryd.func77 rfl (by simp [Tryd.f77]) ?_
   simp (disch := first | assumption | omega | (simp; done) | (simp; omega)) [-getElem?_pos, gZ, gS, Tryd.f77, hf]
   repeat' (first | ((first | refine wpc_split _ ?_ ?_ | refine ww_split _ ?_ ?_) <;> intro hc <;> try simp at hc) | (refine wp_drawF (by kernel_rfl) ?_) | refine wk_yldW _ ?_ | refine layOwe _ (by kernel_rfl) ?_ | refine owe ?_ (fun ho => ?_) | (simp (disch := first | assumption | omega | (simp; done) | (simp; omega)) [hf, -getElem?_pos, gZ, gS]))
   all_goals (simp (disch := omega) [decG, hd, decV, if_t, if_f]; try omega)
 ·have hd := dec4 (s := s) (by omega)
  by_cases c4 : (nth s 0).toNat = 240
  ·have hv : firstF (nth s 0).toNat = 52 := by unfold firstF; simp (disch := omega)
   rw [hv] at hf
   refine outS_of_wp cfg (fn := Tryd.f77) Tryd.func77 rfl (by simp [Tryd.f77]) ?_
   simp (disch := first | assumption | omega | (simp; done) | (simp; omega)) [-getElem?_pos, gZ, gS, Tryd.f77, hf]
   repeat' (first | ((first | refine wpc_split _ ?_ ?_ | refine ww_split _ ?_ ?_) <;> intro hc <;> try simp at hc) | (refine wp_drawF (by kernel_rfl) ?_) | refine wk_yldW _ ?_ | refine layOwe _ (by kernel_rfl) ?_ | refine owe ?_ (fun ho => ?_) | (simp (disch := first | assumption | omega | (simp; done) | (simp; omega)) [hf, -getElem?_pos, gZ, gS]))
   all_goals (simp (disch := omega) [decG, hd, decV, if_t, if_f]; try omega)
  by_cases c5 : (nth s 0).toNat = 244
  ·have hv : firstF (nth s 0).toNat = 68 := by unfold firstF; simp (disch := omega)
   rw [hv] at hf
   refine outS_of_wp cfg (fn := Tryd.f77) Tryd.func77 rfl (by simp [Tryd.f77]) ?_
   simp (disch := first | assumption | omega | (simp; done) | (simp; omega)) [-getElem?_pos, gZ, gS, Tryd.f77, hf]
   repeat' (first | ((first | refine wpc_split _ ?_ ?_ | refine ww_split _ ?_ ?_) <;> intro hc <;> try simp at hc) | (refine wp_drawF (by kernel_rfl) ?_) | refine wk_yldW _ ?_ | refine layOwe _ (by kernel_rfl) ?_ | refine owe ?_ (fun ho => ?_) | (simp (disch := first | assumption | omega | (simp; done) | (simp; omega)) [hf, -getElem?_pos, gZ, gS]))
   all_goals (simp (disch := omega) [decG, hd, decV, if_t, if_f]; try omega)
  ·have hv : firstF (nth s 0).toNat = 4 := by unfold firstF; simp (disch := omega)
   rw [hv] at hf
   refine outS_of_wp cfg (fn := Tryd.f77) Tryd.func77 rfl (by simp [Tryd.f77]) ?_
   simp (disch := first | assumption | omega | (simp; done) | (simp; omega)) [-getElem?_pos, gZ, gS, Tryd.f77, hf]
   repeat' (first | ((first | refine wpc_split _ ?_ ?_ | refine ww_split _ ?_ ?_) <;> intro hc <;> try simp at hc) | (refine wp_drawF (by kernel_rfl) ?_) | refine wk_yldW _ ?_ | refine layOwe _ (by kernel_rfl) ?_ | refine owe ?_ (fun ho => ?_) | (simp (disch := first | assumption | omega | (simp; done) | (simp; omega)) [hf, -getElem?_pos, gZ, gS]))
   all_goals (simp (disch := omega) [decG, hd, decV, if_t, if_f]; try omega)
@[simp] theorem S77 (s : List UInt8) (hs : 1 ≤ s.length) (h128 : 128 ≤ (nth s 0).toNat) (hlen : s.length < 1099511627776) (hh : Heap) : Ci cfg (.func (.func 77) [] []) [.str s] hh = some (.ret (.tuple [.int .i32 (decG s).1, .int .i64 (decG s).2]), hh) :=
 Ci_K cfg rfl rfl (by simp) (by simp) (C77 s hs h128 hlen)
theorem C70 (s : List UInt8) (hs : 1 ≤ s.length) (hlen : s.length < 1099511627776) : Kc cfg 70 [.str s] (.ret (.tuple [.int .i32 (decG s).1, .int .i64 (decG s).2])) := by
 have g0 := UInt8.toNat_lt (nth s 0)
 have hne : ¬ s = [] := by intro e; subst e; simp at hs
 refine outS_of_wp cfg (fn := Tryd.f70) Tryd.func70 rfl (by simp [Tryd.f70]) ?_
 simp (disch := first | assumption | omega | (simp; done) | (simp; omega)) [-getElem?_pos, gZ, gS, Tryd.f70, hne]
 repeat' (first | ((first | refine wpc_split _ ?_ ?_ | refine ww_split _ ?_ ?_) <;> intro hc <;> try simp at hc) | (refine wp_drawF (by kernel_rfl) ?_) | refine wk_yldW _ ?_ | refine layOwe _ (by kernel_rfl) ?_ | refine owe ?_ (fun ho => ?_) | (simp (disch := first | assumption | omega | (simp; done) | (simp; omega)) [hne, -getElem?_pos, gZ, gS]))
 ·simp [decG, dec1 hs (by omega)]
@[simp] theorem S70 (s : List UInt8) (hs : 1 ≤ s.length) (hlen : s.length < 1099511627776) (hh : Heap) : Ci cfg (.func (.func 70) [] []) [.str s] hh = some (.ret (.tuple [.int .i32 (decG s).1, .int .i64 (decG s).2]), hh) :=
 Ci_K cfg rfl rfl (by simp) (by simp) (C70 s hs hlen)
end Go.Ab
namespace Go.Ab
open Go.Proofs
set_option maxRecDepth 100000
set_option maxHeartbeats 1000000
attribute [local simp] typeAssertV
@[simp] theorem D55_no (a b : Nat) (h : Heap) : Di cfg (.func (.func 55) [] [.ptr a 0, .ptr b 0]) [] h .no = some (h, .no) := by
 refine Di_of_wp cfg (fn := Tryd.f55) Tryd.func55 rfl (by simp [Tryd.f55]) ?_
 simp (disch := first | assumption | omega | (simp; done) | (simp; omega)) [-getElem?_pos, gZ, gS, Tryd.f55]
@[simp] theorem D55_pan (x y : V) (r : List Blk) (ts : List (Option Nat)) :
  Di cfg (.func (.func 55) [] [.ptr 0 0, .ptr 1 0]) [] ⟨.cells [x] :: .cells [y] :: r, ts⟩ (.pan (.iface 89 (.agg []))) = some (⟨.cells [.row true true [] 0 none] :: .cells [.int .i64 90] :: (r ++ [.cells []]), ts⟩, .got (.iface 89 (.agg []))) := by
 refine Di_of_wp cfg (fn := Tryd.f55) Tryd.func55 rfl (by simp [Tryd.f55]) ?_
 have hlst : ∀ b : Blk, (r ++ [b])[r.length]? = some b := fun b => by simp
 simp (disch := first | assumption | omega | (simp; done) | (simp; omega)) [-getElem?_pos, gZ, gS, Tryd.f55, hlst]
theorem dec_len {s : List UInt8} (h : ¬ (dec s).2 = 0) : point (dec s).1 = true ∧ (dec s).2 = (encR (dec s).1).length ∧ encR (dec s).1 = s.take (dec s).2.toNat := by
 revert h
 unfold dec
 simp only
 split
 ·simp
 ·split
  ·rename_i h1 h2
   intro _
   refine ⟨h2.2.1, ?_, h2.2.2⟩
   show ((longR (nth s 0).toNat).1.toNat : Int) = _
   rw [h2.2.2]; simp; omega
  ·simp
theorem decG_spec (s : List UInt8) : ((decG s).1 = 65533 ∧ (decG s).2 < 2 ↔ (dec s).2 = 0) ∧ 0 ≤ (decG s).1 ∧ (decG s).1 ≤ 1114111 := by
 unfold decG
 by_cases h : (dec s).2 = 0
 ·simp [h]
 ·rw [if_neg h]
  obtain ⟨h1, h2, _⟩ := dec_len h
  rw [point_t] at h1
  refine ⟨⟨fun ⟨e1, e2⟩ => ?_, fun e => absurd e h⟩, h1.1, h1.2.1⟩
  rw [h2, e1] at e2
  simp [encR] at e2
theorem decG_of {s : List UInt8} (h : ¬ (dec s).2 = 0) : decG s = dec s := by unfold decG; rw [if_neg h]
theorem C27 (s : List UInt8) (hs : s.length < 1099511627776) : Kc cfg 27 [.str s] (.ret (.tuple [R fl0 eI (runesG s).1, .int .i64 (runesG s).2])) := by
 refine outS_of_wp cfg (fn := Tryd.f27) Tryd.func27 rfl (by simp [Tryd.f27]) ?_
 simp (disch := first | assumption | omega | (simp; done) | (simp; omega)) [-getElem?_pos, gZ, gS, Tryd.f27]
 repeat' (first | ((first | refine wpc_split _ ?_ ?_ | refine ww_split _ ?_ ?_) <;> intro hc <;> try simp at hc) | (refine wp_drawF (by kernel_rfl) ?_) | refine wk_yldW _ ?_ | refine layOwe _ (by kernel_rfl) ?_ | refine owe ?_ (fun ho => ?_) | (simp (disch := first | assumption | omega | (simp; done) | (simp; omega)) [Tryd.f57, Tryd.f56, Tryd.f68, Tryd.f69, -getElem?_pos, gZ, gS]))
 ·rw [runesG_long (by omega)]; exact ⟨rfl, rfl⟩
 ·refine wp_loopE cfg rfl (fun f0 h0 m f h => ∃ (t : List UInt8) (out : List Int) (fl : Fl), f 0 = f0 0 ∧ f 1 = f0 1 ∧ h.bs = (h0.bs.set 2 (.cells [.str t])).set 3 (.cells [R fl eI out]) ∧ App h.ts 1 fl ∧ m = t.length ∧ out.length + t.length ≤ s.length ∧ runes s = (runes t).map (out ++ ·)) s.length _ _ ⟨s, [], (true, true, none), rfl, rfl, by simp [R], App.nil _ _ _, rfl, by simp, by simp⟩ ?_
  rintro m f h ⟨t, out, fl, h0, h1, hb, ha, rfl, hl, hr⟩ ih
  have hd := dec_bound t
  simp at h0 h1 hb
  by_cases hn : t = []
  ·subst hn
   repeat' (first | ((first | refine wpc_split _ ?_ ?_ | refine ww_split _ ?_ ?_) <;> intro hc <;> try simp at hc) | (refine wp_drawF (by kernel_rfl) ?_) | refine wk_yldW _ ?_ | refine layOwe _ (by kernel_rfl) ?_ | refine owe ?_ (fun ho => ?_) | (simp (disch := first | assumption | omega | (simp; done) | (simp; omega)) [h0, h1, hb, -getElem?_pos, gZ, gS]))
   rw [runesG_some (by omega) (by rw [hr, runes_nil]; simp; rfl)]; exact ⟨rfl, rfl⟩
  have hp : 0 < t.length := List.length_pos_iff.2 hn
  by_cases hz : (dec t).2 = 0
  ·have hg : decG t = (65533, 1) := by unfold decG; rw [if_pos hz]
   repeat' (first | ((first | refine wpc_split _ ?_ ?_ | refine ww_split _ ?_ ?_) <;> intro hc <;> try simp at hc) | (refine wp_drawF (by kernel_rfl) ?_) | refine wk_yldW _ ?_ | refine layOwe _ (by kernel_rfl) ?_ | refine owe ?_ (fun ho => ?_) | (simp (disch := first | assumption | omega | (simp; done) | (simp; omega)) [h0, h1, hb, hg, -getElem?_pos, gZ, gS]))
   rw [runesG_none (by omega) (by rw [hr, runes_bad hp hz]; rfl)]; exact ⟨rfl, rfl⟩
  ·have hg := decG_spec t
   rw [decG_of hz] at hg
   have hdg := decG_of hz
   repeat' (first | ((first | refine wpc_split _ ?_ ?_ | refine ww_split _ ?_ ?_) <;> intro hc <;> try simp at hc) | (refine wp_drawF (by kernel_rfl) ?_) | refine wk_yldW _ ?_ | refine layOwe _ (by kernel_rfl) ?_ | refine owe ?_ (fun ho => ?_) | (simp (disch := first | assumption | omega | (simp; done) | (simp; omega)) [h0, h1, hb, hdg, fold_I1, -getElem?_pos, gZ, gS]))
   all_goals
    refine ih (t.length - (dec t).2.toNat) _ _ (by omega) ⟨t.drop (dec t).2.toNat, out ++ [(dec t).1], _, by simp [h0], by simp [h1], by simp, App.new _ _ _, by simp, by simp; omega, ?_⟩
    rw [hr, runes_step hp hz]
    simp [Function.comp_def]
@[simp] theorem S27 (s : List UInt8) (hs : s.length < 1099511627776) (hh : Heap) : Ci cfg (.func (.func 27) [] []) [.str s] hh = some (.ret (.tuple [R fl0 eI (runesG s).1, .int .i64 (runesG s).2]), hh) :=
 Ci_K cfg rfl rfl (by simp) (by simp) (C27 s hs)
end Go.Ab
namespace Go.Ab
open Go.Proofs
set_option maxRecDepth 100000
set_option maxHeartbeats 1000000
theorem wordS_no {s : List UInt8} (h : (runesG s).2 ≠ 0 ∨ s.length = 0 ∨ 64 < s.length) : wordS s = false := by
 unfold wordS
 by_cases h1 : 0 < s.length ∧ s.length ≤ 64
 ·have h2 : (runesG s).2 ≠ 0 := by omega
  rw [(runesG_small (s := s) (by omega)).2 h2]; simp
 ·simp [h1]
theorem wordS_yes {s : List UInt8} (h : (runesG s).2 = 0) (h1 : 0 < s.length ∧ s.length ≤ 64) : wordS s = (runesG s).1.all fun r => !spaceR r := by
 unfold wordS
 rw [(runesG_small (s := s) (by omega)).1 h]; simp [h1]
theorem encR_len (r : Int) : 1 ≤ (encR r).length ∧ (encR r).length ≤ 4 := by
 unfold encR; split <;> (try split) <;> (try split) <;> simp
@[simp] theorem encR_ne (r : Int) : ¬ encR r = [] := by
 intro h; have := encR_len r; rw [h] at this; simp at this
def encAll (l : List Int) : List UInt8 := l.flatMap encR
@[simp] theorem encAll_nil : encAll [] = [] := rfl
@[simp] theorem encAll_cons (r : Int) (l : List Int) : encAll (r :: l) = encR r ++ encAll l := rfl
@[simp] theorem encAll_append (a b : List Int) : encAll (a ++ b) = encAll a ++ encAll b := by simp [encAll]
theorem encAll_take {l : List Int} {i : Nat} (h : i < l.length) : encAll (l.take (i + 1)) = encAll (l.take i) ++ encR (nth l i) := by
 rw [nth_take h]; simp
theorem encAll_len (l : List Int) : l.length ≤ (encAll l).length ∧ (encAll l).length ≤ 4 * l.length := by
 induction l with
 | nil => simp
 | cons r l ih => have := encR_len r; simp; omega
theorem encAll_take_le (l : List Int) (i : Nat) : (encAll (l.take i)).length ≤ (encAll l).length := by
 have h := congrArg List.length (congrArg encAll (List.take_append_drop i l))
 rw [encAll_append, List.length_append] at h; omega
def joinG (l : List Int) : List UInt8 × Int := if l.all point then (if 4096 < (encAll l).length then ([], 2) else (encAll l, 0)) else ([], 90)
theorem wrapu32 {n : Int} (h : 0 ≤ n ∧ n ≤ 4294967295) : IntKind.u32.wrap n = n := IntWalk.u32_in n h
attribute [simp] wrapu32
end Go.Ab
namespace Go.Ab
open Go.Proofs
set_option maxRecDepth 100000
set_option maxHeartbeats 4000000
theorem fold_b1 (a b : Bool) (tok : Option Nat) {x : Int} (h : 0 ≤ x ∧ x ≤ 255) : V.row a b [.int .u8 x] 1 tok = R (a, b, tok) eB [ib x] := by
 simp [R, eB, ib_nat h]
theorem fold_b2 (a b : Bool) (tok : Option Nat) {x y : Int} (h : (0 ≤ x ∧ x ≤ 255) ∧ 0 ≤ y ∧ y ≤ 255) : V.row a b [.int .u8 x, .int .u8 y] 2 tok = R (a, b, tok) eB [ib x, ib y] := by
 simp [R, eB, ib_nat h.1, ib_nat h.2]
theorem fold_b3 (a b : Bool) (tok : Option Nat) {x y z : Int} (h : (0 ≤ x ∧ x ≤ 255) ∧ (0 ≤ y ∧ y ≤ 255) ∧ 0 ≤ z ∧ z ≤ 255) : V.row a b [.int .u8 x, .int .u8 y, .int .u8 z] 3 tok = R (a, b, tok) eB [ib x, ib y, ib z] := by
 simp [R, eB, ib_nat h.1, ib_nat h.2.1, ib_nat h.2.2]
theorem fold_b4 (a b : Bool) (tok : Option Nat) {x y z w : Int} (h : (0 ≤ x ∧ x ≤ 255) ∧ (0 ≤ y ∧ y ≤ 255) ∧ (0 ≤ z ∧ z ≤ 255) ∧ 0 ≤ w ∧ w ≤ 255) : V.row a b [.int .u8 x, .int .u8 y, .int .u8 z, .int .u8 w] 4 tok = R (a, b, tok) eB [ib x, ib y, ib z, ib w] := by
 simp [R, eB, ib_nat h.1, ib_nat h.2.1, ib_nat h.2.2.1, ib_nat h.2.2.2]
theorem ishr_6 {x : Int} (h : 0 ≤ x) : ishr .i32 x 6 = x / 64 := by
 unfold ishr; rw [show (2 : Int) ^ min (6 : Int).toNat IntKind.i32.bits = 64 by decide, Int.fdiv_eq_ediv_of_nonneg _ (by omega)]
theorem ishr_12 {x : Int} (h : 0 ≤ x) : ishr .i32 x 12 = x / 4096 := by
 unfold ishr; rw [show (2 : Int) ^ min (12 : Int).toNat IntKind.i32.bits = 4096 by decide, Int.fdiv_eq_ediv_of_nonneg _ (by omega)]
theorem ishr_18 {x : Int} (h : 0 ≤ x) : ishr .i32 x 18 = x / 262144 := by
 unfold ishr; rw [show (2 : Int) ^ min (18 : Int).toNat IntKind.i32.bits = 262144 by decide, Int.fdiv_eq_ediv_of_nonneg _ (by omega)]
theorem wrapu8 (n : Int) : IntKind.u8.wrap n = n % 256 := IntKind.wrap_u8 n
theorem ior8_low (j : Nat) {x y : Int} (hj : j ≤ 7) (hx : 0 ≤ x ∧ x ≤ 255) (hm : x % 2 ^ j = 0) (hy : 0 ≤ y) (hy2 : y < 2 ^ j) : ior .u8 x y = x + y := by
 obtain ⟨n, rfl⟩ := Int.eq_ofNat_of_zero_le hx.1
 obtain ⟨m, rfl⟩ := Int.eq_ofNat_of_zero_le hy
 have hb : (2 : Nat) ^ IntKind.u8.bits = 256 := by decide
 have hp : (2 : Nat) ^ j ≤ 128 := by
  have := Nat.pow_le_pow_right (n := 2) (by omega) hj
  simpa using this
 have hm' : n % 2 ^ j = 0 := by
  have : ((n % 2 ^ j : Nat) : Int) = 0 := by simpa using hm
  omega
 have hy' : m < 2 ^ j := by
  have : ((m : Nat) : Int) < ((2 ^ j : Nat) : Int) := by simpa using hy2
  omega
 have h1 : (BitVec.ofInt IntKind.u8.bits (n : Int)).toNat = n := by
  rw [BitVec.ofInt_natCast, BitVec.toNat_ofNat, hb]
  exact Nat.mod_eq_of_lt (by omega)
 have h2 : (BitVec.ofInt IntKind.u8.bits (m : Int)).toNat = m := by
  rw [BitVec.ofInt_natCast, BitVec.toNat_ofNat, hb]
  exact Nat.mod_eq_of_lt (by omega)
 have h3 : n = 2 ^ j * (n / 2 ^ j) := by have := Nat.div_add_mod n (2 ^ j); omega
 unfold ior
 rw [BitVec.toNat_or, h1, h2]
 have h4 : n ||| m = n + m := by
  have := Nat.two_pow_add_eq_or_of_lt hy' (n / 2 ^ j)
  rw [← h3] at this
  exact this.symm
 have h5 : n ||| m < 2 ^ 8 := Nat.or_lt_two_pow (by omega) (by omega)
 rw [h4] at h5
 rw [h4]
 exact IntWalk.u8_in _ (by omega)
theorem ior192 {y : Int} (h : 0 ≤ y ∧ y < 64) : ior .u8 192 y = 192 + y := ior8_low 6 (by omega) (by omega) (by decide) h.1 h.2
theorem ior128 {y : Int} (h : 0 ≤ y ∧ y < 128) : ior .u8 128 y = 128 + y := ior8_low 7 (by omega) (by omega) (by decide) h.1 h.2
theorem ior224 {y : Int} (h : 0 ≤ y ∧ y < 32) : ior .u8 224 y = 224 + y := ior8_low 5 (by omega) (by omega) (by decide) h.1 h.2
theorem ior240 {y : Int} (h : 0 ≤ y ∧ y < 16) : ior .u8 240 y = 240 + y := ior8_low 4 (by omega) (by omega) (by decide) h.1 h.2
theorem m256_64 (r : Int) : r % 256 % 64 = r % 64 := by omega
theorem m256d (r : Int) (h : 0 ≤ r ∧ r ≤ 65535) : r / 64 % 256 % 64 = r / 64 % 64 := by omega
def joinedV (tok : Nat) (l : List Int) : V := if 4096 < (encAll l).length then .row true true [] 0 none else R (false, false, some tok) eB (encAll l)
theorem App.ext {ts : List (Option Nat)} {sz : Nat} {fl : Fl} (X : List (Option Nat)) (ha : App ts sz fl) : App (ts ++ X) sz fl := by
 rcases ha.ok with h | ⟨k, h1, h2⟩
 ·exact ⟨.inl h⟩
 ·exact ⟨.inr ⟨k, h1, by rw [List.getElem?_append_left (List.getElem?_eq_some_iff.1 h2).1, h2]⟩⟩
theorem ts_next (a X : List (Option Nat)) : bumpT (a ++ X ++ [some 1]) (some (a.length + X.length)) 1 = a ++ (X ++ [none]) ++ [some 1] := by
 unfold bumpT
 simp only
 rw [List.set_append_right _ _ (by simp)]
 simp
theorem App.tail (a X : List (Option Nat)) : App (a ++ X ++ [some 1]) 1 (false, false, some (a.length + X.length)) := by
 refine ⟨.inr ⟨_, rfl, ?_⟩⟩
 rw [List.getElem?_append_right (by simp)]
 simp
theorem eqV_jn {P : Program} {t : TypeId} {b : Bool} {tok : Nat} {s : List UInt8} (h : slcD (P.underlying t) = true) : eqV P b t (R (false, false, some tok) eB s) (.row true true [] 0 none) = some false := by
 unfold R
 rw [eqV_rn h]
 simp
theorem eqV_nn {P : Program} {t : TypeId} {b f : Bool} (h : slcD (P.underlying t) = true) : eqV P b t (.row true f [] 0 none) (.row true true [] 0 none) = some true := by
 rw [eqV_rn h]; rfl
end Go.Ab
namespace Go.Ab
open Go.Proofs
set_option maxRecDepth 100000
set_option maxHeartbeats 4000000
def splitW : List Int → List Int → List (List Int)
 | w, [] => if w = [] then [] else [w]
 | w, c :: r => if spaceR c then (if w = [] then splitW [] r else w :: splitW [] r) else splitW (w ++ [c]) r
def splitG (s : List UInt8) : List (List UInt8) × Int := if (runesG s).2 = 0 then ((splitW [] (runesG s).1).map encAll, 0) else ([], (runesG s).2)
theorem runes_enc : ∀ (n : Nat) (s : List UInt8) (l : List Int), s.length ≤ n → runes s = some l → encAll l = s ∧ l.all point = true := by
 intro n
 induction n with
 | zero =>
  intro s l hn h
  have : s = [] := List.eq_nil_of_length_eq_zero (by omega)
  subst this
  rw [runes_nil] at h
  simp at h
  subst h; simp
 | succ n ih =>
  intro s l hn h
  by_cases h0 : s.length = 0
  ·have : s = [] := List.eq_nil_of_length_eq_zero h0
   subst this
   rw [runes_nil] at h
   simp at h
   subst h; simp
  by_cases hz : (dec s).2 = 0
  ·rw [runes_bad (by omega) hz] at h; cases h
  ·rw [runes_step (by omega) hz] at h
   obtain ⟨l', h1, rfl⟩ := Option.map_eq_some_iff.1 h
   have hb := dec_bound s
   obtain ⟨d1, d2, d3⟩ := dec_len hz
   have := ih _ _ (by simp only [List.length_drop]; omega) h1
   refine ⟨?_, by simp [d1, this.2]⟩
   rw [encAll_cons, this.1, d3, List.take_append_drop]
theorem runes_enc' {s : List UInt8} {l : List Int} (h : runes s = some l) : encAll l = s ∧ l.all point = true := runes_enc _ s l (Nat.le_refl _) h
theorem part_len {l : List Int} {i j : Nat} : (encAll ((l.take i).drop j)).length ≤ (encAll l).length := by
 have h1 := congrArg List.length (congrArg encAll (List.take_append_drop j (l.take i)))
 rw [encAll_append, List.length_append] at h1
 have := encAll_take_le l i
 omega
theorem part_point {l : List Int} {i j : Nat} (h : l.all point = true) : ((l.take i).drop j).all point = true := by
 rw [List.all_eq_true] at h ⊢
 exact fun x hx => h x (List.mem_of_mem_take (List.mem_of_mem_drop hx))
theorem part_next {l : List Int} {i j : Nat} (h : i < l.length) (hj : j ≤ i) : (l.take (i + 1)).drop j = (l.take i).drop j ++ [nth l i] := by
 rw [nth_take h, List.drop_append_of_le_length (by simp; omega)]
theorem splitW_drop {w l : List Int} {i : Nat} (h : i < l.length) : splitW w (l.drop i) = if spaceR (nth l i) then (if w = [] then splitW [] (l.drop (i + 1)) else w :: splitW [] (l.drop (i + 1))) else splitW (w ++ [nth l i]) (l.drop (i + 1)) := by
 rw [nth_drop h]; rfl
theorem joinG_part {l : List Int} (h : l.all point = true) (hl : (encAll l).length ≤ 4096) : joinG l = (encAll l, 0) := by
 unfold joinG; rw [h, if_pos rfl, if_neg (by omega)]
theorem splitG_bad {s : List UInt8} (h : ¬ (runesG s).2 = 0) : splitG s = ([], (runesG s).2) := by unfold splitG; rw [if_neg h]
theorem runesG_all {s : List UInt8} (h : (runesG s).2 = 0) : s.length ≤ 4096 ∧ runes s = some (runesG s).1 := by
 unfold runesG at h ⊢
 split at h
 ·simp at h
 ·rename_i h1
  rw [if_neg h1]
  cases hr : runes s with
  | none => rw [hr] at h; simp at h
  | some l => exact ⟨by omega, rfl⟩
theorem splitG_ok {s : List UInt8} (h : (runesG s).2 = 0) : splitG s = ((splitW [] (runesG s).1).map encAll, 0) := by unfold splitG; rw [if_pos h]
end Go.Ab
namespace Go.Ab
open Go.Proofs
set_option maxRecDepth 100000
set_option maxHeartbeats 4000000
theorem C34 (n : Int) : Kc cfg 34 [.int .i64 n] (.ret (.bool (dotB n))) := by
 have hd : dotB n = (decide (0 ≤ n) && decide (n ≤ 63)) := by unfold dotB; exact Bool.decide_and ..
 rw [hd]
 by_cases h : 0 ≤ n
 ·rw [decide_eq_true h]
  refine outS_of_wp cfg (fn := Tryd.f34) Tryd.func34 rfl (by simp [Tryd.f34]) ?_
  simp (disch := first | assumption | omega | (simp; done) | (simp; omega)) [-getElem?_pos, gZ, gS, Tryd.f34, h]
  repeat' (first | ((first | refine wpc_split _ ?_ ?_ | refine ww_split _ ?_ ?_) <;> intro hc <;> try simp at hc) | (refine wp_drawF (by kernel_rfl) ?_) | refine wk_yldW _ ?_ | refine layOwe _ (by kernel_rfl) ?_ | refine owe ?_ (fun ho => ?_) | (simp (disch := first | assumption | omega | (simp; done) | (simp; omega)) [h, -getElem?_pos, gZ, gS]))
 ·rw [decide_eq_false h]
  refine outS_of_wp cfg (fn := Tryd.f34) Tryd.func34 rfl (by simp [Tryd.f34]) ?_
  simp (disch := first | assumption | omega | (simp; done) | (simp; omega)) [-getElem?_pos, gZ, gS, Tryd.f34, h]
  repeat' (first | ((first | refine wpc_split _ ?_ ?_ | refine ww_split _ ?_ ?_) <;> intro hc <;> try simp at hc) | (refine wp_drawF (by kernel_rfl) ?_) | refine wk_yldW _ ?_ | refine layOwe _ (by kernel_rfl) ?_ | refine owe ?_ (fun ho => ?_) | (simp (disch := first | assumption | omega | (simp; done) | (simp; omega)) [h, -getElem?_pos, gZ, gS]))
@[simp] theorem S34 (n : Int) (hh : Heap) : Ci cfg (.func (.func 34) [] []) [.int .i64 n] hh = some (.ret (.bool (dotB n)), hh) :=
 Ci_K cfg rfl rfl (by simp) (by simp) (C34 n)
theorem C33 (l : List Int) (hs : l.length < 1099511627776) : Kc cfg 33 [R fl0 eI l, .func (.func 34) [] []] (.ret (.bool (dotsL l))) := by
 have hf := fun j => dotsL_f (l := l) (j := j)
 have ht := dotsL_t (l := l)
 generalize hF : dotsL l = F at *
 refine outS_of_wp cfg (fn := Tryd.f33) Tryd.func33 rfl (by simp [Tryd.f33]) ?_
 simp (disch := first | assumption | omega | (simp; done) | (simp; omega)) [-getElem?_pos, gZ, gS, Tryd.f33, emptyH]
 repeat' (first | ((first | refine wpc_split _ ?_ ?_ | refine ww_split _ ?_ ?_) <;> intro hc <;> try simp at hc) | (refine wp_drawF (by kernel_rfl) ?_) | refine wk_yldW _ ?_ | refine layOwe _ (by kernel_rfl) ?_ | refine owe ?_ (fun ho => ?_) | (simp (disch := first | assumption | omega | (simp; done) | (simp; omega)) [emptyH, Tryd.f61, Tryd.f74, Tryd.f62, -getElem?_pos, gZ, gS]))
 refine wp_loopE cfg rfl (fun f0 h0 m fr h => ∃ i : Nat, fr 0 = f0 0 ∧ fr 1 = f0 1 ∧ fr 6 = f0 6 ∧ fr 7 = f0 7 ∧ fr 8 = .int .i64 i ∧ h.bs = h0.bs ∧ (i + m = l.length) ∧ (∀ j, j < i → dotB (nth l j) = true)) (l.length) _ _ ⟨0, rfl, rfl, rfl, rfl, by first | rfl | (simp; done) | (simp [R]; done) | simp [R], rfl, by first | rfl | (simp; done) | omega, fun j hj => by omega⟩ ?_
 rintro Am Af Ah ⟨i, A0, A1, A6, A7, A8, Abs, hm, hx⟩ Aih
 try simp at A0 A1 A6 A7 Abs
 by_cases hi : i < l.length
 ·cases hd : dotB (nth l i) with
  | true =>
   repeat' (first | ((first | refine wpc_split _ ?_ ?_ | refine ww_split _ ?_ ?_) <;> intro hc <;> try simp at hc) | (refine wp_drawF (by kernel_rfl) ?_) | refine wk_yldW _ ?_ | refine layOwe _ (by kernel_rfl) ?_ | refine owe ?_ (fun ho => ?_) | (simp (disch := first | assumption | omega | (simp; done) | (simp; omega)) [A0, A1, A6, A7, A8, Abs, hd, eI, Abs, Tryd.f62, -getElem?_pos, gZ, gS]))
   exact Aih (Am - 1) _ _ (by omega) ⟨i + 1, by simp [A0, A1, A6, A7, A8, Abs], by simp [A0, A1, A6, A7, A8, Abs], by simp [A0, A1, A6, A7, A8, Abs], by simp [A0, A1, A6, A7, A8, Abs], by simp [A0, A1, A6, A7, A8, Abs], by simp [A0, A1, A6, A7, A8, Abs], by omega, fun j hj => by (by_cases e : j = i; (subst e; exact hd); exact hx j (by omega))⟩
  | false =>
   have h2 := hf i hi hd
   repeat' (first | ((first | refine wpc_split _ ?_ ?_ | refine ww_split _ ?_ ?_) <;> intro hc <;> try simp at hc) | (refine wp_drawF (by kernel_rfl) ?_) | refine wk_yldW _ ?_ | refine layOwe _ (by kernel_rfl) ?_ | refine owe ?_ (fun ho => ?_) | (simp (disch := first | assumption | omega | (simp; done) | (simp; omega)) [A0, A1, A6, A7, A8, Abs, hd, eI, Abs, Tryd.f62, -getElem?_pos, gZ, gS]))
   exact h2
 ·have h2 := ht (fun j hj => hx j (by omega))
  repeat' (first | ((first | refine wpc_split _ ?_ ?_ | refine ww_split _ ?_ ?_) <;> intro hc <;> try simp at hc) | (refine wp_drawF (by kernel_rfl) ?_) | refine wk_yldW _ ?_ | refine layOwe _ (by kernel_rfl) ?_ | refine owe ?_ (fun ho => ?_) | (simp (disch := first | assumption | omega | (simp; done) | (simp; omega)) [A0, A1, A6, A7, A8, Abs, -getElem?_pos, gZ, gS]))
  exact h2
@[simp] theorem S33 (l : List Int) (hs : l.length < 1099511627776) (q1 : Fl) (hh : Heap) : Ci cfg (.func (.func 33) [] []) [R  q1 eI l, .func (.func 34) [] []] hh = some (.ret (.bool (dotsL l)), hh) :=
 Ci_K cfg rfl rfl (by simp) (by simp) (C33 l hs)
def preZ (p s : Wd) : Bool := decide (p <+: s)
theorem preZ_short {p s : Wd} (h : p.length ≤ s.length) : preZ p s = (s.take p.length == p) := by
 unfold preZ
 rw [Bool.eq_iff_iff, decide_eq_true_eq, beq_iff_eq, List.prefix_iff_eq_take]
 exact ⟨fun e => e.symm, fun e => e.symm⟩
theorem preZ_long {p s : Wd} (h : ¬ p.length ≤ s.length) : preZ p s = false := by
 unfold preZ
 rw [decide_eq_false_iff_not]
 exact fun e => h e.length_le
theorem C59 (s p : List UInt8) (hs : s.length < 1099511627776) (hp : p.length < 1099511627776) : Kc cfg 59 [.str s, .str p] (.ret (.bool (preZ p s))) := by
 by_cases h : p.length ≤ s.length
 ·rw [preZ_short h]
  refine outS_of_wp cfg (fn := Tryd.f59) Tryd.func59 rfl (by simp [Tryd.f59]) ?_
  simp (disch := first | assumption | omega | (simp; done) | (simp; omega)) [-getElem?_pos, gZ, gS, Tryd.f59, h]
  repeat' (first | ((first | refine wpc_split _ ?_ ?_ | refine ww_split _ ?_ ?_) <;> intro hc <;> try simp at hc) | (refine wp_drawF (by kernel_rfl) ?_) | refine wk_yldW _ ?_ | refine layOwe _ (by kernel_rfl) ?_ | refine owe ?_ (fun ho => ?_) | (simp (disch := first | assumption | omega | (simp; done) | (simp; omega)) [h, -getElem?_pos, gZ, gS]))
 ·rw [preZ_long h]
  refine outS_of_wp cfg (fn := Tryd.f59) Tryd.func59 rfl (by simp [Tryd.f59]) ?_
  simp (disch := first | assumption | omega | (simp; done) | (simp; omega)) [-getElem?_pos, gZ, gS, Tryd.f59, h]
  repeat' (first | ((first | refine wpc_split _ ?_ ?_ | refine ww_split _ ?_ ?_) <;> intro hc <;> try simp at hc) | (refine wp_drawF (by kernel_rfl) ?_) | refine wk_yldW _ ?_ | refine layOwe _ (by kernel_rfl) ?_ | refine owe ?_ (fun ho => ?_) | (simp (disch := first | assumption | omega | (simp; done) | (simp; omega)) [h, -getElem?_pos, gZ, gS]))
@[simp] theorem S59 (s p : List UInt8) (hs : s.length < 1099511627776) (hp : p.length < 1099511627776) (hh : Heap) : Ci cfg (.func (.func 59) [] []) [.str s, .str p] hh = some (.ret (.bool (preZ p s)), hh) :=
 Ci_K cfg rfl rfl (by simp) (by simp) (C59 s p hs hp)
theorem C30 (s p : List UInt8) (hs : s.length < 1099511627776) (hp : p.length < 1099511627776) : Kc cfg 30 [.str s, .str p] (.ret (.bool (preZ p s))) := by
 refine outS_of_wp cfg (fn := Tryd.f30) Tryd.func30 rfl (by simp [Tryd.f30]) ?_
 simp (disch := first | assumption | omega | (simp; done) | (simp; omega)) [-getElem?_pos, gZ, gS, Tryd.f30]
 repeat' (first | ((first | refine wpc_split _ ?_ ?_ | refine ww_split _ ?_ ?_) <;> intro hc <;> try simp at hc) | (refine wp_drawF (by kernel_rfl) ?_) | refine wk_yldW _ ?_ | refine layOwe _ (by kernel_rfl) ?_ | refine owe ?_ (fun ho => ?_) | (simp (disch := first | assumption | omega | (simp; done) | (simp; omega)) [-getElem?_pos, gZ, gS]))
@[simp] theorem S30 (s p : List UInt8) (hs : s.length < 1099511627776) (hp : p.length < 1099511627776) (hh : Heap) : Ci cfg (.func (.func 30) [] []) [.str s, .str p] hh = some (.ret (.bool (preZ p s)), hh) :=
 Ci_K cfg rfl rfl (by simp) (by simp) (C30 s p hs hp)
theorem C41 (l : List Int) (hs : l.length < 1099511627776) : Kc cfg 41 [R fl0 eI l] (.ret (.bool (dotsL l))) := by
 have hf := fun j => dotsL_f (l := l) (j := j)
 have ht := dotsL_t (l := l)
 generalize hF : dotsL l = F at *
 refine outS_of_wp cfg (fn := Tryd.f41) Tryd.func41 rfl (by simp [Tryd.f41]) ?_
 simp (disch := first | assumption | omega | (simp; done) | (simp; omega)) [-getElem?_pos, gZ, gS, Tryd.f41]
 repeat' (first | ((first | refine wpc_split _ ?_ ?_ | refine ww_split _ ?_ ?_) <;> intro hc <;> try simp at hc) | (refine wp_drawF (by kernel_rfl) ?_) | refine wk_yldW _ ?_ | refine layOwe _ (by kernel_rfl) ?_ | refine owe ?_ (fun ho => ?_) | (simp (disch := first | assumption | omega | (simp; done) | (simp; omega)) [-getElem?_pos, gZ, gS]))
 refine wp_loopE cfg rfl (fun f0 h0 m fr h => ∃ i : Nat, fr 0 = f0 0 ∧ fr 3 = .int .i64 i ∧ (i + m = l.length) ∧ (∀ j, j < i → dotB (nth l j) = true)) (l.length) _ _ ⟨0, rfl, by first | rfl | (simp; done) | (simp [R]; done) | simp [R], by first | rfl | (simp; done) | omega, fun j hj => by omega⟩ ?_
 rintro Am Af Ah ⟨i, A0, A3, hm, hx⟩ Aih
 try simp at A0
 by_cases hi : i < l.length
 ·by_cases h0 : nth l i < 0
  ·have h2 := hf i hi (decide_eq_false (by omega))
   repeat' (first | ((first | refine wpc_split _ ?_ ?_ | refine ww_split _ ?_ ?_) <;> intro hc <;> try simp at hc) | (refine wp_drawF (by kernel_rfl) ?_) | refine wk_yldW _ ?_ | refine layOwe _ (by kernel_rfl) ?_ | refine owe ?_ (fun ho => ?_) | (simp (disch := first | assumption | omega | (simp; done) | (simp; omega)) [A0, A3, eI, h0, -getElem?_pos, gZ, gS]))
   exact h2
  ·by_cases h1 : 63 < nth l i
   ·have h2 := hf i hi (decide_eq_false (by omega))
    repeat' (first | ((first | refine wpc_split _ ?_ ?_ | refine ww_split _ ?_ ?_) <;> intro hc <;> try simp at hc) | (refine wp_drawF (by kernel_rfl) ?_) | refine wk_yldW _ ?_ | refine layOwe _ (by kernel_rfl) ?_ | refine owe ?_ (fun ho => ?_) | (simp (disch := first | assumption | omega | (simp; done) | (simp; omega)) [A0, A3, eI, h0, h1, -getElem?_pos, gZ, gS]))
    exact h2
   ·have hd : dotB (nth l i) = true := decide_eq_true (by omega)
    repeat' (first | ((first | refine wpc_split _ ?_ ?_ | refine ww_split _ ?_ ?_) <;> intro hc <;> try simp at hc) | (refine wp_drawF (by kernel_rfl) ?_) | refine wk_yldW _ ?_ | refine layOwe _ (by kernel_rfl) ?_ | refine owe ?_ (fun ho => ?_) | (simp (disch := first | assumption | omega | (simp; done) | (simp; omega)) [A0, A3, eI, h0, h1, -getElem?_pos, gZ, gS]))
    all_goals try (exfalso; omega)
    exact Aih (Am - 1) _ _ (by omega) ⟨i + 1, by simp [A0, A3], by simp [A0, A3], by omega, fun j hj => by (by_cases e : j = i; (subst e; exact hd); exact hx j (by omega))⟩
 ·have h2 := ht (fun j hj => hx j (by omega))
  repeat' (first | ((first | refine wpc_split _ ?_ ?_ | refine ww_split _ ?_ ?_) <;> intro hc <;> try simp at hc) | (refine wp_drawF (by kernel_rfl) ?_) | refine wk_yldW _ ?_ | refine layOwe _ (by kernel_rfl) ?_ | refine owe ?_ (fun ho => ?_) | (simp (disch := first | assumption | omega | (simp; done) | (simp; omega)) [A0, A3, -getElem?_pos, gZ, gS]))
  exact h2
@[simp] theorem S41 (l : List Int) (hs : l.length < 1099511627776) (q1 : Fl) (hh : Heap) : Ci cfg (.func (.func 41) [] []) [R  q1 eI l] hh = some (.ret (.bool (dotsL l)), hh) :=
 Ci_K cfg rfl rfl (by simp) (by simp) (C41 l hs)
end Go.Ab
namespace Go.Ab
open Go.Proofs
set_option maxRecDepth 100000
set_option maxHeartbeats 4000000
theorem C13 (t : List Sgn) (hs : smZs t) : Kc cfg 13 [R fl0 eZ t] (.ret (.int .i64 (checkZ t))) := by
 have hs1 := hs.1
 have hmany := checkZ_many (t := t)
 have hbad := fun h i => checkZ_bad (t := t) h (i := i)
 have hemp := checkZ_empty (t := t)
 have hok := checkZ_ok (t := t)
 generalize hF : checkZ t = F at *
 by_cases h64 : 64 < t.length
 ·rw [hmany h64]
  refine outS_of_wp cfg (fn := Tryd.f13) Tryd.func13 rfl (by simp [Tryd.f13]) ?_
  simp (disch := first | assumption | omega | (simp; done) | (simp; omega)) [-getElem?_pos, gZ, gS, Tryd.f13, emptyH, h64]
  repeat' (first | ((first | refine wpc_split _ ?_ ?_ | refine ww_split _ ?_ ?_) <;> intro hc <;> try simp at hc) | (refine wp_drawF (by kernel_rfl) ?_) | refine wk_yldW _ ?_ | refine layOwe _ (by kernel_rfl) ?_ | refine owe ?_ (fun ho => ?_) | (simp (disch := first | assumption | omega | (simp; done) | (simp; omega)) [emptyH, h64, -getElem?_pos, gZ, gS]))
  all_goals try (exfalso; omega)
 refine outS_of_wp cfg (fn := Tryd.f13) Tryd.func13 rfl (by simp [Tryd.f13]) ?_
 simp (disch := first | assumption | omega | (simp; done) | (simp; omega)) [-getElem?_pos, gZ, gS, Tryd.f13, emptyH]
 repeat' (first | ((first | refine wpc_split _ ?_ ?_ | refine ww_split _ ?_ ?_) <;> intro hc <;> try simp at hc) | (refine wp_drawF (by kernel_rfl) ?_) | refine wk_yldW _ ?_ | refine layOwe _ (by kernel_rfl) ?_ | refine owe ?_ (fun ho => ?_) | (simp (disch := first | assumption | omega | (simp; done) | (simp; omega)) [emptyH, -getElem?_pos, gZ, gS]))
 all_goals try (exfalso; omega)
 refine wp_loopE cfg rfl (fun f0 h0 m fr h => ∃ i : Nat, ∃ X : List Blk, fr 0 = f0 0 ∧ fr 3 = f0 3 ∧ fr 12 = f0 12 ∧ fr 13 = f0 13 ∧ fr 14 = .int .i64 i ∧ (h.bs = .map (mSn 0 (textsZ (t.take i))) (textsZ (t.take i)).length :: X) ∧ (i + m = t.length) ∧ (∀ j, j < i → sgnAt t j = true)) (t.length) _ _ ⟨0, [], rfl, rfl, rfl, rfl, by first | rfl | (simp; done) | (simp [R]; done) | simp [R], by simp [textsZ, mSn], by first | rfl | (simp; done) | omega, fun j hj => by omega⟩ ?_
 rintro Am Af Ah ⟨i, X, A0, A3, A12, A13, A14, hb, hm, hx⟩ Aih
 try simp at A0 A3 A12 A13
 by_cases hi : i < t.length
 ·obtain ⟨k1, k2⟩ := smZs_nth hs hi
  have hfr := fresh_iff (t := t) (i := i) (by omega)
  have hat : sgnAt t i = (sgnH (nth t i) && dotsL (nth t i).cells && freshZ t i) := rfl
  have lk := lookup_Sn (P := Tryd.prog) (h := Ah) (a := 0) (t := 55) (kt := 9) (et := 4) (l := textsZ (t.take i)) (nth t i).text (by simp) (by simp) (by simp) (by rw [hb]; rfl)
  have hlk : ∀ (Y : List Blk) ts, lookupV Tryd.prog ⟨.map (mSn 0 (textsZ (t.take i))) (textsZ (t.take i)).length :: Y, ts⟩ 55 (.map 0) (.str (nth t i).text) false = some (.bool (decide ((nth t i).text ∈ textsZ (t.take i)))) := fun Y ts => lookup_Sn (kt := 9) (et := 4) _ (by simp) (by simp) (by simp) rfl
  clear lk
  have htk : textsZ (t.take i) ++ [(nth t i).text] = textsZ (t.take (i + 1)) := by rw [nth_take hi]; simp [textsZ]
  by_cases hg : sgnH (nth t i) = true
  ·have hg0 := hg
   unfold sgnH at hg
   rw [decide_eq_true_eq] at hg
   obtain ⟨g1, g2, g3, g4, g5⟩ := hg
   cases hd : dotsL (nth t i).cells with
   | false =>
    have h2 := hbad h64 i hi (by rw [hat, hd, hg0]; rfl)
    repeat' (first | ((first | refine wpc_split _ ?_ ?_ | refine ww_split _ ?_ ?_) <;> intro hc <;> try simp at hc) | (refine wp_drawF (by kernel_rfl) ?_) | refine wk_yldW _ ?_ | refine layOwe _ (by kernel_rfl) ?_ | refine owe ?_ (fun ho => ?_) | (simp (disch := first | assumption | omega | (simp; done) | (simp; omega)) [A0, A3, A12, A13, A14, hb, hi, k1, k2, g1, g2, g3, g4, g5, hd, hlk, -getElem?_pos, gZ, gS]))
    all_goals try (exfalso; omega)
    all_goals first | exact h2.symm | (exfalso; omega)
   | true =>
    by_cases hf : (nth t i).text ∈ textsZ (t.take i)
    ·have h2 := hbad h64 i hi (by rw [hat, hd, hg0, hfr, decide_eq_true hf]; rfl)
     repeat' (first | ((first | refine wpc_split _ ?_ ?_ | refine ww_split _ ?_ ?_) <;> intro hc <;> try simp at hc) | (refine wp_drawF (by kernel_rfl) ?_) | refine wk_yldW _ ?_ | refine layOwe _ (by kernel_rfl) ?_ | refine owe ?_ (fun ho => ?_) | (simp (disch := first | assumption | omega | (simp; done) | (simp; omega)) [A0, A3, A12, A13, A14, hb, hi, k1, k2, g1, g2, g3, g4, g5, hd, hlk, hf, -getElem?_pos, gZ, gS]))
     all_goals try (exfalso; omega)
     all_goals first | exact h2.symm | (exfalso; omega)
    ·have h2 : sgnAt t i = true := by rw [hat, hd, hg0, hfr, decide_eq_false hf]; rfl
     have hup : ∀ (Y : List Blk) ts, mapUpdV Tryd.prog ⟨.map (mSn 0 (textsZ (t.take i))) (textsZ (t.take i)).length :: Y, ts⟩ 55 (.map 0) (.str (nth t i).text) (.bool true) = some ⟨.map (mSn 0 (textsZ (t.take (i + 1)))) (textsZ (t.take (i + 1))).length :: Y, ts⟩ := fun Y ts => by
      rw [← htk]
      exact upd_Sn (kt := 9) (et := 4) _ hf (by simp) (by simp) rfl
     repeat' (first | ((first | refine wpc_split _ ?_ ?_ | refine ww_split _ ?_ ?_) <;> intro hc <;> try simp at hc) | (refine wp_drawF (by kernel_rfl) ?_) | refine wk_yldW _ ?_ | refine layOwe _ (by kernel_rfl) ?_ | refine owe ?_ (fun ho => ?_) | (simp (disch := first | assumption | omega | (simp; done) | (simp; omega)) [A0, A3, A12, A13, A14, hb, hi, k1, k2, g1, g2, g3, g4, g5, hd, hlk, hf, hup, -getElem?_pos, gZ, gS]))
     all_goals try (exfalso; omega)
     exact Aih (Am - 1) _ _ (by omega) ⟨i + 1, X ++ [.cells [.str (nth t i).text, R fl0 eI (nth t i).cells]], by simp [A0, A3, A12, A13, A14], by simp [A0, A3, A12, A13, A14], by simp [A0, A3, A12, A13, A14], by simp [A0, A3, A12, A13, A14], by simp [A0, A3, A12, A13, A14], rfl, by omega, fun j hj => by (by_cases e : j = i; (subst e; exact h2); exact hx j (by omega))⟩
  ·have h2 := hbad h64 i hi (by rw [hat]; simp [hg])
   unfold sgnH at hg
   rw [decide_eq_true_eq] at hg
   repeat' (first | ((first | refine wpc_split _ ?_ ?_ | refine ww_split _ ?_ ?_) <;> intro hc <;> try simp at hc) | (refine wp_drawF (by kernel_rfl) ?_) | refine wk_yldW _ ?_ | refine layOwe _ (by kernel_rfl) ?_ | refine owe ?_ (fun ho => ?_) | (simp (disch := first | assumption | omega | (simp; done) | (simp; omega)) [A0, A3, A12, A13, A14, hb, hi, k1, k2, hlk, -getElem?_pos, gZ, gS]))
   all_goals try (exfalso; omega)
   all_goals first | exact h2.symm | (exfalso; omega)
 ·obtain rfl : i = t.length := by omega
  by_cases h0 : t.length = 0
  ·have h2 := hemp h0
   repeat' (first | ((first | refine wpc_split _ ?_ ?_ | refine ww_split _ ?_ ?_) <;> intro hc <;> try simp at hc) | (refine wp_drawF (by kernel_rfl) ?_) | refine wk_yldW _ ?_ | refine layOwe _ (by kernel_rfl) ?_ | refine owe ?_ (fun ho => ?_) | (simp (disch := first | assumption | omega | (simp; done) | (simp; omega)) [A0, A3, A12, A13, A14, h0, -getElem?_pos, gZ, gS]))
   all_goals first | exact h2.symm | (exfalso; omega)
  ·have h2 := hok h64 h0 hx
   have h3 : ¬ t = [] := fun e => h0 (by rw [e]; rfl)
   repeat' (first | ((first | refine wpc_split _ ?_ ?_ | refine ww_split _ ?_ ?_) <;> intro hc <;> try simp at hc) | (refine wp_drawF (by kernel_rfl) ?_) | refine wk_yldW _ ?_ | refine layOwe _ (by kernel_rfl) ?_ | refine owe ?_ (fun ho => ?_) | (simp (disch := first | assumption | omega | (simp; done) | (simp; omega)) [A0, A3, A12, A13, A14, h0, h3, -getElem?_pos, gZ, gS]))
   all_goals first | exact h2.symm | (exfalso; omega)
@[simp] theorem S13 (t : List Sgn) (hs : smZs t) (q1 : Fl) (hh : Heap) : Ci cfg (.func (.func 13) [] []) [R  q1 eZ t] hh = some (.ret (.int .i64 (checkZ t)), hh) :=
 Ci_K cfg rfl rfl (by simp) (by simp) (C13 t hs)
theorem C35 (t : List Sgn) (hs : smZs t) : Kc cfg 35 [R fl0 eZ t] (.ret (.bool (decide (checkZ t = 0)))) := by
 have hs1 := hs.1
 have hmany := checkZ_many (t := t)
 have hbad := fun h i => checkZ_bad (t := t) h (i := i)
 have hemp := checkZ_empty (t := t)
 have hok := checkZ_ok (t := t)
 generalize hF : checkZ t = F at *
 by_cases h64 : 64 < t.length
 ·rw [hmany h64]
  refine outS_of_wp cfg (fn := Tryd.f35) Tryd.func35 rfl (by simp [Tryd.f35]) ?_
  simp (disch := first | assumption | omega | (simp; done) | (simp; omega)) [-getElem?_pos, gZ, gS, Tryd.f35, emptyH, h64]
  repeat' (first | ((first | refine wpc_split _ ?_ ?_ | refine ww_split _ ?_ ?_) <;> intro hc <;> try simp at hc) | (refine wp_drawF (by kernel_rfl) ?_) | refine wk_yldW _ ?_ | refine layOwe _ (by kernel_rfl) ?_ | refine owe ?_ (fun ho => ?_) | (simp (disch := first | assumption | omega | (simp; done) | (simp; omega)) [emptyH, h64, -getElem?_pos, gZ, gS]))
  all_goals try (exfalso; omega)
 by_cases h0 : t.length = 0
 ·rw [hemp h0]
  refine outS_of_wp cfg (fn := Tryd.f35) Tryd.func35 rfl (by simp [Tryd.f35]) ?_
  simp (disch := first | assumption | omega | (simp; done) | (simp; omega)) [-getElem?_pos, gZ, gS, Tryd.f35, emptyH, h0]
  repeat' (first | ((first | refine wpc_split _ ?_ ?_ | refine ww_split _ ?_ ?_) <;> intro hc <;> try simp at hc) | (refine wp_drawF (by kernel_rfl) ?_) | refine wk_yldW _ ?_ | refine layOwe _ (by kernel_rfl) ?_ | refine owe ?_ (fun ho => ?_) | (simp (disch := first | assumption | omega | (simp; done) | (simp; omega)) [emptyH, h0, -getElem?_pos, gZ, gS]))
  all_goals try (exfalso; omega)
 refine outS_of_wp cfg (fn := Tryd.f35) Tryd.func35 rfl (by simp [Tryd.f35]) ?_
 simp (disch := first | assumption | omega | (simp; done) | (simp; omega)) [-getElem?_pos, gZ, gS, Tryd.f35, emptyH]
 repeat' (first | ((first | refine wpc_split _ ?_ ?_ | refine ww_split _ ?_ ?_) <;> intro hc <;> try simp at hc) | (refine wp_drawF (by kernel_rfl) ?_) | refine wk_yldW _ ?_ | refine layOwe _ (by kernel_rfl) ?_ | refine owe ?_ (fun ho => ?_) | (simp (disch := first | assumption | omega | (simp; done) | (simp; omega)) [emptyH, -getElem?_pos, gZ, gS]))
 all_goals try (exfalso; omega)
 refine wp_loopE cfg rfl (fun f0 h0 m fr h => ∃ i : Nat, fr 0 = f0 0 ∧ fr 3 = .int .i64 i ∧ h.bs = h0.bs ∧ (i + m = t.length) ∧ (∀ j, j < i → sgnAt t j = true)) (t.length) _ _ ⟨0, rfl, by first | rfl | (simp; done) | (simp [R]; done) | simp [R], rfl, by first | rfl | (simp; done) | omega, fun j hj => by omega⟩ ?_
 rintro Am Af Ah ⟨i, A0, A3, Abs, hm, hx⟩ Aih
 try simp at A0 Abs
 by_cases hi : i < t.length
 ·obtain ⟨k1, k2⟩ := smZs_nth hs hi
  have hat : sgnAt t i = (sgnH (nth t i) && dotsL (nth t i).cells && freshZ t i) := rfl
  by_cases hg : sgnH (nth t i) = true
  ·have hg0 := hg
   unfold sgnH at hg
   rw [decide_eq_true_eq] at hg
   obtain ⟨g1, g2, g3, g4, g5⟩ := hg
   cases hd : dotsL (nth t i).cells with
   | false =>
    have h2 := hbad h64 i hi (by rw [hat, hd, hg0]; rfl)
    rw [h2]
    repeat' (first | ((first | refine wpc_split _ ?_ ?_ | refine ww_split _ ?_ ?_) <;> intro hc <;> try simp at hc) | (refine wp_drawF (by kernel_rfl) ?_) | refine wk_yldW _ ?_ | refine layOwe _ (by kernel_rfl) ?_ | refine owe ?_ (fun ho => ?_) | (simp (disch := first | assumption | omega | (simp; done) | (simp; omega)) [A0, A3, Abs, hi, k1, k2, g1, g2, g3, g4, g5, hd, -getElem?_pos, gZ, gS]))
    all_goals try (exfalso; omega)
   | true =>
    repeat' (first | ((first | refine wpc_split _ ?_ ?_ | refine ww_split _ ?_ ?_) <;> intro hc <;> try simp at hc) | (refine wp_drawF (by kernel_rfl) ?_) | refine wk_yldW _ ?_ | refine layOwe _ (by kernel_rfl) ?_ | refine owe ?_ (fun ho => ?_) | (simp (disch := first | assumption | omega | (simp; done) | (simp; omega)) [A0, A3, Abs, hi, k1, k2, g1, g2, g3, g4, g5, hd, -getElem?_pos, gZ, gS]))
    all_goals try (exfalso; omega)
    refine wp_loopE cfg rfl (fun f0 h0 m fr h => ∃ k : Nat, fr 0 = f0 0 ∧ fr 3 = f0 3 ∧ fr 6 = .int .i64 k ∧ h.bs = h0.bs ∧ (k + m = i) ∧ (∀ j, j < k → ¬ (nth t j).text = (nth t i).text)) (i) _ _ ⟨0, rfl, rfl, by first | rfl | (simp; done) | (simp [R]; done) | simp [R], rfl, by first | rfl | (simp; done) | omega, fun j hj => by omega⟩ ?_
    rintro Bm Bf Bh ⟨k, B0, B3, B6, Bbs, hm2, hy⟩ Bih
    try simp [A0, A3, Abs] at B0 B3 Bbs
    by_cases hk : k < i
    ·have hkl : k < t.length := by omega
     obtain ⟨k3, k4⟩ := smZs_nth hs hkl
     by_cases he : (nth t k).text = (nth t i).text
     ·have hf : freshZ t i = false := decide_eq_false (fun h => h k hk he)
      have h2 := hbad h64 i hi (by rw [hat, hf]; simp)
      rw [h2]
      repeat' (first | ((first | refine wpc_split _ ?_ ?_ | refine ww_split _ ?_ ?_) <;> intro hc <;> try simp at hc) | (refine wp_drawF (by kernel_rfl) ?_) | refine wk_yldW _ ?_ | refine layOwe _ (by kernel_rfl) ?_ | refine owe ?_ (fun ho => ?_) | (simp (disch := first | assumption | omega | (simp; done) | (simp; omega)) [B0, B3, B6, Bbs, A0, A3, Abs, hi, hkl, hk, he, -getElem?_pos, gZ, gS]))
      all_goals try (exfalso; omega)
     ·repeat' (first | ((first | refine wpc_split _ ?_ ?_ | refine ww_split _ ?_ ?_) <;> intro hc <;> try simp at hc) | (refine wp_drawF (by kernel_rfl) ?_) | refine wk_yldW _ ?_ | refine layOwe _ (by kernel_rfl) ?_ | refine owe ?_ (fun ho => ?_) | (simp (disch := first | assumption | omega | (simp; done) | (simp; omega)) [B0, B3, B6, Bbs, A0, A3, Abs, hi, hkl, hk, he, -getElem?_pos, gZ, gS]))
      all_goals try (exfalso; omega)
      exact Bih (Bm - 1) _ _ (by omega) ⟨k + 1, by simp [B0, B3, B6, Bbs, A0, A3, Abs], by simp [B0, B3, B6, Bbs, A0, A3, Abs], by simp [B0, B3, B6, Bbs, A0, A3, Abs], by simp [B0, B3, B6, Bbs, A0, A3, Abs], by omega, fun j hj => by (by_cases e : j = k; (subst e; exact he); exact hy j (by omega))⟩
    ·have hki : k = i := by omega
     subst hki
     have hf : freshZ t k = true := decide_eq_true hy
     have h2 : sgnAt t k = true := by rw [hat, hd, hg0, hf]; rfl
     repeat' (first | ((first | refine wpc_split _ ?_ ?_ | refine ww_split _ ?_ ?_) <;> intro hc <;> try simp at hc) | (refine wp_drawF (by kernel_rfl) ?_) | refine wk_yldW _ ?_ | refine layOwe _ (by kernel_rfl) ?_ | refine owe ?_ (fun ho => ?_) | (simp (disch := first | assumption | omega | (simp; done) | (simp; omega)) [B0, B3, B6, Bbs, A0, A3, Abs, -getElem?_pos, gZ, gS]))
     all_goals try (exfalso; omega)
     exact Aih (Am - 1) _ _ (by omega) ⟨k + 1, by simp [B0, B3, B6, Bbs, A0, A3, Abs], by simp [B0, B3, B6, Bbs, A0, A3, Abs], by simp [B0, B3, B6, Bbs, A0, A3, Abs], by omega, fun j hj => by (by_cases e : j = k; (subst e; exact h2); exact hx j (by omega))⟩
  ·have h2 := hbad h64 i hi (by rw [hat]; simp [hg])
   rw [h2]
   unfold sgnH at hg
   rw [decide_eq_true_eq] at hg
   repeat' (first | ((first | refine wpc_split _ ?_ ?_ | refine ww_split _ ?_ ?_) <;> intro hc <;> try simp at hc) | (refine wp_drawF (by kernel_rfl) ?_) | refine wk_yldW _ ?_ | refine layOwe _ (by kernel_rfl) ?_ | refine owe ?_ (fun ho => ?_) | (simp (disch := first | assumption | omega | (simp; done) | (simp; omega)) [A0, A3, Abs, hi, k1, k2, -getElem?_pos, gZ, gS]))
   all_goals try (exfalso; omega)
 ·obtain rfl : i = t.length := by omega
  have h2 := hok h64 h0 hx
  rw [h2]
  repeat' (first | ((first | refine wpc_split _ ?_ ?_ | refine ww_split _ ?_ ?_) <;> intro hc <;> try simp at hc) | (refine wp_drawF (by kernel_rfl) ?_) | refine wk_yldW _ ?_ | refine layOwe _ (by kernel_rfl) ?_ | refine owe ?_ (fun ho => ?_) | (simp (disch := first | assumption | omega | (simp; done) | (simp; omega)) [A0, A3, Abs, -getElem?_pos, gZ, gS]))
  all_goals try (exfalso; omega)
@[simp] theorem S35 (t : List Sgn) (hs : smZs t) (q1 : Fl) (hh : Heap) : Ci cfg (.func (.func 35) [] []) [R  q1 eZ t] hh = some (.ret (.bool (decide (checkZ t = 0))), hh) :=
 Ci_K cfg rfl rfl (by simp) (by simp) (C35 t hs)
theorem C14 (t : List Sgn) (hs : smZs t) : Kc cfg 14 [R fl0 eZ t] (.ret (.int .i64 (checkZ t))) := by
 have hs1 := hs.1
 by_cases h64 : 64 < t.length
 ·rw [checkZ_many h64]
  refine outS_of_wp cfg (fn := Tryd.f14) Tryd.func14 rfl (by simp [Tryd.f14]) ?_
  simp (disch := first | assumption | omega | (simp; done) | (simp; omega)) [-getElem?_pos, gZ, gS, Tryd.f14, h64]
  repeat' (first | ((first | refine wpc_split _ ?_ ?_ | refine ww_split _ ?_ ?_) <;> intro hc <;> try simp at hc) | (refine wp_drawF (by kernel_rfl) ?_) | refine wk_yldW _ ?_ | refine layOwe _ (by kernel_rfl) ?_ | refine owe ?_ (fun ho => ?_) | (simp (disch := first | assumption | omega | (simp; done) | (simp; omega)) [h64, -getElem?_pos, gZ, gS]))
  all_goals try (exfalso; omega)
 ·by_cases h : checkZ t = 0
  ·skip
   refine outS_of_wp cfg (fn := Tryd.f14) Tryd.func14 rfl (by simp [Tryd.f14]) ?_
   simp (disch := first | assumption | omega | (simp; done) | (simp; omega)) [-getElem?_pos, gZ, gS, Tryd.f14, h64, h]
   repeat' (first | ((first | refine wpc_split _ ?_ ?_ | refine ww_split _ ?_ ?_) <;> intro hc <;> try simp at hc) | (refine wp_drawF (by kernel_rfl) ?_) | refine wk_yldW _ ?_ | refine layOwe _ (by kernel_rfl) ?_ | refine owe ?_ (fun ho => ?_) | (simp (disch := first | assumption | omega | (simp; done) | (simp; omega)) [h64, h, -getElem?_pos, gZ, gS]))
   all_goals try (exfalso; omega)
  ·have h2 : checkZ t = 120 := by
    unfold checkZ at h ⊢
    rw [if_neg h64] at h ⊢
    split
    ·rfl
    ·rename_i h0
     rw [if_neg h0] at h
     split
     ·rename_i h1; rw [if_pos h1] at h; exact absurd rfl h
     ·rfl
   refine outS_of_wp cfg (fn := Tryd.f14) Tryd.func14 rfl (by simp [Tryd.f14]) ?_
   simp (disch := first | assumption | omega | (simp; done) | (simp; omega)) [-getElem?_pos, gZ, gS, Tryd.f14, h64, h2]
   repeat' (first | ((first | refine wpc_split _ ?_ ?_ | refine ww_split _ ?_ ?_) <;> intro hc <;> try simp at hc) | (refine wp_drawF (by kernel_rfl) ?_) | refine wk_yldW _ ?_ | refine layOwe _ (by kernel_rfl) ?_ | refine owe ?_ (fun ho => ?_) | (simp (disch := first | assumption | omega | (simp; done) | (simp; omega)) [h64, h2, -getElem?_pos, gZ, gS]))
   all_goals try (exfalso; omega)
@[simp] theorem S14 (t : List Sgn) (hs : smZs t) (q1 : Fl) (hh : Heap) : Ci cfg (.func (.func 14) [] []) [R  q1 eZ t] hh = some (.ret (.int .i64 (checkZ t)), hh) :=
 Ci_K cfg rfl rfl (by simp) (by simp) (C14 t hs)
end Go.Ab
