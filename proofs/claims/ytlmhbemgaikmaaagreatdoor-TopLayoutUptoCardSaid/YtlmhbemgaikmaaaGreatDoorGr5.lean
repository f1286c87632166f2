/- A part of the proof. -/
import Derived.Test.YtlmhbemgaikmaaaGreatDoorGr2
import Derived.Test.YtlmhbemgaikmaaaGreatDoorGr4
import Derived.Test.YtlmhbemgaikmaaaGreatDoorU
set_option linter.unusedVariables false
set_option linter.unusedSimpArgs false
set_option linter.unusedSectionVars false
set_option linter.deprecated false
namespace Go.Ab
open Go.Proofs
set_option maxRecDepth 100000
set_option maxHeartbeats 4000000
theorem acc0 : nth acceptL 0 = (128, 191) := rfl
theorem acc1 : nth acceptL 1 = (160, 191) := rfl
theorem acc2 : nth acceptL 2 = (128, 159) := rfl
theorem acc3 : nth acceptL 3 = (144, 191) := rfl
theorem acc4 : nth acceptL 4 = (128, 143) := rfl
theorem shr2 : ishr .u8 2 4 = 0 := by decide
theorem shr3 : ishr .u8 3 4 = 0 := by decide
theorem shr4 : ishr .u8 4 4 = 0 := by decide
theorem shr19 : ishr .u8 19 4 = 1 := by decide
theorem shr35 : ishr .u8 35 4 = 2 := by decide
theorem shr52 : ishr .u8 52 4 = 3 := by decide
theorem shr68 : ishr .u8 68 4 = 4 := by decide
theorem shl241 : ishl .i32 241 31 = -2147483648 := by decide
theorem shrneg : ishr .i32 (-2147483648) 31 = -1 := by decide
theorem andneg : iand .i32 65533 (-1) = 65533 := by decide
theorem or0 : ior .i32 0 65533 = 65533 := by decide
theorem andNotneg (x : Int) : iandNot .i32 x (-1) = 0 := by
 unfold iandNot
 have : ~~~(BitVec.ofInt IntKind.i32.bits (-1)) = 0 := by decide
 rw [this]; simp
attribute [local simp] shr2 shr3 shr4 shr19 shr35 shr52 shr68 shl241 shrneg andneg or0 andNotneg
attribute [local simp] globs_0 globs_1 firstL_len acceptL_len acc0 acc1 acc2 acc3 acc4 iand_7 iand_15 iand_31 iand_63 ior_6 ior_12 ior_18 ishl_6 ishl_12 ishl_18 eU eU2
theorem C93 (s : List UInt8) (hs : 1 ≤ s.length) (h128 : 128 ≤ (nth s 0).toNat) (hlen : s.length < 1099511627776) : Kc cfg 93 [.str s] (.ret (.tuple [.int .i32 (decG s).1, .int .i64 (decG s).2])) := by
 have g0 := UInt8.toNat_lt (nth s 0)
 have g1 := UInt8.toNat_lt (nth s 1)
 have g2 := UInt8.toNat_lt (nth s 2)
 have g3 := UInt8.toNat_lt (nth s 3)
 have hf := nth_first (b := (nth s 0).toNat) (by omega)
 by_cases c1 : 128 ≤ (nth s 0).toNat ∧ (nth s 0).toNat < 194 ∨ 245 ≤ (nth s 0).toNat
 ·have hv : firstF (nth s 0).toNat = 241 := by unfold firstF; rcases c1 with c1 | c1 <;> simp (disch := omega)
  have hd : decG s = (65533, 1) := by simp [decG, dec0 c1]
  rw [hd]
  rw [hv] at hf
  refine outS_of_wp cfg (fn := Tryz.f93) Tryz.func93 rfl (by simp [Tryz.f93]) ?_
  simp (disch := first|exact DD|fail) [-getElem?_pos, gZ, gS, Tryz.f93, hf]
 by_cases c2 : (nth s 0).toNat < 224
 ·have hv : firstF (nth s 0).toNat = 2 := by unfold firstF; simp (disch := omega)
  have hd := dec2 (s := s) (by omega)
  rw [hv] at hf
  refine outS_of_wp cfg (fn := Tryz.f93) Tryz.func93 rfl (by simp [Tryz.f93]) ?_
  simp (disch := first|exact DD|fail) [-getElem?_pos, gZ, gS, Tryz.f93, hf]
  repeat' (first|((first|refine wA ?_ ?_|refine wB ?_ ?_)<;>intro hc<;>try simp at hc)|refine wF ?_|refine wY ?_|refine wL ?_|refine owe ?_ fun ho=>?_|(simp (disch := first|exact DD|fail) [hf, -getElem?_pos, gZ, gS]))
  all_goals (simp (disch := omega) [decG, hd, decV, if_t, if_f]; try omega)
 by_cases c3 : (nth s 0).toNat < 240
 ·have hd := dec3 (s := s) (by omega)
  by_cases c4 : (nth s 0).toNat = 224
  ·have hv : firstF (nth s 0).toNat = 19 := by unfold firstF; simp (disch := omega)
   rw [hv] at hf
   refine outS_of_wp cfg (fn := Tryz.f93) Tryz.func93 rfl (by simp [Tryz.f93]) ?_
   simp (disch := first|exact DD|fail) [-getElem?_pos, gZ, gS, Tryz.f93, hf]
   repeat' (first|((first|refine wA ?_ ?_|refine wB ?_ ?_)<;>intro hc<;>try simp at hc)|refine wF ?_|refine wY ?_|refine wL ?_|refine owe ?_ fun ho=>?_|(simp (disch := first|exact DD|fail) [hf, -getElem?_pos, gZ, gS]))
   all_goals (simp (disch := omega) [decG, hd, decV, if_t, if_f]; try omega)
  by_cases c5 : (nth s 0).toNat = 237
  ·have hv : firstF (nth s 0).toNat = 35 := by unfold firstF; simp (disch := omega)
   rw [hv] at hf
   refine outS_of_wp cfg (fn := Tryz.f93) Tryz.func93 rfl (by simp [Tryz.f93]) ?_
   simp (disch := first|exact DD|fail) [-getElem?_pos, gZ, gS, Tryz.f93, hf]
   repeat' (first|((first|refine wA ?_ ?_|refine wB ?_ ?_)<;>intro hc<;>try simp at hc)|refine wF ?_|refine wY ?_|refine wL ?_|refine owe ?_ fun ho=>?_|(simp (disch := first|exact DD|fail) [hf, -getElem?_pos, gZ, gS]))
   all_goals (simp (disch := omega) [decG, hd, decV, if_t, if_f]; try omega)
  ·have hv : firstF (nth s 0).toNat = 3 := by unfold firstF; simp (disch := omega)
   rw [hv] at hf
   refine outS_of_wp cfg (fn := Tryz.f93) Tryz.func93 rfl (by simp [Tryz.f93]) ?_
   simp (disch := first|exact DD|fail) [-getElem?_pos, gZ, gS, Tryz.f93, hf]
   repeat' (first|((first|refine wA ?_ ?_|refine wB ?_ ?_)<;>intro hc<;>try simp at hc)|refine wF ?_|refine wY ?_|refine wL ?_|refine owe ?_ fun ho=>?_|(simp (disch := first|exact DD|fail) [hf, -getElem?_pos, gZ, gS]))
   all_goals (simp (disch := omega) [decG, hd, decV, if_t, if_f]; try omega)
 ·have hd := dec4 (s := s) (by omega)
  by_cases c4 : (nth s 0).toNat = 240
  ·have hv : firstF (nth s 0).toNat = 52 := by unfold firstF; simp (disch := omega)
   rw [hv] at hf
   refine outS_of_wp cfg (fn := Tryz.f93) Tryz.func93 rfl (by simp [Tryz.f93]) ?_
   simp (disch := first|exact DD|fail) [-getElem?_pos, gZ, gS, Tryz.f93, hf]
   repeat' (first|((first|refine wA ?_ ?_|refine wB ?_ ?_)<;>intro hc<;>try simp at hc)|refine wF ?_|refine wY ?_|refine wL ?_|refine owe ?_ fun ho=>?_|(simp (disch := first|exact DD|fail) [hf, -getElem?_pos, gZ, gS]))
   all_goals (simp (disch := omega) [decG, hd, decV, if_t, if_f]; try omega)
  by_cases c5 : (nth s 0).toNat = 244
  ·have hv : firstF (nth s 0).toNat = 68 := by unfold firstF; simp (disch := omega)
   rw [hv] at hf
   refine outS_of_wp cfg (fn := Tryz.f93) Tryz.func93 rfl (by simp [Tryz.f93]) ?_
   simp (disch := first|exact DD|fail) [-getElem?_pos, gZ, gS, Tryz.f93, hf]
   repeat' (first|((first|refine wA ?_ ?_|refine wB ?_ ?_)<;>intro hc<;>try simp at hc)|refine wF ?_|refine wY ?_|refine wL ?_|refine owe ?_ fun ho=>?_|(simp (disch := first|exact DD|fail) [hf, -getElem?_pos, gZ, gS]))
   all_goals (simp (disch := omega) [decG, hd, decV, if_t, if_f]; try omega)
  ·have hv : firstF (nth s 0).toNat = 4 := by unfold firstF; simp (disch := omega)
   rw [hv] at hf
   refine outS_of_wp cfg (fn := Tryz.f93) Tryz.func93 rfl (by simp [Tryz.f93]) ?_
   simp (disch := first|exact DD|fail) [-getElem?_pos, gZ, gS, Tryz.f93, hf]
   repeat' (first|((first|refine wA ?_ ?_|refine wB ?_ ?_)<;>intro hc<;>try simp at hc)|refine wF ?_|refine wY ?_|refine wL ?_|refine owe ?_ fun ho=>?_|(simp (disch := first|exact DD|fail) [hf, -getElem?_pos, gZ, gS]))
   all_goals (simp (disch := omega) [decG, hd, decV, if_t, if_f]; try omega)
@[simp] theorem S93 (s : List UInt8) (hs : 1 ≤ s.length) (h128 : 128 ≤ (nth s 0).toNat) (hlen : s.length < 1099511627776) (hh : Heap) : Ci cfg (.func (.func 93) [] []) [.str s] hh = some (.ret (.tuple [.int .i32 (decG s).1, .int .i64 (decG s).2]), hh) :=
 Ci_K cfg rfl rfl (by simp) (by simp) (C93 s hs h128 hlen)
theorem C71 (s : List UInt8) (hs : 1 ≤ s.length) (hlen : s.length < 1099511627776) : Kc cfg 71 [.str s] (.ret (.tuple [.int .i32 (decG s).1, .int .i64 (decG s).2])) := by
 have g0 := UInt8.toNat_lt (nth s 0)
 have hne : ¬ s = [] := by intro e; subst e; simp at hs
 refine outS_of_wp cfg (fn := Tryz.f71) Tryz.func71 rfl (by simp [Tryz.f71]) ?_
 simp (disch := first|exact DD|fail) [-getElem?_pos, gZ, gS, Tryz.f71, hne]
 repeat' (first|((first|refine wA ?_ ?_|refine wB ?_ ?_)<;>intro hc<;>try simp at hc)|refine wF ?_|refine wY ?_|refine wL ?_|refine owe ?_ fun ho=>?_|(simp (disch := first|exact DD|fail) [hne, -getElem?_pos, gZ, gS]))
 ·simp [decG, dec1 hs (by omega)]
@[simp] theorem S71 (s : List UInt8) (hs : 1 ≤ s.length) (hlen : s.length < 1099511627776) (hh : Heap) : Ci cfg (.func (.func 71) [] []) [.str s] hh = some (.ret (.tuple [.int .i32 (decG s).1, .int .i64 (decG s).2]), hh) :=
 Ci_K cfg rfl rfl (by simp) (by simp) (C71 s hs hlen)
end Go.Ab
namespace Go.Ab
open Go.Proofs
set_option maxRecDepth 100000
set_option maxHeartbeats 1000000
attribute [local simp] typeAssertV
@[simp] theorem D43_no (a b : Nat) (h : Heap) : Di cfg (.func (.func 43) [] [.ptr a 0, .ptr b 0]) [] h .no = some (h, .no) := by
 refine Di_of_wp cfg (fn := Tryz.f43) Tryz.func43 rfl (by simp [Tryz.f43]) ?_
 simp (disch := first|exact DD|fail) [-getElem?_pos, gZ, gS, Tryz.f43]
@[simp] theorem D43_pan (x y : V) (r : List Blk) (ts : List (Option Nat)) :
  Di cfg (.func (.func 43) [] [.ptr 0 0, .ptr 1 0]) [] ⟨.cells [x] :: .cells [y] :: r, ts⟩ (.pan (.iface 104 (.agg []))) = some (⟨.cells [.row true true [] 0 none] :: .cells [.int .i64 90] :: (r ++ [.cells []]), ts⟩, .got (.iface 104 (.agg []))) := by
 refine Di_of_wp cfg (fn := Tryz.f43) Tryz.func43 rfl (by simp [Tryz.f43]) ?_
 have hlst : ∀ b : Blk, (r ++ [b])[r.length]? = some b := fun b => by simp
 simp (disch := first|exact DD|fail) [-getElem?_pos, gZ, gS, Tryz.f43, hlst]
theorem dec_len {s : List UInt8} (h : ¬ (dec s).2 = 0) : point (dec s).1 = true ∧ (dec s).2 = (encR (dec s).1).length ∧ encR (dec s).1 = s.take (dec s).2.toNat := by
 revert h
 unfold dec
 simp only
 split
 ·simp
 ·split
  ·rename_i h1 h2
   intro _
   refine ⟨h2.2.1, ?_, h2.2.2⟩
   show ((longR (nth s 0).toNat).1.toNat : Int) = _
   rw [h2.2.2]; simp; omega
  ·simp
theorem decG_spec (s : List UInt8) : ((decG s).1 = 65533 ∧ (decG s).2 < 2 ↔ (dec s).2 = 0) ∧ 0 ≤ (decG s).1 ∧ (decG s).1 ≤ 1114111 := by
 unfold decG
 by_cases h : (dec s).2 = 0
 ·simp [h]
 ·rw [if_neg h]
  obtain ⟨h1, h2, _⟩ := dec_len h
  rw [point_t] at h1
  refine ⟨⟨fun ⟨e1, e2⟩ => ?_, fun e => absurd e h⟩, h1.1, h1.2.1⟩
  rw [h2, e1] at e2
  simp [encR] at e2
theorem decG_of {s : List UInt8} (h : ¬ (dec s).2 = 0) : decG s = dec s := by unfold decG; rw [if_neg h]
theorem C14 (s : List UInt8) (hs : s.length < 1099511627776) : Kc cfg 14 [.str s] (.ret (.tuple [R fl0 eI (runesG s).1, .int .i64 (runesG s).2])) := by
 refine outS_of_wp cfg (fn := Tryz.f14) Tryz.func14 rfl (by simp [Tryz.f14]) ?_
 simp (disch := first|exact DD|fail) [-getElem?_pos, gZ, gS, Tryz.f14]
 repeat' (first|((first|refine wA ?_ ?_|refine wB ?_ ?_)<;>intro hc<;>try simp at hc)|refine wF ?_|refine wY ?_|refine wL ?_|refine owe ?_ fun ho=>?_|(simp (disch := first|exact DD|fail) [Tryz.f45, Tryz.f44, Tryz.f69, Tryz.f70, -getElem?_pos, gZ, gS]))
 ·rw [runesG_long (by omega)]; exact ⟨rfl, rfl⟩
 ·refine wp_loopE cfg rfl (fun f0 h0 m f h => ∃ (t : List UInt8) (out : List Int) (fl : Fl), f 0 = f0 0 ∧ f 1 = f0 1 ∧ h.bs = (h0.bs.set 2 (.cells [.str t])).set 3 (.cells [R fl eI out]) ∧ App h.ts 1 fl ∧ m = t.length ∧ out.length + t.length ≤ s.length ∧ runes s = (runes t).map (out ++ ·)) s.length _ _ ⟨s, [], (true, true, none), rfl, rfl, by simp [R], App.nil _ _ _, rfl, by simp, by simp⟩ ?_
  rintro m f h ⟨t, out, fl, h0, h1, hb, ha, rfl, hl, hr⟩ ih
  have hd := dec_bound t
  simp at h0 h1 hb
  by_cases hn : t = []
  ·subst hn
   repeat' (first|((first|refine wA ?_ ?_|refine wB ?_ ?_)<;>intro hc<;>try simp at hc)|refine wF ?_|refine wY ?_|refine wL ?_|refine owe ?_ fun ho=>?_|(simp (disch := first|exact DD|fail) [h0, h1, hb, -getElem?_pos, gZ, gS]))
   rw [runesG_some (by omega) (by rw [hr, runes_nil]; simp; rfl)]; exact ⟨rfl, rfl⟩
  have hp : 0 < t.length := List.length_pos_iff.2 hn
  by_cases hz : (dec t).2 = 0
  ·have hg : decG t = (65533, 1) := by unfold decG; rw [if_pos hz]
   repeat' (first|((first|refine wA ?_ ?_|refine wB ?_ ?_)<;>intro hc<;>try simp at hc)|refine wF ?_|refine wY ?_|refine wL ?_|refine owe ?_ fun ho=>?_|(simp (disch := first|exact DD|fail) [h0, h1, hb, hg, -getElem?_pos, gZ, gS]))
   rw [runesG_none (by omega) (by rw [hr, runes_bad hp hz]; rfl)]; exact ⟨rfl, rfl⟩
  ·have hg := decG_spec t
   rw [decG_of hz] at hg
   have hdg := decG_of hz
   repeat' (first|((first|refine wA ?_ ?_|refine wB ?_ ?_)<;>intro hc<;>try simp at hc)|refine wF ?_|refine wY ?_|refine wL ?_|refine owe ?_ fun ho=>?_|(simp (disch := first|exact DD|fail) [h0, h1, hb, hdg, fold_I1, -getElem?_pos, gZ, gS]))
   all_goals
    refine ih (t.length - (dec t).2.toNat) _ _ (by omega) ⟨t.drop (dec t).2.toNat, out ++ [(dec t).1], _, by simp [h0], by simp [h1], by simp, App.new _ _ _, by simp, by simp; omega, ?_⟩
    rw [hr, runes_step hp hz]
    simp [Function.comp_def]
@[simp] theorem S14 (s : List UInt8) (hs : s.length < 1099511627776) (hh : Heap) : Ci cfg (.func (.func 14) [] []) [.str s] hh = some (.ret (.tuple [R fl0 eI (runesG s).1, .int .i64 (runesG s).2]), hh) :=
 Ci_K cfg rfl rfl (by simp) (by simp) (C14 s hs)
end Go.Ab
namespace Go.Ab
open Go.Proofs
set_option maxRecDepth 100000
set_option maxHeartbeats 1000000
theorem encR_len (r : Int) : 1 ≤ (encR r).length ∧ (encR r).length ≤ 4 := by
 unfold encR; split <;> (try split) <;> (try split) <;> simp
@[simp] theorem encR_ne (r : Int) : ¬ encR r = [] := by
 intro h; have := encR_len r; rw [h] at this; simp at this
def encAll (l : List Int) : List UInt8 := l.flatMap encR
@[simp] theorem encAll_nil : encAll [] = [] := rfl
@[simp] theorem encAll_cons (r : Int) (l : List Int) : encAll (r :: l) = encR r ++ encAll l := rfl
@[simp] theorem encAll_append (a b : List Int) : encAll (a ++ b) = encAll a ++ encAll b := by simp [encAll]
theorem encAll_take {l : List Int} {i : Nat} (h : i < l.length) : encAll (l.take (i + 1)) = encAll (l.take i) ++ encR (nth l i) := by
 rw [nth_take h]; simp
theorem encAll_take_le (l : List Int) (i : Nat) : (encAll (l.take i)).length ≤ (encAll l).length := by
 have h := congrArg List.length (congrArg encAll (List.take_append_drop i l))
 rw [encAll_append, List.length_append] at h; omega
def joinG (l : List Int) : List UInt8 × Int := if l.all point then (if 4096 < (encAll l).length then ([], 2) else (encAll l, 0)) else ([], 90)
theorem wrapu32 {n : Int} (h : 0 ≤ n ∧ n ≤ 4294967295) : IntKind.u32.wrap n = n := IntWalk.u32_in n h
attribute [simp] wrapu32
theorem C99 (x : Int) : Kc cfg 99 [.int .i32 x] (.ret (.bool (decide (0 ≤ x ∧ x < 55296 ∨ 57343 < x ∧ x ≤ 1114111)))) := by
 refine outS_of_wp cfg (fn := Tryz.f99) Tryz.func99 rfl (by simp [Tryz.f99]) ?_
 simp (disch := first|exact DD|fail) [-getElem?_pos, gZ, gS, Tryz.f99]
 repeat' (first|((first|refine wA ?_ ?_|refine wB ?_ ?_)<;>intro hc<;>try simp at hc)|refine wF ?_|refine wY ?_|refine wL ?_|refine owe ?_ fun ho=>?_|(simp (disch := first|exact DD|fail) [-getElem?_pos, gZ, gS]))
 all_goals grind
@[simp] theorem S99 (x : Int) (hh : Heap) : Ci cfg (.func (.func 99) [] []) [.int .i32 x] hh = some (.ret (.bool (decide (0 ≤ x ∧ x < 55296 ∨ 57343 < x ∧ x ≤ 1114111))), hh) :=
 Ci_K cfg rfl rfl (by simp) (by simp) (C99 x)
theorem C94 (x : Int) : Kc cfg 94 [.int .i64 x] (.ret (.bool (point x))) := by
 refine outS_of_wp cfg (fn := Tryz.f94) Tryz.func94 rfl (by simp [Tryz.f94]) ?_
 simp (disch := first|exact DD|fail) [-getElem?_pos, gZ, gS, Tryz.f94]
 repeat' (first|((first|refine wA ?_ ?_|refine wB ?_ ?_)<;>intro hc<;>try simp at hc)|refine wF ?_|refine wY ?_|refine wL ?_|refine owe ?_ fun ho=>?_|(simp (disch := first|exact DD|fail) [-getElem?_pos, gZ, gS]))
 all_goals grind [point]
@[simp] theorem S94 (x : Int) (hh : Heap) : Ci cfg (.func (.func 94) [] []) [.int .i64 x] hh = some (.ret (.bool (point x)), hh) :=
 Ci_K cfg rfl rfl (by simp) (by simp) (C94 x)
end Go.Ab
namespace Go.Ab
open Go.Proofs
set_option maxRecDepth 100000
set_option maxHeartbeats 4000000
structure Glyph where
 lo : Int
 hi : Int
 width : Int
 deriving Inhabited, DecidableEq
structure Kern where
 a : Int
 b : Int
 by' : Int
 deriving Inhabited, DecidableEq
structure Font where
 gs : List Glyph
 other : Int
 ks : List Kern
 deriving Inhabited
def eG (x : Glyph) : List V := [.int .i64 x.lo, .int .i64 x.hi, .int .i64 x.width]
def eK (x : Kern) : List V := [.int .i64 x.a, .int .i64 x.b, .int .i64 x.by']
instance : EncC eG 3 := ⟨fun _ => rfl, by decide, fun _ => rfl, fun _ => rfl, fun _ => rfl⟩
instance : EncC eK 3 := ⟨fun _ => rfl, by decide, fun _ => rfl, fun _ => rfl, fun _ => rfl⟩
def pointN (n : Int) : Bool := decide (0 ≤ n ∧ n ≤ 1114111)
def widthN (n : Int) : Bool := decide (0 ≤ n ∧ n ≤ 4096)
@[simp] theorem pointN_t (x : Int) : pointN x = true ↔ 0 ≤ x ∧ x ≤ 1114111 := by simp [pointN]
@[simp] theorem pointN_f (x : Int) : pointN x = false ↔ ¬ (0 ≤ x ∧ x ≤ 1114111) := by simp only [pointN, decide_eq_false_iff_not]
@[simp] theorem widthN_t (x : Int) : widthN x = true ↔ 0 ≤ x ∧ x ≤ 4096 := by simp [widthN]
@[simp] theorem widthN_f (x : Int) : widthN x = false ↔ ¬ (0 ≤ x ∧ x ≤ 4096) := by simp only [widthN, decide_eq_false_iff_not]
theorem C82 (n : Int) : Kc cfg 82 [.int .i64 n] (.ret (.bool (pointN n))) := by
 refine outS_of_wp cfg (fn := Tryz.f82) Tryz.func82 rfl (by simp [Tryz.f82]) ?_
 simp (disch := first|exact DD|fail) [-getElem?_pos, gZ, gS, Tryz.f82]
 repeat' (first|((first|refine wA ?_ ?_|refine wB ?_ ?_)<;>intro hc<;>try simp at hc)|refine wF ?_|refine wY ?_|refine wL ?_|refine owe ?_ fun ho=>?_|(simp (disch := first|exact DD|fail) [-getElem?_pos, gZ, gS]))
 all_goals grind [pointN]
@[simp] theorem S82 (n : Int) (hh : Heap) : Ci cfg (.func (.func 82) [] []) [.int .i64 n] hh = some (.ret (.bool (pointN n)), hh) :=
 Ci_K cfg rfl rfl (by simp) (by simp) (C82 n)
theorem C81 (n : Int) : Kc cfg 81 [.int .i64 n] (.ret (.bool (widthN n))) := by
 refine outS_of_wp cfg (fn := Tryz.f81) Tryz.func81 rfl (by simp [Tryz.f81]) ?_
 simp (disch := first|exact DD|fail) [-getElem?_pos, gZ, gS, Tryz.f81]
 repeat' (first|((first|refine wA ?_ ?_|refine wB ?_ ?_)<;>intro hc<;>try simp at hc)|refine wF ?_|refine wY ?_|refine wL ?_|refine owe ?_ fun ho=>?_|(simp (disch := first|exact DD|fail) [-getElem?_pos, gZ, gS]))
 all_goals grind [widthN]
@[simp] theorem S81 (n : Int) (hh : Heap) : Ci cfg (.func (.func 81) [] []) [.int .i64 n] hh = some (.ret (.bool (widthN n)), hh) :=
 Ci_K cfg rfl rfl (by simp) (by simp) (C81 n)
def gOk (g : Glyph) : Bool := decide (0 ≤ g.lo ∧ g.lo ≤ g.hi ∧ g.hi ≤ 1114111 ∧ 0 ≤ g.width ∧ g.width ≤ 4096)
def kOk (k : Kern) : Bool := decide ((0 ≤ k.a ∧ k.a ≤ 1114111) ∧ (0 ≤ k.b ∧ k.b ≤ 1114111) ∧ -4096 ≤ k.by' ∧ k.by' ≤ 4096)
def gRise (gs : List Glyph) (i : Nat) : Bool := decide (0 < i → (nth gs (i - 1)).hi < (nth gs i).lo)
def kRise (ks : List Kern) (i : Nat) : Bool := decide (0 < i → (nth ks (i - 1)).a < (nth ks i).a ∨ (nth ks (i - 1)).a = (nth ks i).a ∧ (nth ks (i - 1)).b < (nth ks i).b)
def gAll (gs : List Glyph) : Bool := allTo gs.length fun i => gOk (nth gs i) && gRise gs i
def kAll (ks : List Kern) : Bool := allTo ks.length fun i => kOk (nth ks i) && kRise ks i
def checkS (f : Font) : Int := if 1024 < f.gs.length ∨ 1024 < f.ks.length then 2 else if widthN f.other && gAll f.gs && kAll f.ks then 0 else 110
theorem checkS_long {f : Font} (h : 1024 < f.gs.length ∨ 1024 < f.ks.length) : checkS f = 2 := by unfold checkS; rw [if_pos h]
theorem checkS_short {f : Font} (h : ¬ (1024 < f.gs.length ∨ 1024 < f.ks.length)) : checkS f = if widthN f.other && gAll f.gs && kAll f.ks then 0 else 110 := by unfold checkS; rw [if_neg h]
end Go.Ab
namespace Go.Ab
open Go.Proofs Go.Proofs.YtlmhbemgaikmaaaGreatDoor
set_option maxRecDepth 100000
theorem rd_glyph : Reads Tryz.prog 154 (fun _ : Glyph => True) eG (fun _ => 0) := by
 have h := reads_struct (t := 154) (P := Tryz.prog) Tryz.underlying154 (readsF_cons rfl rd_int (readsF_cons (by kernel_rfl) rd_int (readsF_cons (by kernel_rfl) rd_int (readsF_nil _))))
 exact reads_congr h fun a _ => ⟨⟨a.1, a.2.1, a.2.2.1⟩, trivial, rfl, Nat.zero_le _⟩
theorem rd_kern : Reads Tryz.prog 156 (fun _ : Kern => True) eK (fun _ => 0) := by
 have h := reads_struct (t := 156) (P := Tryz.prog) Tryz.underlying156 (readsF_cons rfl rd_int (readsF_cons (by kernel_rfl) rd_int (readsF_cons (by kernel_rfl) rd_int (readsF_nil _))))
 exact reads_congr h fun a _ => ⟨⟨a.1, a.2.1, a.2.2.1⟩, trivial, rfl, Nat.zero_le _⟩
theorem rd_glyphs : Reads Tryz.prog 22 (fun l : List Glyph => ∀ y ∈ l, True) (fun l => [R fl0 eG l]) (fun l => (l.map fun _ => 0 + 1).sum) := reads_slice Tryz.underlying22 (by kernel_rfl) (by rw [show Tryz.prog.cellsOf 154 = 3 by kernel_rfl]; decide) rd_glyph
theorem rd_kerns : Reads Tryz.prog 23 (fun l : List Kern => ∀ y ∈ l, True) (fun l => [R fl0 eK l]) (fun l => (l.map fun _ => 0 + 1).sum) := reads_slice Tryz.underlying23 (by kernel_rfl) (by rw [show Tryz.prog.cellsOf 156 = 3 by kernel_rfl]; decide) rd_kern
def eF (f : Font) : List V := [R fl0 eG f.gs, .int .i64 f.other, R fl0 eK f.ks]
theorem rd_font : Reads Tryz.prog 25 (fun f : Font => -9223372036854775808 ≤ f.other ∧ f.other ≤ 9223372036854775807) eF (fun f => f.gs.length + f.ks.length) := by
 have h := reads_struct (t := 25) (P := Tryz.prog) Tryz.underlying25 (readsF_cons rfl rd_glyphs (readsF_cons (by kernel_rfl) rd_int (readsF_cons (by kernel_rfl) rd_kerns (readsF_nil _))))
 refine reads_congr h fun a ha => ⟨⟨a.1, a.2.1, a.2.2.1⟩, i64_of ha.2.1, rfl, ?_⟩
 simp [sum_one]
end Go.Ab
