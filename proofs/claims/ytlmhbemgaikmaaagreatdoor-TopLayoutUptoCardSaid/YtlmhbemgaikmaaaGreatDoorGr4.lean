/- A part of the proof. -/
import Derived.Test.YtlmhbemgaikmaaaGreatDoorGr2
set_option linter.unusedVariables false
set_option linter.unusedSimpArgs false
set_option linter.unusedSectionVars false
set_option linter.deprecated false
namespace Go.Ab
open Go.Proofs
set_option maxRecDepth 10000
set_option maxHeartbeats 1000000
theorem runes_len : ∀ (n : Nat) (s : List UInt8) (l : List Int), s.length ≤ n → runes s = some l → l.length ≤ s.length := by
 intro n
 induction n with
 | zero =>
  intro s l hn h
  have : s = [] := List.eq_nil_of_length_eq_zero (by omega)
  subst this
  rw [runes] at h
  simp at h
  subst h; simp
 | succ n ih =>
  intro s l hn h
  rw [runes] at h
  split at h
  ·simp at h; subst h; simp
  ·split at h
   ·cases h
   ·obtain ⟨l', h1, rfl⟩ := Option.map_eq_some_iff.1 h
    have hb := dec_bound s
    have := ih _ _ (by simp only [List.length_drop]; omega) h1
    simp only [List.length_drop] at this
    simp only [List.length_cons]
    omega
theorem runes_nil : runes [] = some [] := by rw [runes]; simp
theorem runes_bad {t : List UInt8} (h : 0 < t.length) (h0 : (dec t).2 = 0) : runes t = none := by
 rw [runes, if_neg (by intro e; subst e; simp at h), if_pos h0]
theorem runes_step {t : List UInt8} (h : 0 < t.length) (h0 : ¬ (dec t).2 = 0) : runes t = (runes (t.drop (dec t).2.toNat)).map ((dec t).1 :: ·) := by
 rw [runes, if_neg (by intro e; subst e; simp at h), if_neg h0]
theorem runesG_some {s : List UInt8} {l : List Int} (h : s.length ≤ 4096) (hr : runes s = some l) : runesG s = (l, 0) := by
 unfold runesG; rw [if_neg (by omega), hr]
theorem runesG_none {s : List UInt8} (h : s.length ≤ 4096) (hr : runes s = none) : runesG s = ([], 90) := by
 unfold runesG; rw [if_neg (by omega), hr]
theorem runesG_long {s : List UInt8} (h : 4096 < s.length) : runesG s = ([], 2) := by
 unfold runesG; rw [if_pos h]
theorem C27 (s : List UInt8) (hs : s.length < 1099511627776) : Kc cfg 27 [.str s] (.ret (.tuple [R fl0 eI (runesG s).1, .int .i64 (runesG s).2])) := by
 refine outS_of_wp cfg (fn := Tryz.f27) Tryz.func27 rfl (by simp [Tryz.f27]) ?_
 simp (disch := first|exact DD|fail) [-getElem?_pos, gZ, gS, Tryz.f27]
 repeat' (first|((first|refine wA ?_ ?_|refine wB ?_ ?_)<;>intro hc<;>try simp at hc)|refine wF ?_|refine wY ?_|refine wL ?_|refine owe ?_ fun ho=>?_|(simp (disch := first|exact DD|fail) [-getElem?_pos, gZ, gS]))
 ·rw [runesG_long (by omega)]; exact ⟨rfl, rfl⟩
 ·refine wp_loop cfg rfl (fun m f h => ∃ (t : List UInt8) (out : List Int) (fl : Fl), f 0 = .str t ∧ f 4 = R fl eI out ∧ App h.ts 1 fl ∧ m = t.length ∧ out.length + m ≤ s.length ∧ runes s = (runes t).map (out ++ ·)) ?_ s.length _ _ ⟨s, [], (false, true, none), by simp, by simp [R], App.full _ _ _, rfl, by simp, by simp⟩
  rintro m f h ⟨t, out, fl, h0, h4, ha, rfl, hl, hr⟩ ih
  have hb := dec_bound t
  repeat' (first|((first|refine wA ?_ ?_|refine wB ?_ ?_)<;>intro hc<;>try simp at hc)|refine wF ?_|refine wY ?_|refine wL ?_|refine owe ?_ fun ho=>?_|(simp (disch := first|exact DD|fail) [h0, h4, fold_I1, -getElem?_pos, gZ, gS]))
  ·rw [runesG_none (by omega) (by rw [hr, runes_bad (by omega) hc]; rfl)]; exact ⟨rfl, rfl⟩
  ·refine ih (t.length - (dec t).2.toNat) _ _ (by omega) ⟨t.drop (dec t).2.toNat, out ++ [(dec t).1], _, by simp, by simp, App.new _ _ _, by simp, by simp; omega, ?_⟩
   rw [hr, runes_step (by omega) hc]
   simp [Function.comp_def]
  ·subst hc
   rw [runesG_some (by omega) (by rw [hr, runes_nil]; simp; rfl)]; exact ⟨rfl, rfl⟩
@[simp] theorem S27 (s : List UInt8) (hs : s.length < 1099511627776) (hh : Heap) : Ci cfg (.func (.func 27) [] []) [.str s] hh = some (.ret (.tuple [R fl0 eI (runesG s).1, .int .i64 (runesG s).2]), hh) :=
 Ci_K cfg rfl rfl (by simp) (by simp) (C27 s hs)
def kindR (r : Int) : Int := if r = 9 ∨ r = 10 ∨ r = 13 ∨ r = 32 then 1 else if 48 ≤ r ∧ r ≤ 57 then 2
 else if (65 ≤ r ∧ r ≤ 90) ∨ (97 ≤ r ∧ r ≤ 122) ∨ (192 ≤ r ∧ r ≤ 591 ∧ r ≠ 215 ∧ r ≠ 247) ∨ (880 ≤ r ∧ r ≤ 1279) then 3
 else if 1424 ≤ r ∧ r ≤ 1983 then 4 else 0
def kindG (r : Int) : Int × Int := if point r then (kindR r, 0) else (0, 90)
theorem C58 (r : Int) : Kc cfg 58 [.int .i64 r] (.ret (.tuple [.int .i64 (kindG r).1, .int .i64 (kindG r).2])) := by
 refine outS_of_wp cfg (fn := Tryz.f58) Tryz.func58 rfl (by simp [Tryz.f58]) ?_
 simp (disch := first|exact DD|fail) [-getElem?_pos, gZ, gS, Tryz.f58]
 repeat' (first|((first|refine wA ?_ ?_|refine wB ?_ ?_)<;>intro hc<;>try simp at hc)|refine wF ?_|refine wY ?_|refine wL ?_|refine owe ?_ fun ho=>?_|(simp (disch := first|exact DD|fail) [-getElem?_pos, gZ, gS]))
 all_goals grind [kindG, kindR, point]
@[simp] theorem S58 (r : Int) (hh : Heap) : Ci cfg (.func (.func 58) [] []) [.int .i64 r] hh = some (.ret (.tuple [.int .i64 (kindG r).1, .int .i64 (kindG r).2]), hh) :=
 Ci_K cfg rfl rfl (by simp) (by simp) (C58 r)
def spaceR (r : Int) : Bool := decide (r = 9 ∨ r = 10 ∨ r = 13 ∨ r = 32)
theorem kind_space (r : Int) : ((kindG r).1 == 1) = spaceR r := by grind [kindG, kindR, point, spaceR]
theorem C28 (r : Int) : Kc cfg 28 [.int .i64 r] (.ret (.bool (spaceR r))) := by
 refine outS_of_wp cfg (fn := Tryz.f28) Tryz.func28 rfl (by simp [Tryz.f28]) ?_
 simp (disch := first|exact DD|fail) [-getElem?_pos, gZ, gS, Tryz.f28]
 repeat' (first|((first|refine wA ?_ ?_|refine wB ?_ ?_)<;>intro hc<;>try simp at hc)|refine wF ?_|refine wY ?_|refine wL ?_|refine owe ?_ fun ho=>?_|(simp (disch := first|exact DD|fail) [-getElem?_pos, gZ, gS]))
 all_goals exact kind_space r
@[simp] theorem S28 (r : Int) (hh : Heap) : Ci cfg (.func (.func 28) [] []) [.int .i64 r] hh = some (.ret (.bool (spaceR r)), hh) :=
 Ci_K cfg rfl rfl (by simp) (by simp) (C28 r)
end Go.Ab
namespace Go.Ab
open Go.Proofs
set_option maxRecDepth 10000
set_option maxHeartbeats 1000000
def wordS (s : List UInt8) : Bool := decide (0 < s.length ∧ s.length ≤ 64) && match runes s with
 | some l => l.all fun r => !spaceR r
 | none => false
theorem runesG_small {s : List UInt8} (h : s.length ≤ 4096) : ((runesG s).2 = 0 → runes s = some (runesG s).1) ∧ ((runesG s).2 ≠ 0 → runes s = none) := by
 unfold runesG
 rw [if_neg (by omega)]
 cases runes s <;> simp
theorem all_take_next {α : Type} [Inhabited α] {l : List α} {i : Nat} {p : α → Bool} (hi : i < l.length) (h : (l.take i).all p = true) (h2 : p (nth l i) = true) : (l.take (i + 1)).all p = true := by
 rw [nth_take hi, List.all_append, h]; simp [h2]
theorem all_nth_false {α : Type} [Inhabited α] {l : List α} {i : Nat} {p : α → Bool} (hi : i < l.length) (h2 : p (nth l i) = false) : l.all p = false := by
 cases h : l.all p with
 | false => rfl
 | true => rw [List.all_eq_true] at h; rw [h _ (nth_mem hi)] at h2; cases h2
theorem C7 (s : List UInt8) (hs : s.length < 1099511627776) : Kc cfg 7 [.str s] (.ret (.bool (wordS s))) := by
 refine outS_of_wp cfg (fn := Tryz.f7) Tryz.func7 rfl (by simp [Tryz.f7]) ?_
 simp (disch := first|exact DD|fail) [-getElem?_pos, gZ, gS, Tryz.f7]
 repeat' (first|((first|refine wA ?_ ?_|refine wB ?_ ?_)<;>intro hc<;>try simp at hc)|refine wF ?_|refine wY ?_|refine wL ?_|refine owe ?_ fun ho=>?_|(simp (disch := first|exact DD|fail) [-getElem?_pos, gZ, gS]))
 ·simp [wordS]; omega
 ·simp [wordS, (runesG_small (s := s) (by omega)).2 hc]
 ·have hr := (runesG_small (s := s) (by omega)).1 hc
  have hn := runes_len _ _ _ (Nat.le_refl _) hr
  generalize (runesG s).1 = l at hr hn
  have hw : wordS s = l.all fun r => !spaceR r := by simp [wordS, hr]; omega
  rw [hw]
  refine wp_loop cfg rfl (fun m f h => ∃ i : Nat, f 3 = R fl0 eI l ∧ f 5 = .int .i64 i ∧ i + m = l.length ∧ (l.take i).all (fun r => !spaceR r) = true) ?_ l.length _ _ ⟨0, by simp, by simp, by simp, by simp⟩
  rintro m f h ⟨i, h3, h5, hm, ht⟩ ih
  repeat' (first|((first|refine wA ?_ ?_|refine wB ?_ ?_)<;>intro hc<;>try simp at hc)|refine wF ?_|refine wY ?_|refine wL ?_|refine owe ?_ fun ho=>?_|(simp (disch := first|exact DD|fail) [h3, h5, eI, -getElem?_pos, gZ, gS]))
  ·exact ⟨_, nth_mem (by omega : i < l.length), hc⟩
  ·refine ih (m - 1) _ _ (by omega) ⟨i + 1, by simp [h3], by simp, by omega, all_take_next (p := fun r => !spaceR r) (by omega : i < l.length) ht (by simp [hc])⟩
  ·have : i = l.length := by omega
   subst this
   rw [List.take_length] at ht
   simpa using ht
 ·simp [wordS]; omega
@[simp] theorem S7 (s : List UInt8) (hs : s.length < 1099511627776) (hh : Heap) : Ci cfg (.func (.func 7) [] []) [.str s] hh = some (.ret (.bool (wordS s)), hh) :=
 Ci_K cfg rfl rfl (by simp) (by simp) (C7 s hs)
end Go.Ab
