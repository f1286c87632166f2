/- A part of the proof. -/
import Derived.Test.YtigmnglnedcfpaaGreatDoorGr1
set_option linter.unusedVariables false
set_option linter.unusedSimpArgs false
set_option linter.unusedSectionVars false
set_option linter.deprecated false
namespace Go.Ab
open Go.Proofs
set_option maxRecDepth 10000
set_option maxHeartbeats 1000000
theorem dec_bound (s : List UInt8) : 0 ≤ (dec s).2 ∧ (dec s).2 ≤ s.length ∧ (dec s).2 ≤ 4 := by
 unfold dec
 simp only
 have : (longR (nth s 0).toNat).1.toNat ≤ 4 := by unfold longR; split <;> (try split) <;> (try split) <;> (try split) <;> simp
 split
 ·simp
 ·split
  ·simp only; omega
  ·simp
def runes (s : List UInt8) : Option (List Int) :=
 if s = [] then some []
 else if (dec s).2 = 0 then none
 else (runes (s.drop (dec s).2.toNat)).map ((dec s).1 :: ·)
termination_by s.length
decreasing_by
 rename_i h0 h1
 have := dec_bound s
 have : s.length ≠ 0 := by simpa using h0
 simp only [List.length_drop]
 omega
def runesG (s : List UInt8) : List Int × Int := if 4096 < s.length then ([], 2) else match runes s with
 | some l => (l, 0)
 | none => ([], 90)
theorem runes_len : ∀ (n : Nat) (s : List UInt8) (l : List Int), s.length ≤ n → runes s = some l → l.length ≤ s.length := by
 intro n
 induction n with
 | zero =>
  intro s l hn h
  have : s = [] := List.eq_nil_of_length_eq_zero (by omega)
  subst this
  rw [runes] at h
  simp at h
  subst h; simp
 | succ n ih =>
  intro s l hn h
  rw [runes] at h
  split at h
  ·simp at h; subst h; simp
  ·split at h
   ·cases h
   ·obtain ⟨l', h1, rfl⟩ := Option.map_eq_some_iff.1 h
    have hb := dec_bound s
    have := ih _ _ (by simp only [List.length_drop]; omega) h1
    simp only [List.length_drop] at this
    simp only [List.length_cons]
    omega
theorem runes_nil : runes [] = some [] := by rw [runes]; simp
theorem runes_bad {t : List UInt8} (h : 0 < t.length) (h0 : (dec t).2 = 0) : runes t = none := by
 rw [runes, if_neg (by intro e; subst e; simp at h), if_pos h0]
theorem runes_step {t : List UInt8} (h : 0 < t.length) (h0 : ¬ (dec t).2 = 0) : runes t = (runes (t.drop (dec t).2.toNat)).map ((dec t).1 :: ·) := by
 rw [runes, if_neg (by intro e; subst e; simp at h), if_neg h0]
theorem runesG_some {s : List UInt8} {l : List Int} (h : s.length ≤ 4096) (hr : runes s = some l) : runesG s = (l, 0) := by
 unfold runesG; rw [if_neg (by omega), hr]
theorem runesG_none {s : List UInt8} (h : s.length ≤ 4096) (hr : runes s = none) : runesG s = ([], 90) := by
 unfold runesG; rw [if_neg (by omega), hr]
theorem runesG_long {s : List UInt8} (h : 4096 < s.length) : runesG s = ([], 2) := by
 unfold runesG; rw [if_pos h]
theorem C31 (s : List UInt8) (hs : s.length < 1099511627776) : Kc cfg 31 [.str s] (.ret (.tuple [R fl0 eI (runesG s).1, .int .i64 (runesG s).2])) := by
 refine outS_of_wp cfg (fn := Tryz.f31) Tryz.func31 rfl (by simp [Tryz.f31]) ?_
 simp (disch := first | assumption | omega | (simp; done) | (simp; omega)) [-getElem?_pos, gZ, gS, Tryz.f31]
 repeat' (first | ((first | refine wpc_split _ ?_ ?_ | refine ww_split _ ?_ ?_) <;> intro hc <;> try simp at hc) | (refine wp_drawF (by kernel_rfl) ?_) | refine wk_yldW _ ?_ | refine layOwe _ (by kernel_rfl) ?_ | refine owe ?_ (fun ho => ?_) | (simp (disch := first | assumption | omega | (simp; done) | (simp; omega)) [-getElem?_pos, gZ, gS]))
 ·rw [runesG_long (by omega)]; exact ⟨rfl, rfl⟩
 ·refine wp_loop cfg rfl (fun m f h => ∃ (t : List UInt8) (out : List Int) (fl : Fl), f 0 = .str t ∧ f 4 = R fl eI out ∧ App h.ts 1 fl ∧ m = t.length ∧ out.length + m ≤ s.length ∧ runes s = (runes t).map (out ++ ·)) ?_ s.length _ _ ⟨s, [], (false, true, none), by simp, by simp [R], App.full _ _ _, rfl, by simp, by simp⟩
  rintro m f h ⟨t, out, fl, h0, h4, ha, rfl, hl, hr⟩ ih
  have hb := dec_bound t
  repeat' (first | ((first | refine wpc_split _ ?_ ?_ | refine ww_split _ ?_ ?_) <;> intro hc <;> try simp at hc) | (refine wp_drawF (by kernel_rfl) ?_) | refine wk_yldW _ ?_ | refine layOwe _ (by kernel_rfl) ?_ | refine owe ?_ (fun ho => ?_) | (simp (disch := first | assumption | omega | (simp; done) | (simp; omega)) [h0, h4, fold_I1, -getElem?_pos, gZ, gS]))
  ·rw [runesG_none (by omega) (by rw [hr, runes_bad (by omega) hc]; rfl)]; exact ⟨rfl, rfl⟩
  ·refine ih (t.length - (dec t).2.toNat) _ _ (by omega) ⟨t.drop (dec t).2.toNat, out ++ [(dec t).1], _, by simp, by simp, App.new _ _ _, by simp, by simp; omega, ?_⟩
   rw [hr, runes_step (by omega) hc]
   simp [Function.comp_def]
  ·subst hc
   rw [runesG_some (by omega) (by rw [hr, runes_nil]; simp; rfl)]; exact ⟨rfl, rfl⟩
@[simp] theorem S31 (s : List UInt8) (hs : s.length < 1099511627776) (hh : Heap) : Ci cfg (.func (.func 31) [] []) [.str s] hh = some (.ret (.tuple [R fl0 eI (runesG s).1, .int .i64 (runesG s).2]), hh) :=
 Ci_K cfg rfl rfl (by simp) (by simp) (C31 s hs)
def kindR (r : Int) : Int := if r = 9 ∨ r = 10 ∨ r = 13 ∨ r = 32 then 1 else if 48 ≤ r ∧ r ≤ 57 then 2
 else if (65 ≤ r ∧ r ≤ 90) ∨ (97 ≤ r ∧ r ≤ 122) ∨ (192 ≤ r ∧ r ≤ 591 ∧ r ≠ 215 ∧ r ≠ 247) ∨ (880 ≤ r ∧ r ≤ 1279) then 3
 else if 1424 ≤ r ∧ r ≤ 1983 then 4 else 0
def kindG (r : Int) : Int × Int := if point r then (kindR r, 0) else (0, 90)
theorem C79 (r : Int) : Kc cfg 79 [.int .i64 r] (.ret (.tuple [.int .i64 (kindG r).1, .int .i64 (kindG r).2])) := by
 refine outS_of_wp cfg (fn := Tryz.f79) Tryz.func79 rfl (by simp [Tryz.f79]) ?_
 simp (disch := first | assumption | omega | (simp; done) | (simp; omega)) [-getElem?_pos, gZ, gS, Tryz.f79]
 repeat' (first | ((first | refine wpc_split _ ?_ ?_ | refine ww_split _ ?_ ?_) <;> intro hc <;> try simp at hc) | (refine wp_drawF (by kernel_rfl) ?_) | refine wk_yldW _ ?_ | refine layOwe _ (by kernel_rfl) ?_ | refine owe ?_ (fun ho => ?_) | (simp (disch := first | assumption | omega | (simp; done) | (simp; omega)) [-getElem?_pos, gZ, gS]))
 all_goals grind [kindG, kindR, point]
@[simp] theorem S79 (r : Int) (hh : Heap) : Ci cfg (.func (.func 79) [] []) [.int .i64 r] hh = some (.ret (.tuple [.int .i64 (kindG r).1, .int .i64 (kindG r).2]), hh) :=
 Ci_K cfg rfl rfl (by simp) (by simp) (C79 r)
def spaceR (r : Int) : Bool := decide (r = 9 ∨ r = 10 ∨ r = 13 ∨ r = 32)
end Go.Ab
namespace Go.Ab
open Go.Proofs
set_option maxRecDepth 10000
set_option maxHeartbeats 1000000
def wordS (s : List UInt8) : Bool := decide (0 < s.length ∧ s.length ≤ 64) && match runes s with
 | some l => l.all fun r => !spaceR r
 | none => false
theorem all_take_next {α : Type} [Inhabited α] {l : List α} {i : Nat} {p : α → Bool} (hi : i < l.length) (h : (l.take i).all p = true) (h2 : p (nth l i) = true) : (l.take (i + 1)).all p = true := by
 rw [nth_take hi, List.all_append, h]; simp [h2]
theorem all_nth_false {α : Type} [Inhabited α] {l : List α} {i : Nat} {p : α → Bool} (hi : i < l.length) (h2 : p (nth l i) = false) : l.all p = false := by
 cases h : l.all p with
 | false => rfl
 | true => rw [List.all_eq_true] at h; rw [h _ (nth_mem hi)] at h2; cases h2
end Go.Ab
