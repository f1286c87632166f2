/- A part of the proof. -/
import Derived.Test.YtippeibeiofmnaaDoorGr4
import Derived.Test.YtippeibeiofmnaaDoorGr2
set_option linter.unusedVariables false
set_option linter.unusedSimpArgs false
set_option linter.unusedSectionVars false
set_option linter.deprecated false
namespace Go.Ab
open Go.Proofs
set_option maxRecDepth 10000
set_option maxHeartbeats 1000000
theorem runes_len : ∀ (n : Nat) (s : List UInt8) (l : List Int), s.length ≤ n → runes s = some l → l.length ≤ s.length := by
 intro n
 induction n with
 | zero =>
  intro s l hn h
  have : s = [] := List.eq_nil_of_length_eq_zero (by omega)
  subst this
  rw [runes] at h
  simp at h
  subst h; simp
 | succ n ih =>
  intro s l hn h
  rw [runes] at h
  split at h
  ·simp at h; subst h; simp
  ·split at h
   ·cases h
   ·obtain ⟨l', h1, rfl⟩ := Option.map_eq_some_iff.1 h
    have hb := dec_bound s
    have := ih _ _ (by simp only [List.length_drop]; omega) h1
    simp only [List.length_drop] at this
    simp only [List.length_cons]
    omega
theorem runes_nil : runes [] = some [] := by rw [runes]; simp
theorem runes_bad {t : List UInt8} (h : 0 < t.length) (h0 : (dec t).2 = 0) : runes t = none := by
 rw [runes, if_neg (by intro e; subst e; simp at h), if_pos h0]
theorem runes_step {t : List UInt8} (h : 0 < t.length) (h0 : ¬ (dec t).2 = 0) : runes t = (runes (t.drop (dec t).2.toNat)).map ((dec t).1 :: ·) := by
 rw [runes, if_neg (by intro e; subst e; simp at h), if_neg h0]
theorem runesG_some {s : List UInt8} {l : List Int} (h : s.length ≤ 4096) (hr : runes s = some l) : runesG s = (l, 0) := by
 unfold runesG; rw [if_neg (by omega), hr]
theorem runesG_none {s : List UInt8} (h : s.length ≤ 4096) (hr : runes s = none) : runesG s = ([], 90) := by
 unfold runesG; rw [if_neg (by omega), hr]
theorem runesG_long {s : List UInt8} (h : 4096 < s.length) : runesG s = ([], 2) := by
 unfold runesG; rw [if_pos h]
theorem R_empty {α : Type} (E : α → List V) : V.row false false [] 0 none = R fl0 E [] := rfl
theorem C31 (s : List UInt8) (hs : s.length < 1099511627776) : Kc cfg 31 [.str s] (.ret (.tuple [R fl0 eI (runesG s).1, .int .i64 (runesG s).2])) := by
 refine outS_of_wp cfg (fn := Tryd.f31) Tryd.func31 rfl (by simp [Tryd.f31]) ?_
 simp (disch := first | assumption | omega | (simp; done) | (simp; omega)) [-getElem?_pos, gZ, gS, Tryd.f31]
 repeat' (first | ((first | refine wpc_split _ ?_ ?_ | refine ww_split _ ?_ ?_) <;> intro hc <;> try simp at hc) | (refine wp_drawF (by kernel_rfl) ?_) | refine wk_yldW _ ?_ | refine layOwe _ (by kernel_rfl) ?_ | refine owe ?_ (fun ho => ?_) | (simp (disch := first | assumption | omega | (simp; done) | (simp; omega)) [-getElem?_pos, gZ, gS]))
 ·rw [runesG_long (by omega)]; exact ⟨rfl, rfl⟩
 ·refine wp_loop cfg rfl (fun m f h => ∃ (t : List UInt8) (out : List Int) (fl : Fl), f 0 = .str t ∧ f 4 = R fl eI out ∧ App h.ts 1 fl ∧ m = t.length ∧ out.length + m ≤ s.length ∧ runes s = (runes t).map (out ++ ·)) ?_ s.length _ _ ⟨s, [], (false, true, none), by simp, by simp [R], App.full _ _ _, rfl, by simp, by simp⟩
  rintro m f h ⟨t, out, fl, h0, h4, ha, rfl, hl, hr⟩ ih
  have hb := dec_bound t
  repeat' (first | ((first | refine wpc_split _ ?_ ?_ | refine ww_split _ ?_ ?_) <;> intro hc <;> try simp at hc) | (refine wp_drawF (by kernel_rfl) ?_) | refine wk_yldW _ ?_ | refine layOwe _ (by kernel_rfl) ?_ | refine owe ?_ (fun ho => ?_) | (simp (disch := first | assumption | omega | (simp; done) | (simp; omega)) [h0, h4, fold_I1, -getElem?_pos, gZ, gS]))
  ·rw [runesG_none (by omega) (by rw [hr, runes_bad (by omega) hc]; rfl)]; exact ⟨rfl, rfl⟩
  ·refine ih (t.length - (dec t).2.toNat) _ _ (by omega) ⟨t.drop (dec t).2.toNat, out ++ [(dec t).1], _, by simp, by simp, App.new _ _ _, by simp, by simp; omega, ?_⟩
   rw [hr, runes_step (by omega) hc]
   simp [Function.comp_def]
  ·subst hc
   rw [runesG_some (by omega) (by rw [hr, runes_nil]; simp; rfl)]; exact ⟨rfl, rfl⟩
@[simp] theorem S31 (s : List UInt8) (hs : s.length < 1099511627776) (hh : Heap) : Ci cfg (.func (.func 31) [] []) [.str s] hh = some (.ret (.tuple [R fl0 eI (runesG s).1, .int .i64 (runesG s).2]), hh) :=
 Ci_K cfg rfl rfl (by simp) (by simp) (C31 s hs)
def kindR (r : Int) : Int := if r = 9 ∨ r = 10 ∨ r = 13 ∨ r = 32 then 1 else if 48 ≤ r ∧ r ≤ 57 then 2
 else if (65 ≤ r ∧ r ≤ 90) ∨ (97 ≤ r ∧ r ≤ 122) ∨ (192 ≤ r ∧ r ≤ 591 ∧ r ≠ 215 ∧ r ≠ 247) ∨ (880 ≤ r ∧ r ≤ 1279) then 3
 else if 1424 ≤ r ∧ r ≤ 1983 then 4 else 0
def kindG (r : Int) : Int × Int := if point r then (kindR r, 0) else (0, 90)
def spaceR (r : Int) : Bool := decide (r = 9 ∨ r = 10 ∨ r = 13 ∨ r = 32)
theorem kind_space (r : Int) : ((kindG r).1 == 1) = spaceR r := by grind [kindG, kindR, point, spaceR]
end Go.Ab
namespace Go.Ab
open Go.Proofs
set_option maxRecDepth 10000
set_option maxHeartbeats 1000000
def wordS (s : List UInt8) : Bool := decide (0 < s.length ∧ s.length ≤ 64) && match runes s with
 | some l => l.all fun r => !spaceR r
 | none => false
theorem runesG_small {s : List UInt8} (h : s.length ≤ 4096) : ((runesG s).2 = 0 → runes s = some (runesG s).1) ∧ ((runesG s).2 ≠ 0 → runes s = none) := by
 unfold runesG
 rw [if_neg (by omega)]
 cases runes s <;> simp
theorem all_take_next {α : Type} [Inhabited α] {l : List α} {i : Nat} {p : α → Bool} (hi : i < l.length) (h : (l.take i).all p = true) (h2 : p (nth l i) = true) : (l.take (i + 1)).all p = true := by
 rw [nth_take hi, List.all_append, h]; simp [h2]
theorem all_nth_false {α : Type} [Inhabited α] {l : List α} {i : Nat} {p : α → Bool} (hi : i < l.length) (h2 : p (nth l i) = false) : l.all p = false := by
 cases h : l.all p with
 | false => rfl
 | true => rw [List.all_eq_true] at h; rw [h _ (nth_mem hi)] at h2; cases h2
end Go.Ab
namespace Go.Ab
open Go.Proofs
theorem smZs_nth {t : List Sgn} (h : smZs t) {i : Nat} (hi : i < t.length) : smZ (nth t i) := h.2 _ (nth_mem hi)
theorem dotsL_t {l : List Int} (h : ∀ j, j < l.length → dotB (nth l j) = true) : dotsL l = true := by
 unfold dotsL; rw [List.all_eq_true]
 intro x hx
 obtain ⟨j, hj, rfl⟩ := List.mem_iff_getElem.1 hx
 rw [← nth_eq hj]; exact h j hj
theorem dotsL_f {l : List Int} {j : Nat} (hj : j < l.length) (h : dotB (nth l j) = false) : dotsL l = false := by
 cases e : dotsL l with
 | false => rfl
 | true =>
  unfold dotsL at e
  rw [List.all_eq_true] at e
  rw [e _ (nth_mem hj)] at h; cases h
theorem dotsL_at {l : List Int} (h : dotsL l = true) {j : Nat} (hj : j < l.length) : 0 ≤ nth l j ∧ nth l j ≤ 63 := by
 unfold dotsL at h; rw [List.all_eq_true] at h
 exact of_decide_eq_true (h _ (nth_mem hj))
theorem checkZ_many {t : List Sgn} (h : 64 < t.length) : checkZ t = 2 := if_pos h
theorem checkZ_bad {t : List Sgn} (h : ¬ 64 < t.length) {i : Nat} (hi : i < t.length) (hb : sgnAt t i = false) : checkZ t = 120 := by
 unfold checkZ tabOk
 rw [if_neg h, if_neg (by omega), allTo_false i hi hb]; rfl
theorem checkZ_empty {t : List Sgn} (h : t.length = 0) : checkZ t = 120 := by
 unfold checkZ
 rw [if_neg (by omega), if_pos h]
theorem checkZ_ok {t : List Sgn} (h : ¬ 64 < t.length) (h0 : ¬ t.length = 0) (ha : ∀ i, i < t.length → sgnAt t i = true) : checkZ t = 0 := by
 unfold checkZ tabOk
 rw [if_neg h, if_neg h0, if_pos (allTo_iff.2 ha)]
theorem checkZ_zero {t : List Sgn} (h : checkZ t = 0) : t.length ≤ 64 ∧ 0 < t.length ∧ ∀ i, i < t.length → sgnAt t i = true := by
 unfold checkZ at h
 split at h
 ·cases h
 ·split at h
  ·cases h
  ·split at h
   ·rename_i h1 h2 h3
    exact ⟨by omega, by omega, allTo_iff.1 h3⟩
   ·cases h
theorem sgnAt_of {t : List Sgn} {i : Nat} (h : sgnAt t i = true) : ((runesG (nth t i).text).2 = 0 ∧ 1 ≤ (runesG (nth t i).text).1.length ∧ (runesG (nth t i).text).1.length ≤ 4 ∧ 1 ≤ (nth t i).cells.length ∧ (nth t i).cells.length ≤ 4) ∧ dotsL (nth t i).cells = true ∧ ∀ k, k < i → ¬ (nth t k).text = (nth t i).text := by
 unfold sgnAt sgnOk sgnH freshZ at h
 simp only [Bool.and_eq_true, decide_eq_true_eq] at h
 exact ⟨h.1.1, h.1.2, h.2⟩
def mSn : Nat → List Wd → List (V × V × Nat)
 | _, [] => []
 | i, k :: l => (.str k, .bool true, i) :: mSn (i + 1) l
theorem mSn_app : ∀ (l : List Wd) (i : Nat) (s : Wd), mSn i l ++ [(V.str s, V.bool true, i + l.length)] = mSn i (l ++ [s])
 | [], i, s => rfl
 | k :: l, i, s => by
  have := mSn_app l (i + 1) s
  rw [mSn, List.cons_append, List.cons_append, mSn, ← this, List.length_cons, Nat.add_assoc i 1, Nat.add_comm 1]
theorem eqKey_strZ {P : Program} {kt : TypeId} (hk : P.underlying kt = some .string) (a b : Wd) : eqKey P kt (.str a) (.str b) = some (a == b) := by
 unfold eqKey; rw [hk]
theorem findK_Sn {P : Program} {kt : TypeId} (hk : P.underlying kt = some .string) (s : Wd) : ∀ (l : List Wd) (i : Nat),
  (s ∉ l ∧ findK P kt (.str s) (mSn i l) = some none) ∨ (s ∈ l ∧ ∃ j, findK P kt (.str s) (mSn i l) = some (some (j, .bool true, i + j)))
 | [], i => .inl ⟨by simp, rfl⟩
 | k :: l, i => by
  by_cases h : s = k
  ·subst h
   exact .inr ⟨by simp, 0, by rw [mSn, findK, eqKey_strZ hk]; simp⟩
  ·have hb : (s == k) = false := by rw [beq_eq_false_iff_ne]; exact h
   rcases findK_Sn hk s l (i + 1) with ⟨h1, h2⟩ | ⟨h1, j, h2⟩
   ·exact .inl ⟨by simp [h, h1], by rw [mSn, findK, eqKey_strZ hk, hb]; simp [h2]⟩
   ·refine .inr ⟨by simp [h1], j + 1, ?_⟩
    rw [mSn, findK, eqKey_strZ hk, hb]
    simp only [h2]
    rw [show i + 1 + j = i + (j + 1) by omega]
theorem lookup_Sn {P : Program} {h : Heap} {t kt et : TypeId} {a : Nat} {l : List Wd} (s : Wd) (ht : P.underlying t = some (.map kt et)) (hk : P.underlying kt = some .string) (hz : zeroV P et = some (.bool false)) (hb : h.bs[a]? = some (.map (mSn 0 l) l.length)) :
  lookupV P h t (.map a) (.str s) false = some (.bool (decide (s ∈ l))) := by
 unfold lookupV
 have hko : keyOk P kt (.str s) = true := by unfold keyOk; rw [hk]
 rw [ht]
 simp only [hko, hb]
 rcases findK_Sn hk s l 0 with ⟨h1, h2⟩ | ⟨h1, j, h2⟩
 ·rw [h2]; simp [hz, h1]
 ·rw [h2]; simp [h1]
theorem upd_Sn {P : Program} {h : Heap} {t kt et : TypeId} {a : Nat} {l : List Wd} (s : Wd) (hs : s ∉ l) (ht : P.underlying t = some (.map kt et)) (hk : P.underlying kt = some .string) (hb : h.bs[a]? = some (.map (mSn 0 l) l.length)) :
  mapUpdV P h t (.map a) (.str s) (.bool true) = some { h with bs := h.bs.set a (.map (mSn 0 (l ++ [s])) (l ++ [s]).length) } := by
 unfold mapUpdV
 have hko : keyOk P kt (.str s) = true := by unfold keyOk; rw [hk]
 rw [ht]
 have hc : (V.bool true).cellsO.isNone = false := rfl
 simp only [hko, hb, hc]
 rcases findK_Sn hk s l 0 with ⟨h1, h2⟩ | ⟨h1, j, h2⟩
 ·have := mSn_app l 0 s
  rw [Nat.zero_add] at this
  rw [h2]; simp [this]
 ·exact absurd h1 hs
def textsZ (t : List Sgn) : List Wd := t.map (·.text)
theorem mem_textsZ {t : List Sgn} {i : Nat} (hi : i ≤ t.length) {s : Wd} : s ∈ textsZ (t.take i) ↔ ∃ k, k < i ∧ (nth t k).text = s := by
 unfold textsZ
 rw [List.mem_map]
 constructor
 ·rintro ⟨x, hx, rfl⟩
  obtain ⟨k, hk, rfl⟩ := List.mem_iff_getElem.1 hx
  have hk2 : k < i := by rw [List.length_take] at hk; omega
  refine ⟨k, hk2, ?_⟩
  rw [List.getElem_take, ← nth_eq]
 ·rintro ⟨k, hk, rfl⟩
  refine ⟨nth t k, ?_, rfl⟩
  rw [← nth_take_lt hk]
  exact nth_mem (by rw [List.length_take]; omega)
theorem fresh_iff {t : List Sgn} {i : Nat} (hi : i ≤ t.length) : freshZ t i = !decide ((nth t i).text ∈ textsZ (t.take i)) := by
 unfold freshZ
 rw [Bool.eq_iff_iff]
 simp only [decide_eq_true_eq, Bool.not_eq_true', decide_eq_false_iff_not, mem_textsZ hi]
 constructor
 ·rintro h ⟨k, hk, e⟩; exact h k hk e
 ·intro h k hk e; exact h ⟨k, hk, e⟩
end Go.Ab
namespace Go.Ab
open Go.Proofs Go.Proofs.YtippeibeiofmnaaDoor
set_option maxRecDepth 100000
def szZ (x : Sgn) : Nat := x.text.length + x.cells.length
theorem rd_sign : Reads Tryd.prog 46 (fun _ : Sgn => True) eZ szZ := by
 have h := reads_struct (t := 46) (P := Tryd.prog) Tryd.underlying46 (readsF_cons rfl rd_string (readsF_cons (by kernel_rfl) rd_ints (readsF_nil _)))
 exact reads_congr h fun a _ => ⟨⟨a.1, a.2.1⟩, trivial, rfl, by simp [szZ, sum_one]⟩
theorem rd_signs : Reads Tryd.prog 22 (fun l : List Sgn => ∀ y ∈ l, True) (fun l => [R fl0 eZ l]) (fun l => (l.map fun x => szZ x + 1).sum) := reads_slice Tryd.underlying22 (by kernel_rfl) (by rw [show Tryd.prog.cellsOf 46 = 2 by kernel_rfl]; decide) rd_sign
theorem smZs_rd {r : List Sgn} (h : (r.map fun x => szZ x + 1).sum ≤ 1048576) : smZs r := by
 have h1 := sum_len (f := szZ) r
 refine ⟨by omega, fun c hc => ?_⟩
 have h2 := sum_mem (f := fun x => szZ x + 1) hc
 have h3 : szZ c = c.text.length + c.cells.length := rfl
 exact ⟨by omega, by omega⟩
end Go.Ab
