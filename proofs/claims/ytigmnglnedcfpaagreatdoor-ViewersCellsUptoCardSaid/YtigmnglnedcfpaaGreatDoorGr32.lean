/- A part of the proof. -/
import Derived.Test.YtigmnglnedcfpaaGreatDoorGr9
import Derived.Test.YtigmnglnedcfpaaGreatDoorGr18
import Derived.Test.YtigmnglnedcfpaaGreatDoorGr31
import Derived.Test.YtigmnglnedcfpaaGreatDoorGr10
set_option linter.unusedVariables false
set_option linter.unusedSimpArgs false
set_option linter.unusedSectionVars false
set_option linter.deprecated false
namespace Go.Ab
open Go.Proofs
set_option maxRecDepth 100000
def textZ (t : List Sgn) (l : List Nat) : Wd := l.flatMap fun k => (nth t k).text
theorem textZ_cons (t : List Sgn) (k : Nat) (l : List Nat) : textZ t (k :: l) = (nth t k).text ++ textZ t l := rfl
theorem cellsZ_cons (t : List Sgn) (k : Nat) (l : List Nat) : cellsZ t (k :: l) = (nth t k).cells ++ cellsZ t l := rfl
theorem textZ_app (t : List Sgn) (a b : List Nat) : textZ t (a ++ b) = textZ t a ++ textZ t b := by simp [textZ]
theorem cellsZ_app (t : List Sgn) (a b : List Nat) : cellsZ t (a ++ b) = cellsZ t a ++ cellsZ t b := by simp [cellsZ]
theorem preZ_iff {p s : Wd} : preZ p s = true ↔ p <+: s := by simp [preZ]
theorem drop_after {s x y : Wd} {i : Nat} (h : x ++ y <+: s.drop i) : y <+: s.drop (i + x.length) := by
 obtain ⟨r, hr⟩ := h
 refine ⟨r, ?_⟩
 rw [← List.drop_drop, ← hr, List.append_assoc, List.drop_left]
theorem tab_pos {t : List Sgn} (hc : checkZ t = 0) : ∀ j, j < t.length → 0 < lenZ t j := fun j hj => by
 obtain ⟨c1, c2, c3⟩ := checkZ_zero hc
 obtain ⟨⟨e1, e2, _⟩, _⟩ := sgnAt_of (c3 j hj)
 obtain ⟨_, e4⟩ := runesG_all e1
 have := runes_len _ _ _ (Nat.le_refl _) e4
 show 0 < (nth t j).text.length
 omega
theorem tab_cells {t : List Sgn} (hc : checkZ t = 0) : ∀ j, j < t.length → 1 ≤ cellZ t j ∧ cellZ t j ≤ 4 := fun j hj => by
 obtain ⟨c1, c2, c3⟩ := checkZ_zero hc
 obtain ⟨⟨_, _, _, e4, e5⟩, _⟩ := sgnAt_of (c3 j hj)
 exact ⟨e4, e5⟩
theorem runes_lenG : ∀ (n : Nat) (s : List UInt8) (l : List Int), s.length ≤ n → runes s = some l → s.length ≤ 4 * l.length := fun n s l _ h => by
 obtain ⟨e1, _⟩ := runes_enc' h
 have := (encAll_len l).2
 rw [e1] at this
 exact this
theorem tab_text {t : List Sgn} (hc : checkZ t = 0) : ∀ x ∈ t, x.text.length ≤ 64 := fun x hx => by
 obtain ⟨c1, c2, c3⟩ := checkZ_zero hc
 obtain ⟨j, hj, rfl⟩ := List.mem_iff_getElem.1 hx
 obtain ⟨⟨e1, _, e3, _⟩, _⟩ := sgnAt_of (c3 j hj)
 rw [nth_eq hj] at e1 e3
 obtain ⟨_, hr⟩ := runesG_all e1
 have := runes_lenG _ _ _ (Nat.le_refl _) hr
 omega
theorem least_path {t : List Sgn} {s : Wd} (h0 : ∀ j, j < t.length → 0 < lenZ t j) : ∀ (l : List Nat) (i : Nat), (∀ k ∈ l, k < t.length) → textZ t l <+: s.drop i →
  nth (leastL t s) i ≤ ((cellsZ t l).length : Int) + nth (leastL t s) (i + (textZ t l).length)
 | [], i, _, _ => by simp [cellsZ, textZ]
 | k :: l, i, hk, hp => by
  have hkt := hk k List.mem_cons_self
  rw [textZ_cons] at hp
  have h1 : (nth t k).text <+: s.drop i := (List.prefix_append _ _).trans hp
  have h3 := drop_after hp
  have ih := least_path h0 l (i + (nth t k).text.length) (fun x hx => hk x (List.mem_cons_of_mem _ hx)) h3
  have hl := h1.length_le
  rw [List.length_drop] at hl
  have hpos : 0 < (nth t k).text.length := h0 k hkt
  have ha := least_at (t := t) (s := s) h0 (i := i) (by omega)
  have hb : _ ≤ ((nth t k).cells.length : Int) + nth (leastL t s) (i + (nth t k).text.length) := bestZ_min (t := t) (s := s) (L := leastL t s) (i := i) t.length k hkt (preZ_iff.2 h1)
  rw [textZ_cons, cellsZ_cons, List.length_append, List.length_append, ← Nat.add_assoc]
  omega
theorem path_all {t : List Sgn} {s : Wd} (h0 : ∀ j, j < t.length → 0 < lenZ t j) : ∀ (f i : Nat), s.length ≤ i + f → i ≤ s.length → nth (leastL t s) i < neverZ →
  (∀ k ∈ pathZ t s f i, k < t.length) ∧ textZ t (pathZ t s f i) = s.drop i ∧ ((cellsZ t (pathZ t s f i)).length : Int) = nth (leastL t s) i
 | 0, i, hf, hi, _ => by
  obtain rfl : i = s.length := by omega
  exact ⟨fun k hk => (by cases hk), (by rw [List.drop_length]; rfl), (by rw [least_end]; rfl)⟩
 | f + 1, i, hf, hi, hn => by
  rw [pathZ]
  by_cases h : i < s.length
  ·rw [if_pos h]
   obtain ⟨p1, p2, p3, p4, p5, p6⟩ := path_step h0 h hn
   obtain ⟨q1, q2, q3⟩ := path_all h0 f _ (by omega) p2 p5
   generalize firstZ t s i = k at *
   refine ⟨fun x hx => ?_, ?_, ?_⟩
   ·rcases List.mem_cons.1 hx with rfl | hx
    ·exact p1
    ·exact q1 x hx
   ·rw [textZ_cons, q2]
    obtain ⟨r, hr⟩ := preZ_iff.1 p6
    rw [← List.drop_drop, ← hr]
    show _ ++ List.drop (nth t k).text.length _ = _
    rw [List.drop_left]
   ·rw [cellsZ_cons, List.length_append, p4]
    show (((nth t k).cells.length + _ : Nat) : Int) = ((nth t k).cells.length : Int) + _
    rw [← q3]; omega
  ·rw [if_neg h]
   obtain rfl : i = s.length := by omega
   exact ⟨fun k hk => (by cases hk), (by rw [List.drop_length]; rfl), (by rw [least_end]; rfl)⟩
theorem cellsZ_le {t : List Sgn} (hc : checkZ t = 0) : ∀ l : List Nat, (∀ k ∈ l, k < t.length) → (cellsZ t l).length ≤ 4 * l.length
 | [], _ => Nat.le_refl _
 | k :: l, h => by
  have := cellsZ_le hc l (fun x hx => h x (List.mem_cons_of_mem _ hx))
  have h1 := (tab_cells hc k (h k List.mem_cons_self)).2
  unfold cellZ at h1
  rw [cellsZ_cons, List.length_append, List.length_cons]; omega
theorem textZ_ge {t : List Sgn} (hc : checkZ t = 0) : ∀ l : List Nat, (∀ k ∈ l, k < t.length) → l.length ≤ (textZ t l).length
 | [], _ => Nat.le_refl _
 | k :: l, h => by
  have := textZ_ge hc l (fun x hx => h x (List.mem_cons_of_mem _ hx))
  have h1 := tab_pos hc k (h k List.mem_cons_self)
  unfold lenZ at h1
  rw [textZ_cons, List.length_append, List.length_cons]; omega
def Said (t : List Sgn) (s : Wd) (l : List Nat) : Prop := (∀ k ∈ l, k < t.length) ∧ textZ t l = s
theorem Said.app {t : List Sgn} {a b : Wd} {x y : List Nat} (hx : Said t a x) (hy : Said t b y) : Said t (a ++ b) (x ++ y) :=
 ⟨fun k hk => (List.mem_append.1 hk).elim (hx.1 k) (hy.1 k), by rw [textZ_app, hx.2, hy.2]⟩
theorem least_le {t : List Sgn} {s : Wd} {l : List Nat} (hc : checkZ t = 0) (h : Said t s l) : nth (leastL t s) 0 ≤ ((cellsZ t l).length : Int) := by
 have := least_path (t := t) (s := s) (tab_pos hc) l 0 h.1 (by rw [h.2]; exact List.prefix_refl _)
 rw [h.2, Nat.zero_add, least_end] at this
 omega
theorem said_of {t : List Sgn} {s : Wd} (hc : checkZ t = 0) (hn : nth (leastL t s) 0 < neverZ) : Said t s (pathZ t s s.length 0) ∧ ((cellsZ t (pathZ t s s.length 0)).length : Int) = nth (leastL t s) 0 := by
 obtain ⟨h1, h2, h3⟩ := path_all (t := t) (s := s) (tab_pos hc) s.length 0 (by omega) (by omega) hn
 exact ⟨⟨h1, h2⟩, h3⟩
theorem least_small {t : List Sgn} {s : Wd} (hc : checkZ t = 0) (hn : nth (leastL t s) 0 < neverZ) : nth (leastL t s) 0 ≤ 4 * (s.length : Int) := by
 obtain ⟨⟨h1, h2⟩, h3⟩ := said_of hc hn
 have a1 := cellsZ_le hc _ h1
 have a2 := textZ_ge hc _ h1
 rw [h2] at a2
 omega
theorem encode_of {t : List Sgn} {s : Wd} (hc : checkZ t = 0) (he : (runesG s).2 = 0) (hl : s.length ≤ 1024) (hn : nth (leastL t s) 0 < neverZ) :
  encodeZ t s = ((pathZ t s s.length 0).map (fun (k : Nat) => (k : Int)), cellsZ t (pathZ t s s.length 0), true, 0) := by
 have := least_small hc hn
 unfold encodeZ
 rw [if_neg (by simp [hc]), if_neg (by simp [he]), if_neg (by omega), if_neg (by omega)]
 rfl
theorem encode_no {t : List Sgn} {s : Wd} (hc : checkZ t = 0) (he : (runesG s).2 = 0) (hn : ¬ nth (leastL t s) 0 < neverZ) : encodeZ t s = ([], [], false, 0) := by
 unfold encodeZ
 rw [if_neg (by simp [hc]), if_neg (by simp [he]), if_pos (by omega)]
theorem textZ_runes {t : List Sgn} (hc : checkZ t = 0) : ∀ l : List Nat, (∀ k ∈ l, k < t.length) → ∃ x, runes (textZ t l) = some x
 | [], _ => ⟨[], by simp [textZ, runes]⟩
 | k :: l, h => by
  obtain ⟨x, hx⟩ := textZ_runes hc l (fun x hx => h x (List.mem_cons_of_mem _ hx))
  obtain ⟨c1, c2, c3⟩ := checkZ_zero hc
  obtain ⟨⟨e1, _⟩, _⟩ := sgnAt_of (c3 k (h k List.mem_cons_self))
  obtain ⟨_, hr⟩ := runesG_all e1
  exact ⟨(runesG (nth t k).text).1 ++ x, by rw [textZ_cons, runes_append hr, hx]; rfl⟩
def befZ : List Int → List Int → Bool
 | [], [] => false
 | [], _ :: _ => true
 | _ :: _, [] => false
 | a :: x, b :: y => if a = b then befZ x y else decide (a < b)
end Go.Ab
namespace Go.Ab
open Go.Proofs
set_option maxRecDepth 100000
set_option maxHeartbeats 4000000
theorem wTo_app_left {f : Font} {a b : List Int} {n : Nat} (h : n ≤ a.length) : wTo f (a ++ b) n = wTo f a n := by
 refine sumTo_congr fun i hi => ?_
 unfold addS
 rw [nth_append_left (by omega)]
 split
 ·rw [nth_append_left (by omega)]
 ·rfl
theorem wTo_app_right {f : Font} {a b : List Int} (ha : a ≠ []) (hb : b ≠ []) : ∀ n, wTo f (a ++ b) (a.length + (n + 1)) = wTo f a a.length + wTo f b (n + 1) - nearS f (nth a (a.length - 1)) (nth b 0)
 | 0 => by
  have hal := List.length_pos_iff.2 ha
  have h1 := wTo_succ f (a ++ b) a.length
  have h2 := wTo_app_left (f := f) (a := a) (b := b) (n := a.length) (Nat.le_refl _)
  have h3 : addS f (a ++ b) a.length = oneS f (nth b 0) - nearS f (nth a (a.length - 1)) (nth b 0) := by
   unfold addS
   rw [if_pos hal, nth_append_right (Nat.le_refl _), Nat.sub_self, nth_append_left (by omega)]
  have h4 : wTo f b (0 + 1) = oneS f (nth b 0) := by
   unfold wTo; rw [sumTo_succ, sumTo_zero]; simp [addS]
  rw [h4, show a.length + (0 + 1) = a.length + 1 by omega, h1, h2, h3]; omega
 | n + 1 => by
  have ih := wTo_app_right (f := f) ha hb n
  have h1 := wTo_succ f (a ++ b) (a.length + (n + 1))
  have h2 := wTo_succ f b (n + 1)
  have h3 : addS f (a ++ b) (a.length + (n + 1)) = addS f b (n + 1) := by
   unfold addS
   rw [if_pos (by omega), if_pos (by omega), nth_append_right (by omega), nth_append_right (by omega)]
   have e1 : a.length + (n + 1) - a.length = n + 1 := by omega
   have e2 : a.length + (n + 1) - 1 - a.length = n + 1 - 1 := by omega
   rw [e1, e2]
  rw [show a.length + (n + 1 + 1) = a.length + (n + 1) + 1 by omega, h1, h2, h3, ih]; omega
theorem wTo_app {f : Font} {a b : List Int} (ha : a ≠ []) (hb : b ≠ []) : wTo f (a ++ b) (a ++ b).length = wTo f a a.length + wTo f b b.length - nearS f (nth a (a.length - 1)) (nth b 0) := by
 have hbl := List.length_pos_iff.2 hb
 have := wTo_app_right (f := f) ha hb (b.length - 1)
 rw [show b.length - 1 + 1 = b.length by omega] at this
 rw [List.length_append]; exact this
theorem widthS_enc {f : Font} (hc : checkS f = 0) {l : List Int} (hp : l.all point = true) (hl : (encAll l).length ≤ 4096) : widthS f (encAll l) = (wTo f l l.length, 0) := by
 have hr := runesG_some hl (runes_encAll hp)
 unfold widthS
 rw [if_neg (by simpa using hc), hr]; simp
theorem widthS_of {f : Font} (hc : checkS f = 0) {s : List UInt8} (h : (runesG s).2 = 0) : widthS f s = (wTo f (runesG s).1 (runesG s).1.length, 0) := by
 unfold widthS
 rw [if_neg (by simpa using hc), if_neg (by simpa using h)]
theorem w1 (f : Font) (a : Int) : wTo f [a] 1 = oneS f a := by
 show sumTo (0 + 1) _ = _
 rw [sumTo_succ, sumTo_zero]; simp [addS]
theorem w2 (f : Font) (a b : Int) : wTo f [a, b] 2 = oneS f a + oneS f b - nearS f a b := by
 show sumTo (1 + 1) _ = _
 rw [sumTo_succ, show sumTo 1 (addS f [a, b]) = sumTo (0 + 1) (addS f [a, b]) from rfl, sumTo_succ, sumTo_zero]
 simp [addS]; omega
theorem enc1l (a : Int) : (encAll [a]).length ≤ 4096 := by have := (encAll_len [a]).2; simp at this ⊢; omega
theorem enc2l (a b : Int) : (encAll [a, b]).length ≤ 4096 := by have := (encAll_len [a, b]).2; simp at this ⊢; omega
theorem pt_nth {l : List Int} (h : l.all point = true) {i : Nat} (hi : i < l.length) : point (nth l i) = true := by rw [List.all_eq_true] at h; exact h _ (nth_mem hi)
theorem runesG_app {a b : List UInt8} (ha : (runesG a).2 = 0) (hb : (runesG b).2 = 0) (hl : a.length + b.length ≤ 4096) : runesG (a ++ b) = ((runesG a).1 ++ (runesG b).1, 0) := by
 obtain ⟨_, h1⟩ := runesG_all ha
 obtain ⟨_, h2⟩ := runesG_all hb
 exact runesG_some (by simp; omega) (by rw [runes_append h1, h2]; rfl)
theorem needW_ok {v : VwZ} {s : List UInt8} (hv : vwR v = true) (he : (runesG s).2 = 0) : needW v s = (v.speed * ((runesG s).1.length : Int), 0) := by unfold needW; rw [if_pos hv, he]
theorem needW_bound {v : VwZ} (hv : vwR v = true) (n : Nat) (h : n ≤ 4096) : 0 ≤ v.speed * (n : Int) ∧ v.speed * (n : Int) ≤ 4096000 := by
 obtain ⟨h1, h2⟩ := vwR_speed hv
 have h4 : 0 ≤ v.speed * (n : Int) := Int.mul_nonneg h1 (by omega)
 have h5 : v.speed * (n : Int) ≤ 1000 * 4096 := Int.mul_le_mul h2 (by omega) (by omega) (by omega)
 exact ⟨h4, by omega⟩
theorem widthW_s {v : VwZ} {s : List UInt8} (hv : vwR v = true) (he : (runesG s).2 = 0) (hc : v.cells = 0) : widthW v s = (wTo v.font (runesG s).1 (runesG s).1.length, 0) := by
 unfold widthW
 rw [if_pos hv, if_pos he, if_pos hc]
 exact widthS_of ((vwR_s hc).1 hv).2.2.1 he
theorem widthW_c {v : VwZ} {s : List UInt8} (hv : vwR v = true) (he : (runesG s).2 = 0) (hc : ¬ v.cells = 0) (hl : s.length ≤ 1024) :
  widthW v s = if nth (leastL v.signs s) 0 < neverZ then (nth (leastL v.signs s) 0, 0) else (0, 450) := by
 have hk := ((vwR_c hc).1 hv).2.2.2.1
 unfold widthW
 rw [if_pos hv, if_pos he, if_neg hc]
 by_cases h : nth (leastL v.signs s) 0 < neverZ
 ·rw [if_pos h, encode_of hk he hl h]
  simp only [codeW, if_true]
  rw [(said_of hk h).2]
 ·rw [if_neg h, encode_no hk he h]
  rfl
theorem width_cells {v : VwZ} {a b : List UInt8} (hv : vwR v = true) (ha : (runesG a).2 = 0) (hb : (runesG b).2 = 0) (hc : ¬ v.cells = 0) (hla : a.length ≤ 20) (hlb : b.length ≤ 20) :
  widthW v a = (0, 450) ∨ widthW v b = (0, 450) ∨ ∃ x y z : Int, widthW v a = (x, 0) ∧ widthW v b = (y, 0) ∧ widthW v (a ++ b) = (z, 0) ∧ 0 ≤ x ∧ x ≤ 80 ∧ 0 ≤ y ∧ y ≤ 80 ∧ 0 ≤ z ∧ z ≤ x + y := by
 have hk := ((vwR_c hc).1 hv).2.2.2.1
 rw [widthW_c hv ha hc (by omega), widthW_c hv hb hc (by omega), widthW_c (s := a ++ b) hv (by rw [runesG_app ha hb (by omega)]) hc (by simp; omega)]
 by_cases h1 : nth (leastL v.signs a) 0 < neverZ
 ·by_cases h2 : nth (leastL v.signs b) 0 < neverZ
  ·obtain ⟨s1, e1⟩ := said_of hk h1
   obtain ⟨s2, e2⟩ := said_of hk h2
   have h3 := least_le hk (s1.app s2)
   rw [cellsZ_app, List.length_append] at h3
   have b1 := least_small hk h1
   have b2 := least_small hk h2
   have z1 := (least_all v.signs a 0).1
   have z2 := (least_all v.signs b 0).1
   have z3 := (least_all v.signs (a ++ b) 0).1
   have hn : nth (leastL v.signs (a ++ b)) 0 < neverZ := by unfold neverZ; omega
   refine .inr (.inr ⟨_, _, _, if_pos h1, if_pos h2, if_pos hn, z1, by omega, z2, by omega, z3, by omega⟩)
  ·exact .inr (.inl (if_neg h2))
 ·exact .inl (if_neg h1)
theorem width_fewest {v : VwZ} {l : List Nat} (hv : vwR v = true) (hc : ¬ v.cells = 0) (hl : ∀ k ∈ l, k < v.signs.length) (hs : (textZ v.signs l).length ≤ 40) :
  ∃ x : Int, widthW v (textZ v.signs l) = (x, 0) ∧ 0 ≤ x ∧ x ≤ ((cellsZ v.signs l).length : Int) := by
 have hk := ((vwR_c hc).1 hv).2.2.2.1
 obtain ⟨r, hr⟩ := textZ_runes hk l hl
 have he : (runesG (textZ v.signs l)).2 = 0 := by rw [runesG_some (by omega) hr]
 have h1 := least_le hk (t := v.signs) (s := textZ v.signs l) (l := l) ⟨hl, rfl⟩
 have h2 := cellsZ_le hk l hl
 have h3 := textZ_ge hk l hl
 have z := (least_all v.signs (textZ v.signs l) 0).1
 exact ⟨_, by rw [widthW_c hv he hc (by omega)]; exact if_pos (by unfold neverZ; omega), z, h1⟩
def otherW (v o : VwZ) : VwZ := { v with no := o.no, lang := o.lang, lines := o.lines, scr := o.scr }
def other2W (v o : VwZ) : VwZ := { v with no := o.no, lang := o.lang, lines := o.lines, scr := o.scr, room := o.room, cells := o.cells }
theorem base_of {v : VwZ} (h : vwR v = true) : baseB v = true := by
 cases hb : baseB v with
 | true => rfl
 | false => rw [vwR_base hb] at h; cases h
theorem vwR_other {v o : VwZ} (hv : vwR v = true) (ho : vwR o = true) (sp : Int) (h1 : 0 ≤ sp) (h2 : sp ≤ 1000) : vwR { otherW v o with speed := sp } = true := by
 have b1 := baseB_t.1 (base_of hv)
 have b2 := baseB_t.1 (base_of ho)
 have b3 : baseB { otherW v o with speed := sp } = true := baseB_t.2 ⟨b2.1, b2.2.1, b2.2.2.1, inB_t.2 ⟨h1, h2⟩, b2.2.2.2.2⟩
 by_cases hc : v.cells = 0
 ·rw [vwR_s hc] at hv
  rw [vwR_s (show ({ otherW v o with speed := sp } : VwZ).cells = 0 from hc)]
  exact ⟨b3, hv.2⟩
 ·rw [vwR_c hc] at hv
  rw [vwR_c (show ¬ ({ otherW v o with speed := sp } : VwZ).cells = 0 from hc)]
  exact ⟨b3, hv.2⟩
theorem vwR_other2 {v o : VwZ} (hv : vwR v = true) (ho : vwR o = true) (hco : v.cells = 0 ↔ o.cells = 0) (sp : Int) (h1 : 0 ≤ sp) (h2 : sp ≤ 1000) : vwR { other2W v o with speed := sp } = true := by
 have b1 := baseB_t.1 (base_of hv)
 have b2 := baseB_t.1 (base_of ho)
 have b3 : baseB { other2W v o with speed := sp } = true := baseB_t.2 ⟨b2.1, b2.2.1, b2.2.2.1, inB_t.2 ⟨h1, h2⟩, b2.2.2.2.2⟩
 by_cases hc : v.cells = 0
 ·have hc2 := hco.1 hc
  rw [vwR_s hc] at hv
  rw [vwR_s hc2] at ho
  rw [vwR_s (show ({ other2W v o with speed := sp } : VwZ).cells = 0 from hc2)]
  exact ⟨b3, ho.2.1, hv.2.2⟩
 ·have hc2 : ¬ o.cells = 0 := fun e => hc (hco.2 e)
  rw [vwR_c hc] at hv
  rw [vwR_c hc2] at ho
  rw [vwR_c (show ¬ ({ other2W v o with speed := sp } : VwZ).cells = 0 from hc2)]
  exact ⟨b3, ho.2.1, ho.2.2.1, hv.2.2.2⟩
theorem widthW_other {v x : VwZ} (hv : vwR v = true) (hx : vwR x = true) (hc : v.cells = 0 ↔ x.cells = 0) (hf : x.font = v.font) (hg : x.signs = v.signs) (s : List UInt8) : widthW x s = widthW v s := by
 unfold widthW
 rw [if_pos hv, if_pos hx, hf, hg]
 by_cases h : v.cells = 0
 ·rw [if_pos h, if_pos (hc.1 h)]
 ·rw [if_neg h, if_neg (fun e => h (hc.2 e))]
theorem shapeW_other {v x : VwZ} (hv : vwR v = true) (hx : vwR x = true) (hc : v.cells = 0 ↔ x.cells = 0) (hr : x.right = v.right) (s : List UInt8) : shapeW x s = shapeW v s := by
 unfold shapeW
 rw [if_pos hv, if_pos hx, hr]
 by_cases h : v.cells = 0
 ·rw [if_pos h, if_pos (hc.1 h)]
 ·rw [if_neg h, if_neg (fun e => h (hc.2 e))]
theorem needW_other {v x : VwZ} (hv : vwR v = true) (hx : vwR x = true) (hs : x.speed = v.speed) (s : List UInt8) : needW x s = needW v s := by
 unfold needW
 rw [if_pos hv, if_pos hx, hs]
end Go.Ab
