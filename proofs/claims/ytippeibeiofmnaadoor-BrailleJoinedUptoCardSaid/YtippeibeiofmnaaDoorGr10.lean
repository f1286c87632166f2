/- A part of the proof. -/
import Derived.Test.YtippeibeiofmnaaDoorGr6
import Derived.Test.YtippeibeiofmnaaDoorP12b
import Derived.Test.YtippeibeiofmnaaDoorJ4
set_option linter.unusedVariables false
set_option linter.unusedSimpArgs false
set_option linter.unusedSectionVars false
set_option linter.deprecated false
namespace Go.Ab
open Go.Proofs
set_option maxRecDepth 100000
set_option maxHeartbeats 1000000
theorem dec_enc {r : Int} (h : point r = true) (t : List UInt8) : dec (encR r ++ t) = (r, ((encR r).length : Int)) := by
 have hp := h
 rw [point_t] at h
 by_cases h1 : r < 128
 ·have he : encR r = [ib r] := by unfold encR; rw [if_pos h1]
  have b0 : ((nth (encR r ++ t) 0).toNat : Int) = r := by rw [he]; exact ib_nat (by omega)
  have hl : longR (nth (encR r ++ t) 0).toNat = (((1 : Nat) : Int), r) := by rw [b0]; unfold longR; rw [if_pos h1]; rfl
  have hv : decV (encR r ++ t) 1 = r := b0
  rw [dec_of hl (by omega), hv, if_pos ⟨by simp [he], by simp [conts], hp, by simp [he]⟩]; simp [he]
 by_cases h2 : r < 2048
 ·have he : encR r = [ib (192 + r / 64), ib (128 + r % 64)] := by unfold encR; rw [if_neg h1, if_pos h2]
  have b0 : ((nth (encR r ++ t) 0).toNat : Int) = 192 + r / 64 := by rw [he]; exact ib_nat (by omega)
  have b1 : ((nth (encR r ++ t) 1).toNat : Int) = 128 + r % 64 := by rw [he]; exact ib_nat (by omega)
  have hl : longR (nth (encR r ++ t) 0).toNat = (((2 : Nat) : Int), r / 64) := by rw [b0]; unfold longR; rw [if_neg (by omega), if_pos (by omega)]; simp; omega
  have hv : decV (encR r ++ t) 2 = r := by
   show ((nth (encR r ++ t) 0).toNat - 192) * 64 + (nth (encR r ++ t) 1).toNat - 128 = r
   omega
  rw [dec_of hl (by omega), hv, if_pos ⟨by simp [he], by simp only [conts]; omega, hp, by simp [he]⟩]; simp [he]
 by_cases h3 : r < 65536
 ·have he : encR r = [ib (224 + r / 4096), ib (128 + r / 64 % 64), ib (128 + r % 64)] := by unfold encR; rw [if_neg h1, if_neg h2, if_pos h3]
  have b0 : ((nth (encR r ++ t) 0).toNat : Int) = 224 + r / 4096 := by rw [he]; exact ib_nat (by omega)
  have b1 : ((nth (encR r ++ t) 1).toNat : Int) = 128 + r / 64 % 64 := by rw [he]; exact ib_nat (by omega)
  have b2 : ((nth (encR r ++ t) 2).toNat : Int) = 128 + r % 64 := by rw [he]; exact ib_nat (by omega)
  have hl : longR (nth (encR r ++ t) 0).toNat = (((3 : Nat) : Int), r / 4096) := by rw [b0]; unfold longR; rw [if_neg (by omega), if_neg (by omega), if_pos (by omega)]; simp; omega
  have hv : decV (encR r ++ t) 3 = r := by
   show (((nth (encR r ++ t) 0).toNat - 224) * 64 + (nth (encR r ++ t) 1).toNat - 128) * 64 + (nth (encR r ++ t) 2).toNat - 128 = r
   omega
  rw [dec_of hl (by omega), hv, if_pos ⟨by simp [he], by simp only [conts]; omega, hp, by simp [he]⟩]; simp [he]
 ·have he : encR r = [ib (240 + r / 262144), ib (128 + r / 4096 % 64), ib (128 + r / 64 % 64), ib (128 + r % 64)] := by unfold encR; rw [if_neg h1, if_neg h2, if_neg h3]
  have b0 : ((nth (encR r ++ t) 0).toNat : Int) = 240 + r / 262144 := by rw [he]; exact ib_nat (by omega)
  have b1 : ((nth (encR r ++ t) 1).toNat : Int) = 128 + r / 4096 % 64 := by rw [he]; exact ib_nat (by omega)
  have b2 : ((nth (encR r ++ t) 2).toNat : Int) = 128 + r / 64 % 64 := by rw [he]; exact ib_nat (by omega)
  have b3 : ((nth (encR r ++ t) 3).toNat : Int) = 128 + r % 64 := by rw [he]; exact ib_nat (by omega)
  have hl : longR (nth (encR r ++ t) 0).toNat = (((4 : Nat) : Int), r / 262144) := by rw [b0]; unfold longR; rw [if_neg (by omega), if_neg (by omega), if_neg (by omega), if_pos (by omega)]; simp; omega
  have hv : decV (encR r ++ t) 4 = r := by
   show ((((nth (encR r ++ t) 0).toNat - 240) * 64 + (nth (encR r ++ t) 1).toNat - 128) * 64 + (nth (encR r ++ t) 2).toNat - 128) * 64 + (nth (encR r ++ t) 3).toNat - 128 = r
   omega
  rw [dec_of hl (by omega), hv, if_pos ⟨by simp [he], by simp only [conts]; omega, hp, by simp [he]⟩]; simp [he]
theorem encR_cont {r : Int} (h : point r = true) {i : Nat} (h1 : 1 ≤ i) (h2 : i < (encR r).length) : 128 ≤ (nth (encR r) i).toNat ∧ (nth (encR r) i).toNat < 192 := by
 rw [point_t] at h
 have key : ∀ x : Int, 128 ≤ x ∧ x < 192 → 128 ≤ (ib x).toNat ∧ (ib x).toNat < 192 := fun x hx => by
  have := ib_nat (n := x) (by omega); omega
 revert h2
 unfold encR
 split
 ·simp; omega
 ·split
  ·intro h2
   simp at h2
   have : i = 1 := by omega
   subst this
   exact key _ (by omega)
  ·split
   ·intro h2
    simp at h2
    have : i = 1 ∨ i = 2 := by omega
    rcases this with rfl | rfl <;> exact key _ (by omega)
   ·intro h2
    simp at h2
    have : i = 1 ∨ i = 2 ∨ i = 3 := by omega
    rcases this with rfl | rfl | rfl <;> exact key _ (by omega)
theorem runes_app : ∀ (l : List Int) (t : List UInt8), l.all point = true → runes (encAll l ++ t) = (runes t).map (l ++ ·)
 | [], t, _ => by simp
 | r :: l, t, h => by
  simp only [List.all_cons, Bool.and_eq_true] at h
  have hl := encR_len r
  have hd := dec_enc h.1 (encAll l ++ t)
  rw [encAll_cons, List.append_assoc, runes_step (by simp; omega) (by rw [hd]; simp), hd]
  simp only [Int.toNat_natCast, List.drop_left]
  rw [runes_app l t h.2]
  simp [Function.comp_def]
theorem runes_encAll {l : List Int} (h : l.all point = true) : runes (encAll l) = some l := by
 have := runes_app l [] h
 rw [List.append_nil, runes_nil] at this
 simpa using this
theorem encAll_inj {a b : List Int} (ha : a.all point = true) (hb : b.all point = true) (h : encAll a = encAll b) : a = b := by
 have h1 := runes_encAll ha
 rw [h, runes_encAll hb] at h1
 simpa using h1.symm
theorem runes_append {a b : List UInt8} {x : List Int} (h : runes a = some x) : runes (a ++ b) = (runes b).map (x ++ ·) := by
 obtain ⟨h1, h2⟩ := runes_enc' h
 conv => lhs; rw [← h1]
 exact runes_app x b h2
theorem dec_cont {s : List UInt8} (h : 128 ≤ (nth s 0).toNat ∧ (nth s 0).toNat < 192) : dec s = (0, 0) := dec0 (.inl (by omega))
theorem runes_cut : ∀ (z : List Int) (a b : List UInt8), encAll z = a ++ b → z.all point = true → (runes b).isSome = true → (runes a).isSome = true
 | [], a, b, h, _, _ => by
  have : a = [] := by
   have := congrArg List.length h
   simp at this
   exact List.eq_nil_of_length_eq_zero (by omega)
  subst this; simp [runes_nil]
 | r :: z, a, b, h, hz, hb => by
  simp only [List.all_cons, Bool.and_eq_true] at hz
  by_cases ha : a = []
  ·subst ha; simp [runes_nil]
  rw [encAll_cons] at h
  rcases List.append_eq_append_iff.1 h with ⟨a', h1, h2⟩ | ⟨b', h1, h2⟩
  ·have ih := runes_cut z a' b h2 hz.2 hb
   obtain ⟨x, hx⟩ := Option.isSome_iff_exists.1 ih
   have hr : runes (encR r) = some [r] := by
    have := runes_encAll (l := [r]) (by simp [hz.1])
    simpa using this
   rw [h1, runes_append hr, hx]; rfl
  ·by_cases hb' : b' = []
   ·subst hb'
    rw [List.append_nil] at h1
    have hr : runes (encR r) = some [r] := by
     have := runes_encAll (l := [r]) (by simp [hz.1])
     simpa using this
    rw [← h1, hr]; rfl
   ·exfalso
    have hlen := congrArg List.length h1
    rw [List.length_append] at hlen
    have hal := List.length_pos_iff.2 ha
    have hbl := List.length_pos_iff.2 hb'
    have hn : nth b 0 = nth (encR r) a.length := by
     rw [h2, h1, nth_append_left hbl, nth_append_right (Nat.le_refl _), Nat.sub_self]
    have hc := encR_cont hz.1 (i := a.length) (by omega) (by omega)
    rw [← hn] at hc
    have hd := dec_cont hc
    have hne : 0 < b.length := by rw [h2]; simp; omega
    rw [runes_bad hne (by rw [hd])] at hb
    cases hb
theorem splitW_nonempty : ∀ (l w p : List Int), p ∈ splitW w l → p ≠ []
 | [], w, p, h => by
  unfold splitW at h
  split at h
  ·cases h
  ·rename_i hw; simp only [List.mem_singleton] at h; subst h; exact hw
 | c :: l, w, p, h => by
  unfold splitW at h
  split at h
  ·split at h
   ·exact splitW_nonempty l [] p h
   ·rename_i hw
    rcases List.mem_cons.1 h with rfl | h
    ·exact hw
    ·exact splitW_nonempty l [] p h
  ·exact splitW_nonempty l _ p h
theorem splitW_nospace : ∀ (l w p : List Int), (∀ x ∈ w, spaceR x = false) → p ∈ splitW w l → ∀ x ∈ p, spaceR x = false
 | [], w, p, hw, h => by
  unfold splitW at h
  split at h
  ·cases h
  ·simp only [List.mem_singleton] at h; subst h; exact hw
 | c :: l, w, p, hw, h => by
  unfold splitW at h
  split at h
  ·split at h
   ·exact splitW_nospace l [] p (by simp) h
   ·rcases List.mem_cons.1 h with rfl | h
    ·exact hw
    ·exact splitW_nospace l [] p (by simp) h
  ·rename_i hc
   refine splitW_nospace l _ p (fun x hx => ?_) h
   rcases List.mem_append.1 hx with hx | hx
   ·exact hw x hx
   ·simp only [List.mem_singleton] at hx; subst hx; simpa using hc
theorem splitW_point : ∀ (l w p : List Int), w.all point = true → l.all point = true → p ∈ splitW w l → p.all point = true
 | [], w, p, hw, _, h => by
  unfold splitW at h
  split at h
  ·cases h
  ·simp only [List.mem_singleton] at h; subst h; exact hw
 | c :: l, w, p, hw, hl, h => by
  simp only [List.all_cons, Bool.and_eq_true] at hl
  unfold splitW at h
  split at h
  ·split at h
   ·exact splitW_point l [] p (by simp) hl.2 h
   ·rcases List.mem_cons.1 h with rfl | h
    ·exact hw
    ·exact splitW_point l [] p (by simp) hl.2 h
  ·exact splitW_point l _ p (by simp [hw, hl.1]) hl.2 h
theorem splitW_sum : ∀ (l w : List Int), ((splitW w l).map fun p => (encAll p).length).sum ≤ (encAll w).length + (encAll l).length
 | [], w => by
  unfold splitW
  split <;> simp
 | c :: l, w => by
  have h1 := splitW_sum l []
  have h2 := splitW_sum l (w ++ [c])
  simp at h1 h2
  unfold splitW
  split
  ·split <;> simp <;> omega
  ·simp; omega
theorem splitW_word : ∀ (p w l : List Int), (∀ x ∈ p, spaceR x = false) → splitW w (p ++ l) = splitW (w ++ p) l
 | [], w, l, _ => by simp
 | c :: p, w, l, h => by
  have hc := h c (by simp)
  show (if spaceR c then _ else splitW (w ++ [c]) (p ++ l)) = _
  rw [hc]
  simp only [Bool.false_eq_true, if_false]
  rw [splitW_word p _ l (fun x hx => h x (List.mem_cons_of_mem _ hx)), List.append_assoc]; rfl
theorem splitW_gap0 : ∀ (g l : List Int), (∀ x ∈ g, spaceR x = true) → splitW [] (g ++ l) = splitW [] l
 | [], l, _ => by simp
 | c :: g, l, h => by
  have hc := h c (by simp)
  show (if spaceR c then (if ([] : List Int) = [] then splitW [] (g ++ l) else _) else _) = _
  rw [hc, if_pos rfl, if_pos rfl]
  exact splitW_gap0 g l (fun x hx => h x (List.mem_cons_of_mem _ hx))
theorem splitW_gap {w g : List Int} (l : List Int) (hw : w ≠ []) (hg : g ≠ []) (h : ∀ x ∈ g, spaceR x = true) : splitW w (g ++ l) = w :: splitW [] l := by
 cases g with
 | nil => exact absurd rfl hg
 | cons c g =>
  have hc := h c (by simp)
  show (if spaceR c then (if w = [] then _ else w :: splitW [] (g ++ l)) else _) = _
  rw [hc, if_pos rfl, if_neg hw, splitW_gap0 g l (fun x hx => h x (List.mem_cons_of_mem _ hx))]
theorem splitW_one {w : List Int} (hw : w ≠ []) (h : ∀ x ∈ w, spaceR x = false) : splitW [] w = [w] := by
 have := splitW_word w [] [] h
 rw [List.append_nil, List.nil_append] at this
 rw [this]; unfold splitW; rw [if_neg hw]
theorem join_of_runes {s : List UInt8} (h : (runesG s).2 = 0) : joinG (runesG s).1 = (s, 0) := by
 obtain ⟨h1, h2⟩ := runesG_all h
 obtain ⟨h3, h4⟩ := runes_enc' h2
 rw [joinG_part h4 (by rw [h3]; exact h1), h3]
theorem runesG_bad {s : List UInt8} (h : ¬ (runesG s).2 = 0) : (runesG s).1 = [] := by
 unfold runesG at h ⊢
 split
 ·rfl
 ·rename_i h1
  rw [if_neg h1] at h
  cases hr : runes s with
  | none => rfl
  | some l => rw [hr] at h; simp at h
theorem joinG_bad {l : List Int} (h : ¬ (joinG l).2 = 0) : (joinG l).1 = [] := by
 unfold joinG at h ⊢
 split
 ·split
  ·rfl
  ·rename_i h1 h2; rw [if_pos h1, if_neg h2] at h; simp at h
 ·rfl
theorem joinG_all {l : List Int} (h : (joinG l).2 = 0) : l.all point = true ∧ (encAll l).length ≤ 4096 ∧ (joinG l).1 = encAll l := by
 unfold joinG at h ⊢
 split
 ·rename_i h1
  split
  ·rename_i h2; rw [if_pos h1, if_pos h2] at h; simp at h
  ·exact ⟨h1, by omega, rfl⟩
 ·rename_i h1; rw [if_neg h1] at h; simp at h
theorem runes_of_join {l : List Int} (h : (joinG l).2 = 0) : runesG (joinG l).1 = (l, 0) := by
 obtain ⟨h1, h2, h3⟩ := joinG_all h
 rw [h3]
 exact runesG_some h2 (runes_encAll h1)
theorem splitW_len : ∀ (l w : List Int), (splitW w l).length ≤ l.length + 1
 | [], w => by unfold splitW; split <;> simp
 | c :: r, w => by
  have h1 := splitW_len r []
  have h2 := splitW_len r (w ++ [c])
  unfold splitW
  split
  ·split <;> simp <;> omega
  ·simp; omega
theorem sum_le_mem {α : Type} {f : α → Nat} {l : List α} {x : α} (h : x ∈ l) : f x ≤ (l.map f).sum := by
 induction l with
 | nil => cases h
 | cons y l ih =>
  simp only [List.map_cons, List.sum_cons]
  rcases List.mem_cons.1 h with rfl | h
  ·omega
  ·have := ih h; omega
end Go.Ab
namespace Go.Ab
open Go.Proofs
set_option maxRecDepth 100000
def textZ (t : List Sgn) (l : List Nat) : Wd := l.flatMap fun k => (nth t k).text
theorem textZ_cons (t : List Sgn) (k : Nat) (l : List Nat) : textZ t (k :: l) = (nth t k).text ++ textZ t l := rfl
theorem cellsZ_cons (t : List Sgn) (k : Nat) (l : List Nat) : cellsZ t (k :: l) = (nth t k).cells ++ cellsZ t l := rfl
theorem textZ_app (t : List Sgn) (a b : List Nat) : textZ t (a ++ b) = textZ t a ++ textZ t b := by simp [textZ]
theorem cellsZ_app (t : List Sgn) (a b : List Nat) : cellsZ t (a ++ b) = cellsZ t a ++ cellsZ t b := by simp [cellsZ]
theorem preZ_iff {p s : Wd} : preZ p s = true ↔ p <+: s := by simp [preZ]
theorem drop_after {s x y : Wd} {i : Nat} (h : x ++ y <+: s.drop i) : y <+: s.drop (i + x.length) := by
 obtain ⟨r, hr⟩ := h
 refine ⟨r, ?_⟩
 rw [← List.drop_drop, ← hr, List.append_assoc, List.drop_left]
theorem tab_pos {t : List Sgn} (hc : checkZ t = 0) : ∀ j, j < t.length → 0 < lenZ t j := fun j hj => by
 obtain ⟨c1, c2, c3⟩ := checkZ_zero hc
 obtain ⟨⟨e1, e2, _⟩, _⟩ := sgnAt_of (c3 j hj)
 obtain ⟨_, e4⟩ := runesG_all e1
 have := runes_len _ _ _ (Nat.le_refl _) e4
 show 0 < (nth t j).text.length
 omega
theorem tab_cells {t : List Sgn} (hc : checkZ t = 0) : ∀ j, j < t.length → 1 ≤ cellZ t j ∧ cellZ t j ≤ 4 := fun j hj => by
 obtain ⟨c1, c2, c3⟩ := checkZ_zero hc
 obtain ⟨⟨_, _, _, e4, e5⟩, _⟩ := sgnAt_of (c3 j hj)
 exact ⟨e4, e5⟩
theorem runes_lenG : ∀ (n : Nat) (s : List UInt8) (l : List Int), s.length ≤ n → runes s = some l → s.length ≤ 4 * l.length := fun n s l _ h => by
 obtain ⟨e1, _⟩ := runes_enc' h
 have := (encAll_len l).2
 rw [e1] at this
 exact this
theorem tab_text {t : List Sgn} (hc : checkZ t = 0) : ∀ x ∈ t, x.text.length ≤ 64 := fun x hx => by
 obtain ⟨c1, c2, c3⟩ := checkZ_zero hc
 obtain ⟨j, hj, rfl⟩ := List.mem_iff_getElem.1 hx
 obtain ⟨⟨e1, _, e3, _⟩, _⟩ := sgnAt_of (c3 j hj)
 rw [nth_eq hj] at e1 e3
 obtain ⟨_, hr⟩ := runesG_all e1
 have := runes_lenG _ _ _ (Nat.le_refl _) hr
 omega
theorem least_path {t : List Sgn} {s : Wd} (h0 : ∀ j, j < t.length → 0 < lenZ t j) : ∀ (l : List Nat) (i : Nat), (∀ k ∈ l, k < t.length) → textZ t l <+: s.drop i →
  nth (leastL t s) i ≤ ((cellsZ t l).length : Int) + nth (leastL t s) (i + (textZ t l).length)
 | [], i, _, _ => by simp [cellsZ, textZ]
 | k :: l, i, hk, hp => by
  have hkt := hk k List.mem_cons_self
  rw [textZ_cons] at hp
  have h1 : (nth t k).text <+: s.drop i := (List.prefix_append _ _).trans hp
  have h3 := drop_after hp
  have ih := least_path h0 l (i + (nth t k).text.length) (fun x hx => hk x (List.mem_cons_of_mem _ hx)) h3
  have hl := h1.length_le
  rw [List.length_drop] at hl
  have hpos : 0 < (nth t k).text.length := h0 k hkt
  have ha := least_at (t := t) (s := s) h0 (i := i) (by omega)
  have hb : _ ≤ ((nth t k).cells.length : Int) + nth (leastL t s) (i + (nth t k).text.length) := bestZ_min (t := t) (s := s) (L := leastL t s) (i := i) t.length k hkt (preZ_iff.2 h1)
  rw [textZ_cons, cellsZ_cons, List.length_append, List.length_append, ← Nat.add_assoc]
  omega
theorem path_all {t : List Sgn} {s : Wd} (h0 : ∀ j, j < t.length → 0 < lenZ t j) : ∀ (f i : Nat), s.length ≤ i + f → i ≤ s.length → nth (leastL t s) i < neverZ →
  (∀ k ∈ pathZ t s f i, k < t.length) ∧ textZ t (pathZ t s f i) = s.drop i ∧ ((cellsZ t (pathZ t s f i)).length : Int) = nth (leastL t s) i
 | 0, i, hf, hi, _ => by
  obtain rfl : i = s.length := by omega
  exact ⟨fun k hk => (by cases hk), (by rw [List.drop_length]; rfl), (by rw [least_end]; rfl)⟩
 | f + 1, i, hf, hi, hn => by
  rw [pathZ]
  by_cases h : i < s.length
  ·rw [if_pos h]
   obtain ⟨p1, p2, p3, p4, p5, p6⟩ := path_step h0 h hn
   obtain ⟨q1, q2, q3⟩ := path_all h0 f _ (by omega) p2 p5
   generalize firstZ t s i = k at *
   refine ⟨fun x hx => ?_, ?_, ?_⟩
   ·rcases List.mem_cons.1 hx with rfl | hx
    ·exact p1
    ·exact q1 x hx
   ·rw [textZ_cons, q2]
    obtain ⟨r, hr⟩ := preZ_iff.1 p6
    rw [← List.drop_drop, ← hr]
    show _ ++ List.drop (nth t k).text.length _ = _
    rw [List.drop_left]
   ·rw [cellsZ_cons, List.length_append, p4]
    show (((nth t k).cells.length + _ : Nat) : Int) = ((nth t k).cells.length : Int) + _
    rw [← q3]; omega
  ·rw [if_neg h]
   obtain rfl : i = s.length := by omega
   exact ⟨fun k hk => (by cases hk), (by rw [List.drop_length]; rfl), (by rw [least_end]; rfl)⟩
theorem cellsZ_le {t : List Sgn} (hc : checkZ t = 0) : ∀ l : List Nat, (∀ k ∈ l, k < t.length) → (cellsZ t l).length ≤ 4 * l.length
 | [], _ => Nat.le_refl _
 | k :: l, h => by
  have := cellsZ_le hc l (fun x hx => h x (List.mem_cons_of_mem _ hx))
  have h1 := (tab_cells hc k (h k List.mem_cons_self)).2
  unfold cellZ at h1
  rw [cellsZ_cons, List.length_append, List.length_cons]; omega
theorem textZ_ge {t : List Sgn} (hc : checkZ t = 0) : ∀ l : List Nat, (∀ k ∈ l, k < t.length) → l.length ≤ (textZ t l).length
 | [], _ => Nat.le_refl _
 | k :: l, h => by
  have := textZ_ge hc l (fun x hx => h x (List.mem_cons_of_mem _ hx))
  have h1 := tab_pos hc k (h k List.mem_cons_self)
  unfold lenZ at h1
  rw [textZ_cons, List.length_append, List.length_cons]; omega
def Said (t : List Sgn) (s : Wd) (l : List Nat) : Prop := (∀ k ∈ l, k < t.length) ∧ textZ t l = s
theorem Said.app {t : List Sgn} {a b : Wd} {x y : List Nat} (hx : Said t a x) (hy : Said t b y) : Said t (a ++ b) (x ++ y) :=
 ⟨fun k hk => (List.mem_append.1 hk).elim (hx.1 k) (hy.1 k), by rw [textZ_app, hx.2, hy.2]⟩
theorem least_le {t : List Sgn} {s : Wd} {l : List Nat} (hc : checkZ t = 0) (h : Said t s l) : nth (leastL t s) 0 ≤ ((cellsZ t l).length : Int) := by
 have := least_path (t := t) (s := s) (tab_pos hc) l 0 h.1 (by rw [h.2]; exact List.prefix_refl _)
 rw [h.2, Nat.zero_add, least_end] at this
 omega
theorem said_of {t : List Sgn} {s : Wd} (hc : checkZ t = 0) (hn : nth (leastL t s) 0 < neverZ) : Said t s (pathZ t s s.length 0) ∧ ((cellsZ t (pathZ t s s.length 0)).length : Int) = nth (leastL t s) 0 := by
 obtain ⟨h1, h2, h3⟩ := path_all (t := t) (s := s) (tab_pos hc) s.length 0 (by omega) (by omega) hn
 exact ⟨⟨h1, h2⟩, h3⟩
theorem least_small {t : List Sgn} {s : Wd} (hc : checkZ t = 0) (hn : nth (leastL t s) 0 < neverZ) : nth (leastL t s) 0 ≤ 4 * (s.length : Int) := by
 obtain ⟨⟨h1, h2⟩, h3⟩ := said_of hc hn
 have a1 := cellsZ_le hc _ h1
 have a2 := textZ_ge hc _ h1
 rw [h2] at a2
 omega
theorem encode_of {t : List Sgn} {s : Wd} (hc : checkZ t = 0) (he : (runesG s).2 = 0) (hl : s.length ≤ 1024) (hn : nth (leastL t s) 0 < neverZ) :
  encodeZ t s = ((pathZ t s s.length 0).map (fun (k : Nat) => (k : Int)), cellsZ t (pathZ t s s.length 0), true, 0) := by
 have := least_small hc hn
 unfold encodeZ
 rw [if_neg (by simp [hc]), if_neg (by simp [he]), if_neg (by omega), if_neg (by omega)]
 rfl
theorem encode_no {t : List Sgn} {s : Wd} (hc : checkZ t = 0) (he : (runesG s).2 = 0) (hn : ¬ nth (leastL t s) 0 < neverZ) : encodeZ t s = ([], [], false, 0) := by
 unfold encodeZ
 rw [if_neg (by simp [hc]), if_neg (by simp [he]), if_pos (by omega)]
theorem textZ_runes {t : List Sgn} (hc : checkZ t = 0) : ∀ l : List Nat, (∀ k ∈ l, k < t.length) → ∃ x, runes (textZ t l) = some x
 | [], _ => ⟨[], by simp [textZ, runes]⟩
 | k :: l, h => by
  obtain ⟨x, hx⟩ := textZ_runes hc l (fun x hx => h x (List.mem_cons_of_mem _ hx))
  obtain ⟨c1, c2, c3⟩ := checkZ_zero hc
  obtain ⟨⟨e1, _⟩, _⟩ := sgnAt_of (c3 k (h k List.mem_cons_self))
  obtain ⟨_, hr⟩ := runesG_all e1
  exact ⟨(runesG (nth t k).text).1 ++ x, by rw [textZ_cons, runes_append hr, hx]; rfl⟩
theorem path_first {t : List Sgn} {s : Wd} (h0 : ∀ j, j < t.length → 0 < lenZ t j) (h1 : ∀ j, j < t.length → 1 ≤ cellZ t j) : ∀ (l : List Nat) (f i : Nat), s.length ≤ i + f → i ≤ s.length → nth (leastL t s) i < neverZ → (∀ k ∈ l, k < t.length) → textZ t l = s.drop i →
  ((cellsZ t l).length : Int) = nth (leastL t s) i → befZ (l.map fun (k : Nat) => (k : Int)) ((pathZ t s f i).map fun (k : Nat) => (k : Int)) = false
 | [], f, i, hf, hi, hn, _, ht, _ => by
  have hl := congrArg List.length ht
  rw [List.length_drop] at hl
  have : ¬ i < s.length := by simp [textZ] at hl; omega
  have hp : pathZ t s f i = [] := by
   cases f with
   | zero => rfl
   | succ f => rw [pathZ, if_neg this]
  rw [hp]; rfl
 | k :: l, f, i, hf, hi, hn, hk, ht, hc => by
  have hkt := hk k List.mem_cons_self
  have hk2 : ∀ x ∈ l, x < t.length := fun x hx => hk x (List.mem_cons_of_mem _ hx)
  rw [textZ_cons] at ht
  have hpre : (nth t k).text <+: s.drop i := ⟨_, ht⟩
  have hpos : 0 < (nth t k).text.length := h0 k hkt
  have hl := hpre.length_le
  rw [List.length_drop] at hl
  have h3 : textZ t l = s.drop (i + (nth t k).text.length) := by rw [← List.drop_drop, ← ht, List.drop_left]
  have hil : i < s.length := by omega
  obtain ⟨f, rfl⟩ : ∃ g, f = g + 1 := ⟨f - 1, by omega⟩
  obtain ⟨p1, p2, p3, p4, p5, p6⟩ := path_step h0 hil hn
  have ha := least_at (t := t) (s := s) h0 hil
  have hb : _ ≤ ((nth t k).cells.length : Int) + nth (leastL t s) (i + (nth t k).text.length) := bestZ_min (t := t) (s := s) (L := leastL t s) (i := i) t.length k hkt (preZ_iff.2 hpre)
  have hq := least_path (t := t) (s := s) h0 l (i + (nth t k).text.length) hk2 (by rw [h3]; exact List.prefix_refl _)
  rw [h3, List.length_drop, show i + (nth t k).text.length + (s.length - (i + (nth t k).text.length)) = s.length by omega, least_end] at hq
  rw [cellsZ_cons, List.length_append] at hc
  have hle : ¬ k < firstZ t s i := by
   intro hlt
   rcases bestZ_spec (t := t) (s := s) (L := leastL t s) (i := i) t.length with h | ⟨_, _, _, _, h5⟩
   ·rw [h] at ha; simp only at ha; omega
   ·have : _ < ((nth t k).cells.length : Int) + nth (leastL t s) (i + (nth t k).text.length) := h5 k hlt (preZ_iff.2 hpre)
    omega
  rw [pathZ, if_pos hil]
  simp only [List.map_cons, befZ]
  by_cases hkf : k = firstZ t s i
  ·subst hkf
   rw [if_pos rfl]
   refine path_first h0 h1 l f _ (by omega) p2 p5 hk2 h3 ?_
   have e : nth (leastL t s) i = ((nth t (firstZ t s i)).cells.length : Int) + nth (leastL t s) (i + (nth t (firstZ t s i)).text.length) := p4
   show _ = nth (leastL t s) (i + (nth t (firstZ t s i)).text.length)
   omega
  ·rw [if_neg (by omega), decide_eq_false_iff_not]
   omega
end Go.Ab
namespace Go.Ab
open Go.Proofs
set_option maxRecDepth 100000
set_option maxHeartbeats 4000000
theorem C23 (t : List Sgn) (l : List Nat) (hs : smZs t) (hl : (∀ k ∈ l, k < t.length) ∧ l.length < 1048576 ∧ ∀ x ∈ t, x.text.length ≤ 64) : Kc cfg 23 [R fl0 eZ t, R fl0 eI (l.map fun (k : Nat) => (k : Int))] (.ret (.str (textZ t l))) := by
 have hs1 := hs.1
 obtain ⟨hl1, hl2, hl3⟩ := hl
 have hlm : (l.map fun (k : Nat) => (k : Int)).length = l.length := by simp
 refine outS_of_wp cfg (fn := Tryd.f23) Tryd.func23 rfl (by simp [Tryd.f23]) ?_
 simp (disch := first | assumption | omega | (simp; done) | (simp; omega)) [-getElem?_pos, gZ, gS, Tryd.f23, hlm]
 repeat' (first | ((first | refine wpc_split _ ?_ ?_ | refine ww_split _ ?_ ?_) <;> intro hc <;> try simp at hc) | (refine wp_drawF (by kernel_rfl) ?_) | refine wk_yldW _ ?_ | refine layOwe _ (by kernel_rfl) ?_ | refine owe ?_ (fun ho => ?_) | (simp (disch := first | assumption | omega | (simp; done) | (simp; omega)) [hlm, -getElem?_pos, gZ, gS]))
 refine wp_loopE cfg rfl (fun f0 h0 m fr h => ∃ i : Nat, fr 0 = f0 0 ∧ fr 1 = f0 1 ∧ fr 6 = .int .i64 i ∧ fr 5 = .str (textZ t (l.take i)) ∧ (i + m = l.length) ∧ ((textZ t (l.take i)).length ≤ 64 * i)) (l.length) _ _ ⟨0, rfl, rfl, by first | rfl | (simp; done) | (simp [R]; done) | simp [R], by simp [textZ], by first | rfl | (simp; done) | omega, Nat.zero_le _⟩ ?_
 rintro Am Af Ah ⟨i, A0, A1, A6, A5, hm, hc⟩ Aih
 try simp at A0 A1
 by_cases hi : i < l.length
 ·have hk := hl1 _ (nth_mem hi)
  have hn : nth (l.map fun (k : Nat) => (k : Int)) i = ((nth l i : Nat) : Int) := by
   rw [nth_eq (by simpa using hi), nth_eq hi]; simp
  have hcx := hl3 _ (nth_mem hk)
  have hst : textZ t (l.take (i + 1)) = textZ t (l.take i) ++ (nth t (nth l i)).text := by rw [nth_take hi]; simp [textZ]
  have hc3 : (textZ t (l.take (i + 1))).length ≤ 64 * (i + 1) := by rw [hst, List.length_append]; omega
  repeat' (first | ((first | refine wpc_split _ ?_ ?_ | refine ww_split _ ?_ ?_) <;> intro hc <;> try simp at hc) | (refine wp_drawF (by kernel_rfl) ?_) | refine wk_yldW _ ?_ | refine layOwe _ (by kernel_rfl) ?_ | refine owe ?_ (fun ho => ?_) | (simp (disch := first | assumption | omega | (simp; done) | (simp; omega)) [A0, A1, A6, A5, hlm, hi, hn, hk, eI, -getElem?_pos, gZ, gS]))
  all_goals try (exfalso; omega)
  exact Aih (Am - 1) _ _ (by omega) ⟨i + 1, by simp [A0, A1, A6, A5, hst], by simp [A0, A1, A6, A5, hst], by simp [A0, A1, A6, A5, hst], by simp [A0, A1, A6, A5, hst], by omega, hc3⟩
 ·have h1 : l.take i = l := List.take_of_length_le (by omega)
  rw [h1] at A5
  repeat' (first | ((first | refine wpc_split _ ?_ ?_ | refine ww_split _ ?_ ?_) <;> intro hc <;> try simp at hc) | (refine wp_drawF (by kernel_rfl) ?_) | refine wk_yldW _ ?_ | refine layOwe _ (by kernel_rfl) ?_ | refine owe ?_ (fun ho => ?_) | (simp (disch := first | assumption | omega | (simp; done) | (simp; omega)) [A0, A1, A6, A5, hlm, -getElem?_pos, gZ, gS]))
@[simp] theorem S23 (t : List Sgn) (l : List Nat) (hs : smZs t) (hl : (∀ k ∈ l, k < t.length) ∧ l.length < 1048576 ∧ ∀ x ∈ t, x.text.length ≤ 64) (q1 q2 : Fl) (hh : Heap) : Ci cfg (.func (.func 23) [] []) [R  q1 eZ t, R  q2 eI (l.map fun (k : Nat) => (k : Int))] hh = some (.ret (.str (textZ t l)), hh) :=
 Ci_K cfg rfl rfl (by simp) (by simp) (C23 t l hs hl)
end Go.Ab
