/- A part of the proof. -/
import Derived.Test.YtippeibeiofmnaaDoorGr6
import Derived.Test.YtippeibeiofmnaaDoorP12b
set_option linter.unusedVariables false
set_option linter.unusedSimpArgs false
set_option linter.unusedSectionVars false
set_option linter.deprecated false
namespace Go.Ab
open Go.Proofs
set_option maxRecDepth 100000
set_option maxHeartbeats 1000000
theorem dec_enc {r : Int} (h : point r = true) (t : List UInt8) : dec (encR r ++ t) = (r, ((encR r).length : Int)) := by
 have hp := h
 rw [point_t] at h
 by_cases h1 : r < 128
 ·have he : encR r = [ib r] := by unfold encR; rw [if_pos h1]
  have b0 : ((nth (encR r ++ t) 0).toNat : Int) = r := by rw [he]; exact ib_nat (by omega)
  have hl : longR (nth (encR r ++ t) 0).toNat = (((1 : Nat) : Int), r) := by rw [b0]; unfold longR; rw [if_pos h1]; rfl
  have hv : decV (encR r ++ t) 1 = r := b0
  rw [dec_of hl (by omega), hv, if_pos ⟨by simp [he], by simp [conts], hp, by simp [he]⟩]; simp [he]
 by_cases h2 : r < 2048
 ·have he : encR r = [ib (192 + r / 64), ib (128 + r % 64)] := by unfold encR; rw [if_neg h1, if_pos h2]
  have b0 : ((nth (encR r ++ t) 0).toNat : Int) = 192 + r / 64 := by rw [he]; exact ib_nat (by omega)
  have b1 : ((nth (encR r ++ t) 1).toNat : Int) = 128 + r % 64 := by rw [he]; exact ib_nat (by omega)
  have hl : longR (nth (encR r ++ t) 0).toNat = (((2 : Nat) : Int), r / 64) := by rw [b0]; unfold longR; rw [if_neg (by omega), if_pos (by omega)]; simp; omega
  have hv : decV (encR r ++ t) 2 = r := by
   show ((nth (encR r ++ t) 0).toNat - 192) * 64 + (nth (encR r ++ t) 1).toNat - 128 = r
   omega
  rw [dec_of hl (by omega), hv, if_pos ⟨by simp [he], by simp only [conts]; omega, hp, by simp [he]⟩]; simp [he]
 by_cases h3 : r < 65536
 ·have he : encR r = [ib (224 + r / 4096), ib (128 + r / 64 % 64), ib (128 + r % 64)] := by unfold encR; rw [if_neg h1, if_neg h2, if_pos h3]
  have b0 : ((nth (encR r ++ t) 0).toNat : Int) = 224 + r / 4096 := by rw [he]; exact ib_nat (by omega)
  have b1 : ((nth (encR r ++ t) 1).toNat : Int) = 128 + r / 64 % 64 := by rw [he]; exact ib_nat (by omega)
  have b2 : ((nth (encR r ++ t) 2).toNat : Int) = 128 + r % 64 := by rw [he]; exact ib_nat (by omega)
  have hl : longR (nth (encR r ++ t) 0).toNat = (((3 : Nat) : Int), r / 4096) := by rw [b0]; unfold longR; rw [if_neg (by omega), if_neg (by omega), if_pos (by omega)]; simp; omega
  have hv : decV (encR r ++ t) 3 = r := by
   show (((nth (encR r ++ t) 0).toNat - 224) * 64 + (nth (encR r ++ t) 1).toNat - 128) * 64 + (nth (encR r ++ t) 2).toNat - 128 = r
   omega
  rw [dec_of hl (by omega), hv, if_pos ⟨by simp [he], by simp only [conts]; omega, hp, by simp [he]⟩]; simp [he]
 ·have he : encR r = [ib (240 + r / 262144), ib (128 + r / 4096 % 64), ib (128 + r / 64 % 64), ib (128 + r % 64)] := by unfold encR; rw [if_neg h1, if_neg h2, if_neg h3]
  have b0 : ((nth (encR r ++ t) 0).toNat : Int) = 240 + r / 262144 := by rw [he]; exact ib_nat (by omega)
  have b1 : ((nth (encR r ++ t) 1).toNat : Int) = 128 + r / 4096 % 64 := by rw [he]; exact ib_nat (by omega)
  have b2 : ((nth (encR r ++ t) 2).toNat : Int) = 128 + r / 64 % 64 := by rw [he]; exact ib_nat (by omega)
  have b3 : ((nth (encR r ++ t) 3).toNat : Int) = 128 + r % 64 := by rw [he]; exact ib_nat (by omega)
  have hl : longR (nth (encR r ++ t) 0).toNat = (((4 : Nat) : Int), r / 262144) := by rw [b0]; unfold longR; rw [if_neg (by omega), if_neg (by omega), if_neg (by omega), if_pos (by omega)]; simp; omega
  have hv : decV (encR r ++ t) 4 = r := by
   show ((((nth (encR r ++ t) 0).toNat - 240) * 64 + (nth (encR r ++ t) 1).toNat - 128) * 64 + (nth (encR r ++ t) 2).toNat - 128) * 64 + (nth (encR r ++ t) 3).toNat - 128 = r
   omega
  rw [dec_of hl (by omega), hv, if_pos ⟨by simp [he], by simp only [conts]; omega, hp, by simp [he]⟩]; simp [he]
theorem encR_cont {r : Int} (h : point r = true) {i : Nat} (h1 : 1 ≤ i) (h2 : i < (encR r).length) : 128 ≤ (nth (encR r) i).toNat ∧ (nth (encR r) i).toNat < 192 := by
 rw [point_t] at h
 have key : ∀ x : Int, 128 ≤ x ∧ x < 192 → 128 ≤ (ib x).toNat ∧ (ib x).toNat < 192 := fun x hx => by
  have := ib_nat (n := x) (by omega); omega
 revert h2
 unfold encR
 split
 ·simp; omega
 ·split
  ·intro h2
   simp at h2
   have : i = 1 := by omega
   subst this
   exact key _ (by omega)
  ·split
   ·intro h2
    simp at h2
    have : i = 1 ∨ i = 2 := by omega
    rcases this with rfl | rfl <;> exact key _ (by omega)
   ·intro h2
    simp at h2
    have : i = 1 ∨ i = 2 ∨ i = 3 := by omega
    rcases this with rfl | rfl | rfl <;> exact key _ (by omega)
theorem runes_app : ∀ (l : List Int) (t : List UInt8), l.all point = true → runes (encAll l ++ t) = (runes t).map (l ++ ·)
 | [], t, _ => by simp
 | r :: l, t, h => by
  simp only [List.all_cons, Bool.and_eq_true] at h
  have hl := encR_len r
  have hd := dec_enc h.1 (encAll l ++ t)
  rw [encAll_cons, List.append_assoc, runes_step (by simp; omega) (by rw [hd]; simp), hd]
  simp only [Int.toNat_natCast, List.drop_left]
  rw [runes_app l t h.2]
  simp [Function.comp_def]
theorem runes_encAll {l : List Int} (h : l.all point = true) : runes (encAll l) = some l := by
 have := runes_app l [] h
 rw [List.append_nil, runes_nil] at this
 simpa using this
theorem encAll_inj {a b : List Int} (ha : a.all point = true) (hb : b.all point = true) (h : encAll a = encAll b) : a = b := by
 have h1 := runes_encAll ha
 rw [h, runes_encAll hb] at h1
 simpa using h1.symm
theorem runes_append {a b : List UInt8} {x : List Int} (h : runes a = some x) : runes (a ++ b) = (runes b).map (x ++ ·) := by
 obtain ⟨h1, h2⟩ := runes_enc' h
 conv => lhs; rw [← h1]
 exact runes_app x b h2
theorem dec_cont {s : List UInt8} (h : 128 ≤ (nth s 0).toNat ∧ (nth s 0).toNat < 192) : dec s = (0, 0) := dec0 (.inl (by omega))
theorem runes_cut : ∀ (z : List Int) (a b : List UInt8), encAll z = a ++ b → z.all point = true → (runes b).isSome = true → (runes a).isSome = true
 | [], a, b, h, _, _ => by
  have : a = [] := by
   have := congrArg List.length h
   simp at this
   exact List.eq_nil_of_length_eq_zero (by omega)
  subst this; simp [runes_nil]
 | r :: z, a, b, h, hz, hb => by
  simp only [List.all_cons, Bool.and_eq_true] at hz
  by_cases ha : a = []
  ·subst ha; simp [runes_nil]
  rw [encAll_cons] at h
  rcases List.append_eq_append_iff.1 h with ⟨a', h1, h2⟩ | ⟨b', h1, h2⟩
  ·have ih := runes_cut z a' b h2 hz.2 hb
   obtain ⟨x, hx⟩ := Option.isSome_iff_exists.1 ih
   have hr : runes (encR r) = some [r] := by
    have := runes_encAll (l := [r]) (by simp [hz.1])
    simpa using this
   rw [h1, runes_append hr, hx]; rfl
  ·by_cases hb' : b' = []
   ·subst hb'
    rw [List.append_nil] at h1
    have hr : runes (encR r) = some [r] := by
     have := runes_encAll (l := [r]) (by simp [hz.1])
     simpa using this
    rw [← h1, hr]; rfl
   ·exfalso
    have hlen := congrArg List.length h1
    rw [List.length_append] at hlen
    have hal := List.length_pos_iff.2 ha
    have hbl := List.length_pos_iff.2 hb'
    have hn : nth b 0 = nth (encR r) a.length := by
     rw [h2, h1, nth_append_left hbl, nth_append_right (Nat.le_refl _), Nat.sub_self]
    have hc := encR_cont hz.1 (i := a.length) (by omega) (by omega)
    rw [← hn] at hc
    have hd := dec_cont hc
    have hne : 0 < b.length := by rw [h2]; simp; omega
    rw [runes_bad hne (by rw [hd])] at hb
    cases hb
theorem splitW_nonempty : ∀ (l w p : List Int), p ∈ splitW w l → p ≠ []
 | [], w, p, h => by
  unfold splitW at h
  split at h
  ·cases h
  ·rename_i hw; simp only [List.mem_singleton] at h; subst h; exact hw
 | c :: l, w, p, h => by
  unfold splitW at h
  split at h
  ·split at h
   ·exact splitW_nonempty l [] p h
   ·rename_i hw
    rcases List.mem_cons.1 h with rfl | h
    ·exact hw
    ·exact splitW_nonempty l [] p h
  ·exact splitW_nonempty l _ p h
theorem splitW_nospace : ∀ (l w p : List Int), (∀ x ∈ w, spaceR x = false) → p ∈ splitW w l → ∀ x ∈ p, spaceR x = false
 | [], w, p, hw, h => by
  unfold splitW at h
  split at h
  ·cases h
  ·simp only [List.mem_singleton] at h; subst h; exact hw
 | c :: l, w, p, hw, h => by
  unfold splitW at h
  split at h
  ·split at h
   ·exact splitW_nospace l [] p (by simp) h
   ·rcases List.mem_cons.1 h with rfl | h
    ·exact hw
    ·exact splitW_nospace l [] p (by simp) h
  ·rename_i hc
   refine splitW_nospace l _ p (fun x hx => ?_) h
   rcases List.mem_append.1 hx with hx | hx
   ·exact hw x hx
   ·simp only [List.mem_singleton] at hx; subst hx; simpa using hc
theorem splitW_point : ∀ (l w p : List Int), w.all point = true → l.all point = true → p ∈ splitW w l → p.all point = true
 | [], w, p, hw, _, h => by
  unfold splitW at h
  split at h
  ·cases h
  ·simp only [List.mem_singleton] at h; subst h; exact hw
 | c :: l, w, p, hw, hl, h => by
  simp only [List.all_cons, Bool.and_eq_true] at hl
  unfold splitW at h
  split at h
  ·split at h
   ·exact splitW_point l [] p (by simp) hl.2 h
   ·rcases List.mem_cons.1 h with rfl | h
    ·exact hw
    ·exact splitW_point l [] p (by simp) hl.2 h
  ·exact splitW_point l _ p (by simp [hw, hl.1]) hl.2 h
theorem splitW_sum : ∀ (l w : List Int), ((splitW w l).map fun p => (encAll p).length).sum ≤ (encAll w).length + (encAll l).length
 | [], w => by
  unfold splitW
  split <;> simp
 | c :: l, w => by
  have h1 := splitW_sum l []
  have h2 := splitW_sum l (w ++ [c])
  simp at h1 h2
  unfold splitW
  split
  ·split <;> simp <;> omega
  ·simp; omega
theorem splitW_word : ∀ (p w l : List Int), (∀ x ∈ p, spaceR x = false) → splitW w (p ++ l) = splitW (w ++ p) l
 | [], w, l, _ => by simp
 | c :: p, w, l, h => by
  have hc := h c (by simp)
  show (if spaceR c then _ else splitW (w ++ [c]) (p ++ l)) = _
  rw [hc]
  simp only [Bool.false_eq_true, if_false]
  rw [splitW_word p _ l (fun x hx => h x (List.mem_cons_of_mem _ hx)), List.append_assoc]; rfl
theorem splitW_gap0 : ∀ (g l : List Int), (∀ x ∈ g, spaceR x = true) → splitW [] (g ++ l) = splitW [] l
 | [], l, _ => by simp
 | c :: g, l, h => by
  have hc := h c (by simp)
  show (if spaceR c then (if ([] : List Int) = [] then splitW [] (g ++ l) else _) else _) = _
  rw [hc, if_pos rfl, if_pos rfl]
  exact splitW_gap0 g l (fun x hx => h x (List.mem_cons_of_mem _ hx))
theorem splitW_gap {w g : List Int} (l : List Int) (hw : w ≠ []) (hg : g ≠ []) (h : ∀ x ∈ g, spaceR x = true) : splitW w (g ++ l) = w :: splitW [] l := by
 cases g with
 | nil => exact absurd rfl hg
 | cons c g =>
  have hc := h c (by simp)
  show (if spaceR c then (if w = [] then _ else w :: splitW [] (g ++ l)) else _) = _
  rw [hc, if_pos rfl, if_neg hw, splitW_gap0 g l (fun x hx => h x (List.mem_cons_of_mem _ hx))]
theorem splitW_one {w : List Int} (hw : w ≠ []) (h : ∀ x ∈ w, spaceR x = false) : splitW [] w = [w] := by
 have := splitW_word w [] [] h
 rw [List.append_nil, List.nil_append] at this
 rw [this]; unfold splitW; rw [if_neg hw]
theorem join_of_runes {s : List UInt8} (h : (runesG s).2 = 0) : joinG (runesG s).1 = (s, 0) := by
 obtain ⟨h1, h2⟩ := runesG_all h
 obtain ⟨h3, h4⟩ := runes_enc' h2
 rw [joinG_part h4 (by rw [h3]; exact h1), h3]
theorem runesG_bad {s : List UInt8} (h : ¬ (runesG s).2 = 0) : (runesG s).1 = [] := by
 unfold runesG at h ⊢
 split
 ·rfl
 ·rename_i h1
  rw [if_neg h1] at h
  cases hr : runes s with
  | none => rfl
  | some l => rw [hr] at h; simp at h
theorem joinG_bad {l : List Int} (h : ¬ (joinG l).2 = 0) : (joinG l).1 = [] := by
 unfold joinG at h ⊢
 split
 ·split
  ·rfl
  ·rename_i h1 h2; rw [if_pos h1, if_neg h2] at h; simp at h
 ·rfl
theorem joinG_all {l : List Int} (h : (joinG l).2 = 0) : l.all point = true ∧ (encAll l).length ≤ 4096 ∧ (joinG l).1 = encAll l := by
 unfold joinG at h ⊢
 split
 ·rename_i h1
  split
  ·rename_i h2; rw [if_pos h1, if_pos h2] at h; simp at h
  ·exact ⟨h1, by omega, rfl⟩
 ·rename_i h1; rw [if_neg h1] at h; simp at h
theorem runes_of_join {l : List Int} (h : (joinG l).2 = 0) : runesG (joinG l).1 = (l, 0) := by
 obtain ⟨h1, h2, h3⟩ := joinG_all h
 rw [h3]
 exact runesG_some h2 (runes_encAll h1)
theorem splitW_len : ∀ (l w : List Int), (splitW w l).length ≤ l.length + 1
 | [], w => by unfold splitW; split <;> simp
 | c :: r, w => by
  have h1 := splitW_len r []
  have h2 := splitW_len r (w ++ [c])
  unfold splitW
  split
  ·split <;> simp <;> omega
  ·simp; omega
theorem sum_le_mem {α : Type} {f : α → Nat} {l : List α} {x : α} (h : x ∈ l) : f x ≤ (l.map f).sum := by
 induction l with
 | nil => cases h
 | cons y l ih =>
  simp only [List.map_cons, List.sum_cons]
  rcases List.mem_cons.1 h with rfl | h
  ·omega
  ·have := ih h; omega
end Go.Ab
namespace Go.Ab
open Go.Proofs
set_option maxRecDepth 100000
def textZ (t : List Sgn) (l : List Nat) : Wd := l.flatMap fun k => (nth t k).text
theorem textZ_cons (t : List Sgn) (k : Nat) (l : List Nat) : textZ t (k :: l) = (nth t k).text ++ textZ t l := rfl
theorem cellsZ_cons (t : List Sgn) (k : Nat) (l : List Nat) : cellsZ t (k :: l) = (nth t k).cells ++ cellsZ t l := rfl
theorem textZ_app (t : List Sgn) (a b : List Nat) : textZ t (a ++ b) = textZ t a ++ textZ t b := by simp [textZ]
theorem cellsZ_app (t : List Sgn) (a b : List Nat) : cellsZ t (a ++ b) = cellsZ t a ++ cellsZ t b := by simp [cellsZ]
theorem preZ_iff {p s : Wd} : preZ p s = true ↔ p <+: s := by simp [preZ]
theorem drop_after {s x y : Wd} {i : Nat} (h : x ++ y <+: s.drop i) : y <+: s.drop (i + x.length) := by
 obtain ⟨r, hr⟩ := h
 refine ⟨r, ?_⟩
 rw [← List.drop_drop, ← hr, List.append_assoc, List.drop_left]
theorem tab_pos {t : List Sgn} (hc : checkZ t = 0) : ∀ j, j < t.length → 0 < lenZ t j := fun j hj => by
 obtain ⟨c1, c2, c3⟩ := checkZ_zero hc
 obtain ⟨⟨e1, e2, _⟩, _⟩ := sgnAt_of (c3 j hj)
 obtain ⟨_, e4⟩ := runesG_all e1
 have := runes_len _ _ _ (Nat.le_refl _) e4
 show 0 < (nth t j).text.length
 omega
theorem tab_cells {t : List Sgn} (hc : checkZ t = 0) : ∀ j, j < t.length → 1 ≤ cellZ t j ∧ cellZ t j ≤ 4 := fun j hj => by
 obtain ⟨c1, c2, c3⟩ := checkZ_zero hc
 obtain ⟨⟨_, _, _, e4, e5⟩, _⟩ := sgnAt_of (c3 j hj)
 exact ⟨e4, e5⟩
theorem runes_lenG : ∀ (n : Nat) (s : List UInt8) (l : List Int), s.length ≤ n → runes s = some l → s.length ≤ 4 * l.length := fun n s l _ h => by
 obtain ⟨e1, _⟩ := runes_enc' h
 have := (encAll_len l).2
 rw [e1] at this
 exact this
theorem tab_text {t : List Sgn} (hc : checkZ t = 0) : ∀ x ∈ t, x.text.length ≤ 64 := fun x hx => by
 obtain ⟨c1, c2, c3⟩ := checkZ_zero hc
 obtain ⟨j, hj, rfl⟩ := List.mem_iff_getElem.1 hx
 obtain ⟨⟨e1, _, e3, _⟩, _⟩ := sgnAt_of (c3 j hj)
 rw [nth_eq hj] at e1 e3
 obtain ⟨_, hr⟩ := runesG_all e1
 have := runes_lenG _ _ _ (Nat.le_refl _) hr
 omega
theorem least_path {t : List Sgn} {s : Wd} (h0 : ∀ j, j < t.length → 0 < lenZ t j) : ∀ (l : List Nat) (i : Nat), (∀ k ∈ l, k < t.length) → textZ t l <+: s.drop i →
  nth (leastL t s) i ≤ ((cellsZ t l).length : Int) + nth (leastL t s) (i + (textZ t l).length)
 | [], i, _, _ => by simp [cellsZ, textZ]
 | k :: l, i, hk, hp => by
  have hkt := hk k List.mem_cons_self
  rw [textZ_cons] at hp
  have h1 : (nth t k).text <+: s.drop i := (List.prefix_append _ _).trans hp
  have h3 := drop_after hp
  have ih := least_path h0 l (i + (nth t k).text.length) (fun x hx => hk x (List.mem_cons_of_mem _ hx)) h3
  have hl := h1.length_le
  rw [List.length_drop] at hl
  have hpos : 0 < (nth t k).text.length := h0 k hkt
  have ha := least_at (t := t) (s := s) h0 (i := i) (by omega)
  have hb : _ ≤ ((nth t k).cells.length : Int) + nth (leastL t s) (i + (nth t k).text.length) := bestZ_min (t := t) (s := s) (L := leastL t s) (i := i) t.length k hkt (preZ_iff.2 h1)
  rw [textZ_cons, cellsZ_cons, List.length_append, List.length_append, ← Nat.add_assoc]
  omega
theorem path_all {t : List Sgn} {s : Wd} (h0 : ∀ j, j < t.length → 0 < lenZ t j) : ∀ (f i : Nat), s.length ≤ i + f → i ≤ s.length → nth (leastL t s) i < neverZ →
  (∀ k ∈ pathZ t s f i, k < t.length) ∧ textZ t (pathZ t s f i) = s.drop i ∧ ((cellsZ t (pathZ t s f i)).length : Int) = nth (leastL t s) i
 | 0, i, hf, hi, _ => by
  obtain rfl : i = s.length := by omega
  exact ⟨fun k hk => (by cases hk), (by rw [List.drop_length]; rfl), (by rw [least_end]; rfl)⟩
 | f + 1, i, hf, hi, hn => by
  rw [pathZ]
  by_cases h : i < s.length
  ·rw [if_pos h]
   obtain ⟨p1, p2, p3, p4, p5, p6⟩ := path_step h0 h hn
   obtain ⟨q1, q2, q3⟩ := path_all h0 f _ (by omega) p2 p5
   generalize firstZ t s i = k at *
   refine ⟨fun x hx => ?_, ?_, ?_⟩
   ·rcases List.mem_cons.1 hx with rfl | hx
    ·exact p1
    ·exact q1 x hx
   ·rw [textZ_cons, q2]
    obtain ⟨r, hr⟩ := preZ_iff.1 p6
    rw [← List.drop_drop, ← hr]
    show _ ++ List.drop (nth t k).text.length _ = _
    rw [List.drop_left]
   ·rw [cellsZ_cons, List.length_append, p4]
    show (((nth t k).cells.length + _ : Nat) : Int) = ((nth t k).cells.length : Int) + _
    rw [← q3]; omega
  ·rw [if_neg h]
   obtain rfl : i = s.length := by omega
   exact ⟨fun k hk => (by cases hk), (by rw [List.drop_length]; rfl), (by rw [least_end]; rfl)⟩
theorem cellsZ_le {t : List Sgn} (hc : checkZ t = 0) : ∀ l : List Nat, (∀ k ∈ l, k < t.length) → (cellsZ t l).length ≤ 4 * l.length
 | [], _ => Nat.le_refl _
 | k :: l, h => by
  have := cellsZ_le hc l (fun x hx => h x (List.mem_cons_of_mem _ hx))
  have h1 := (tab_cells hc k (h k List.mem_cons_self)).2
  unfold cellZ at h1
  rw [cellsZ_cons, List.length_append, List.length_cons]; omega
theorem textZ_ge {t : List Sgn} (hc : checkZ t = 0) : ∀ l : List Nat, (∀ k ∈ l, k < t.length) → l.length ≤ (textZ t l).length
 | [], _ => Nat.le_refl _
 | k :: l, h => by
  have := textZ_ge hc l (fun x hx => h x (List.mem_cons_of_mem _ hx))
  have h1 := tab_pos hc k (h k List.mem_cons_self)
  unfold lenZ at h1
  rw [textZ_cons, List.length_append, List.length_cons]; omega
def Said (t : List Sgn) (s : Wd) (l : List Nat) : Prop := (∀ k ∈ l, k < t.length) ∧ textZ t l = s
theorem Said.app {t : List Sgn} {a b : Wd} {x y : List Nat} (hx : Said t a x) (hy : Said t b y) : Said t (a ++ b) (x ++ y) :=
 ⟨fun k hk => (List.mem_append.1 hk).elim (hx.1 k) (hy.1 k), by rw [textZ_app, hx.2, hy.2]⟩
theorem least_le {t : List Sgn} {s : Wd} {l : List Nat} (hc : checkZ t = 0) (h : Said t s l) : nth (leastL t s) 0 ≤ ((cellsZ t l).length : Int) := by
 have := least_path (t := t) (s := s) (tab_pos hc) l 0 h.1 (by rw [h.2]; exact List.prefix_refl _)
 rw [h.2, Nat.zero_add, least_end] at this
 omega
theorem said_of {t : List Sgn} {s : Wd} (hc : checkZ t = 0) (hn : nth (leastL t s) 0 < neverZ) : Said t s (pathZ t s s.length 0) ∧ ((cellsZ t (pathZ t s s.length 0)).length : Int) = nth (leastL t s) 0 := by
 obtain ⟨h1, h2, h3⟩ := path_all (t := t) (s := s) (tab_pos hc) s.length 0 (by omega) (by omega) hn
 exact ⟨⟨h1, h2⟩, h3⟩
theorem least_small {t : List Sgn} {s : Wd} (hc : checkZ t = 0) (hn : nth (leastL t s) 0 < neverZ) : nth (leastL t s) 0 ≤ 4 * (s.length : Int) := by
 obtain ⟨⟨h1, h2⟩, h3⟩ := said_of hc hn
 have a1 := cellsZ_le hc _ h1
 have a2 := textZ_ge hc _ h1
 rw [h2] at a2
 omega
theorem encode_of {t : List Sgn} {s : Wd} (hc : checkZ t = 0) (he : (runesG s).2 = 0) (hl : s.length ≤ 1024) (hn : nth (leastL t s) 0 < neverZ) :
  encodeZ t s = ((pathZ t s s.length 0).map (fun (k : Nat) => (k : Int)), cellsZ t (pathZ t s s.length 0), true, 0) := by
 have := least_small hc hn
 unfold encodeZ
 rw [if_neg (by simp [hc]), if_neg (by simp [he]), if_neg (by omega), if_neg (by omega)]
 rfl
theorem encode_no {t : List Sgn} {s : Wd} (hc : checkZ t = 0) (he : (runesG s).2 = 0) (hn : ¬ nth (leastL t s) 0 < neverZ) : encodeZ t s = ([], [], false, 0) := by
 unfold encodeZ
 rw [if_neg (by simp [hc]), if_neg (by simp [he]), if_pos (by omega)]
theorem textZ_runes {t : List Sgn} (hc : checkZ t = 0) : ∀ l : List Nat, (∀ k ∈ l, k < t.length) → ∃ x, runes (textZ t l) = some x
 | [], _ => ⟨[], by simp [textZ, runes]⟩
 | k :: l, h => by
  obtain ⟨x, hx⟩ := textZ_runes hc l (fun x hx => h x (List.mem_cons_of_mem _ hx))
  obtain ⟨c1, c2, c3⟩ := checkZ_zero hc
  obtain ⟨⟨e1, _⟩, _⟩ := sgnAt_of (c3 k (h k List.mem_cons_self))
  obtain ⟨_, hr⟩ := runesG_all e1
  exact ⟨(runesG (nth t k).text).1 ++ x, by rw [textZ_cons, runes_append hr, hx]; rfl⟩
theorem path_first {t : List Sgn} {s : Wd} (h0 : ∀ j, j < t.length → 0 < lenZ t j) (h1 : ∀ j, j < t.length → 1 ≤ cellZ t j) : ∀ (l : List Nat) (f i : Nat), s.length ≤ i + f → i ≤ s.length → nth (leastL t s) i < neverZ → (∀ k ∈ l, k < t.length) → textZ t l = s.drop i →
  ((cellsZ t l).length : Int) = nth (leastL t s) i → befZ (l.map fun (k : Nat) => (k : Int)) ((pathZ t s f i).map fun (k : Nat) => (k : Int)) = false
 | [], f, i, hf, hi, hn, _, ht, _ => by
  have hl := congrArg List.length ht
  rw [List.length_drop] at hl
  have : ¬ i < s.length := by simp [textZ] at hl; omega
  have hp : pathZ t s f i = [] := by
   cases f with
   | zero => rfl
   | succ f => rw [pathZ, if_neg this]
  rw [hp]; rfl
 | k :: l, f, i, hf, hi, hn, hk, ht, hc => by
  have hkt := hk k List.mem_cons_self
  have hk2 : ∀ x ∈ l, x < t.length := fun x hx => hk x (List.mem_cons_of_mem _ hx)
  rw [textZ_cons] at ht
  have hpre : (nth t k).text <+: s.drop i := ⟨_, ht⟩
  have hpos : 0 < (nth t k).text.length := h0 k hkt
  have hl := hpre.length_le
  rw [List.length_drop] at hl
  have h3 : textZ t l = s.drop (i + (nth t k).text.length) := by rw [← List.drop_drop, ← ht, List.drop_left]
  have hil : i < s.length := by omega
  obtain ⟨f, rfl⟩ : ∃ g, f = g + 1 := ⟨f - 1, by omega⟩
  obtain ⟨p1, p2, p3, p4, p5, p6⟩ := path_step h0 hil hn
  have ha := least_at (t := t) (s := s) h0 hil
  have hb : _ ≤ ((nth t k).cells.length : Int) + nth (leastL t s) (i + (nth t k).text.length) := bestZ_min (t := t) (s := s) (L := leastL t s) (i := i) t.length k hkt (preZ_iff.2 hpre)
  have hq := least_path (t := t) (s := s) h0 l (i + (nth t k).text.length) hk2 (by rw [h3]; exact List.prefix_refl _)
  rw [h3, List.length_drop, show i + (nth t k).text.length + (s.length - (i + (nth t k).text.length)) = s.length by omega, least_end] at hq
  rw [cellsZ_cons, List.length_append] at hc
  have hle : ¬ k < firstZ t s i := by
   intro hlt
   rcases bestZ_spec (t := t) (s := s) (L := leastL t s) (i := i) t.length with h | ⟨_, _, _, _, h5⟩
   ·rw [h] at ha; simp only at ha; omega
   ·have : _ < ((nth t k).cells.length : Int) + nth (leastL t s) (i + (nth t k).text.length) := h5 k hlt (preZ_iff.2 hpre)
    omega
  rw [pathZ, if_pos hil]
  simp only [List.map_cons, befZ]
  by_cases hkf : k = firstZ t s i
  ·subst hkf
   rw [if_pos rfl]
   refine path_first h0 h1 l f _ (by omega) p2 p5 hk2 h3 ?_
   have e : nth (leastL t s) i = ((nth t (firstZ t s i)).cells.length : Int) + nth (leastL t s) (i + (nth t (firstZ t s i)).text.length) := p4
   show _ = nth (leastL t s) (i + (nth t (firstZ t s i)).text.length)
   omega
  ·rw [if_neg (by omega), decide_eq_false_iff_not]
   omega
end Go.Ab
namespace Go.Ab
open Go.Proofs
set_option maxRecDepth 100000
theorem preI_iff {p s : List Int} : preI p s = true ↔ p <+: s := by simp [preI]
theorem preI_len {p s : List Int} {i : Nat} (h : preI p (s.drop i) = true) : p.length ≤ s.length - i := by
 have := (preI_iff.1 h).length_le
 rwa [List.length_drop] at this
def cntZ (t : List Sgn) (s : List Int) (L : List Int) (i : Nat) : Nat → Int × Nat
 | 0 => (0, 0)
 | k + 1 => if preI (nth t k).cells (s.drop i) = true ∧ 0 < nth L (i + cellZ t k) then (min 2 ((cntZ t s L i k).1 + nth L (i + cellZ t k)), k) else cntZ t s L i k
def manyL (t : List Sgn) : List Int → List Int
 | [] => [1]
 | c :: u => (cntZ t (c :: u) (0 :: manyL t u) 0 t.length).1 :: manyL t u
theorem manyL_len (t : List Sgn) : ∀ s : List Int, (manyL t s).length = s.length + 1
 | [] => rfl
 | b :: u => by rw [manyL, List.length_cons, manyL_len t u, List.length_cons]
theorem manyL_drop (t : List Sgn) : ∀ (s : List Int) (i : Nat), i ≤ s.length → (manyL t s).drop i = manyL t (s.drop i)
 | s, 0, _ => rfl
 | [], i + 1, h => by simp at h
 | b :: u, i + 1, h => by
  rw [manyL, List.drop_succ_cons, List.drop_succ_cons]
  exact manyL_drop t u i (by simpa using h)
theorem cntZ_congr {t : List Sgn} {s s2 : List Int} {L L2 : List Int} {i i2 : Nat} (hs : s.drop i = s2.drop i2) : ∀ k, (∀ j, j < k → 0 < cellZ t j) → (∀ d, 0 < d → nth L (i + d) = nth L2 (i2 + d)) → cntZ t s L i k = cntZ t s2 L2 i2 k
 | 0, _, _ => rfl
 | k + 1, h0, h => by
  rw [cntZ, cntZ, cntZ_congr hs k (fun j hj => h0 j (by omega)) h, hs, h _ (h0 k (by omega))]
theorem many_at {t : List Sgn} {s : List Int} (h0 : ∀ j, j < t.length → 0 < cellZ t j) {i : Nat} (hi : i < s.length) : nth (manyL t s) i = (cntZ t s (manyL t s) i t.length).1 := by
 have h1 : nth (manyL t s) i = nth ((manyL t s).drop i) 0 := by rw [nth_dropZ]; rfl
 rw [h1, manyL_drop t s i (by omega)]
 obtain ⟨b, u, hu⟩ : ∃ b u, s.drop i = b :: u := by
  cases h : s.drop i with
  | nil => have := congrArg List.length h; rw [List.length_drop] at this; simp at this; omega
  | cons b u => exact ⟨b, u, rfl⟩
 rw [hu, manyL]
 show (cntZ t (b :: u) (0 :: manyL t u) 0 t.length).1 = _
 congr 1
 refine cntZ_congr (by rw [List.drop_zero, hu]) _ h0 (fun d hd => ?_)
 have h2 : manyL t u = (manyL t s).drop (i + 1) := by
  rw [manyL_drop t s (i + 1) (by omega), ← List.drop_drop, hu]; rfl
 obtain ⟨e, rfl⟩ : ∃ e, d = e + 1 := ⟨d - 1, by omega⟩
 rw [Nat.zero_add]
 show nth (manyL t u) e = _
 rw [h2, nth_dropZ]
 congr 1; omega
theorem many_end (t : List Sgn) (s : List Int) : nth (manyL t s) s.length = 1 := by
 have h1 : nth (manyL t s) s.length = nth ((manyL t s).drop s.length) 0 := by rw [nth_dropZ]; rfl
 rw [h1, manyL_drop t s s.length (Nat.le_refl _), List.drop_length]; rfl
theorem cntZ_range {t : List Sgn} {s : List Int} {L : List Int} {i : Nat} : ∀ k, 0 ≤ (cntZ t s L i k).1 ∧ (cntZ t s L i k).1 ≤ 2
 | 0 => by simp [cntZ]
 | k + 1 => by
  have := cntZ_range (t := t) (s := s) (L := L) (i := i) k
  rw [cntZ]
  split
  ·rename_i h
   simp only
   rw [Int.min_def]
   split <;> omega
  ·exact this
theorem many_all (t : List Sgn) : ∀ (s : List Int) (j : Nat), 0 ≤ nth (manyL t s) j ∧ nth (manyL t s) j ≤ 2
 | [], 0 => by show (0 : Int) ≤ 1 ∧ (1 : Int) ≤ 2; omega
 | [], j + 1 => by show (0 : Int) ≤ 0 ∧ (0 : Int) ≤ 2; omega
 | b :: u, 0 => cntZ_range _
 | b :: u, j + 1 => many_all t u j
def Fac (t : List Sgn) (s : List Int) (l : List Nat) : Prop := (∀ k ∈ l, k < t.length) ∧ cellsZ t l = s
def Cnt (n : Int) (P : List Nat → Prop) : Prop := (n = 0 ∧ ∀ l, ¬ P l) ∨ (n = 1 ∧ ∃ l, P l ∧ ∀ l', P l' → l' = l) ∨ (n = 2 ∧ ∃ l l', l ≠ l' ∧ P l ∧ P l')
theorem Cnt.congr {n : Int} {P Q : List Nat → Prop} (h : Cnt n P) (e : ∀ l, P l ↔ Q l) : Cnt n Q := by
 have : P = Q := by funext l; exact propext (e l)
 rwa [this] at h
theorem Cnt.add {a b : Int} {P Q : List Nat → Prop} (ha : Cnt a P) (hb : Cnt b Q) (hd : ∀ l, P l → Q l → False) : Cnt (min 2 (a + b)) fun l => P l ∨ Q l := by
 rcases ha with ⟨rfl, h1⟩ | ⟨rfl, x, h1, h2⟩ | ⟨rfl, x, y, h1, h2, h3⟩
 ·rcases hb with ⟨rfl, k1⟩ | ⟨rfl, u, k1, k2⟩ | ⟨rfl, u, v, k1, k2, k3⟩
  ·exact .inl ⟨rfl, fun l h => h.elim (h1 l) (k1 l)⟩
  ·exact .inr (.inl ⟨rfl, u, .inr k1, fun l h => h.elim (fun e => absurd e (h1 l)) (k2 l)⟩)
  ·exact .inr (.inr ⟨rfl, u, v, k1, .inr k2, .inr k3⟩)
 ·rcases hb with ⟨rfl, k1⟩ | ⟨rfl, u, k1, k2⟩ | ⟨rfl, u, v, k1, k2, k3⟩
  ·exact .inr (.inl ⟨rfl, x, .inl h1, fun l h => h.elim (h2 l) (fun e => absurd e (k1 l))⟩)
  ·exact .inr (.inr ⟨rfl, x, u, fun e => hd x h1 (e ▸ k1), .inl h1, .inr k1⟩)
  ·exact .inr (.inr ⟨rfl, u, v, k1, .inr k2, .inr k3⟩)
 ·refine .inr (.inr ⟨?_, x, y, h1, .inl h2, .inl h3⟩)
  rcases hb with ⟨rfl, _⟩ | ⟨rfl, _⟩ | ⟨rfl, _⟩ <;> rfl
theorem fac_cons {t : List Sgn} {s : List Int} {i k : Nat} {r : List Nat} : Fac t (s.drop i) (k :: r) ↔ k < t.length ∧ preI (nth t k).cells (s.drop i) = true ∧ Fac t (s.drop (i + cellZ t k)) r := by
 unfold Fac
 rw [cellsZ_cons, preI_iff]
 constructor
 ·rintro ⟨h1, h2⟩
  refine ⟨h1 k List.mem_cons_self, ⟨_, h2⟩, fun x hx => h1 x (List.mem_cons_of_mem _ hx), ?_⟩
  rw [← List.drop_drop, ← h2]
  show _ = List.drop (nth t k).cells.length _
  rw [List.drop_left]
 ·rintro ⟨h1, ⟨z, hz⟩, h2, h3⟩
  refine ⟨fun x hx => ?_, ?_⟩
  ·rcases List.mem_cons.1 hx with rfl | hx
   ·exact h1
   ·exact h2 x hx
  ·rw [h3, ← List.drop_drop, ← hz]
   show _ ++ List.drop (nth t k).cells.length _ = _
   rw [List.drop_left]
theorem cnt_heads {t : List Sgn} {s : List Int} {i : Nat} (ih : ∀ k, k < t.length → preI (nth t k).cells (s.drop i) = true → Cnt (nth (manyL t s) (i + cellZ t k)) (Fac t (s.drop (i + cellZ t k)))) :
  ∀ m, m ≤ t.length → Cnt (cntZ t s (manyL t s) i m).1 (fun l => ∃ k r, l = k :: r ∧ k < m ∧ Fac t (s.drop i) l)
 | 0, _ => .inl ⟨rfl, fun l ⟨k, r, _, h, _⟩ => by omega⟩
 | m + 1, hm => by
  have h1 := cnt_heads ih m (by omega)
  have hr := many_all t s (i + cellZ t m)
  by_cases hp : preI (nth t m).cells (s.drop i) = true
  ·have h2 := ih m (by omega) hp
   have h3 : Cnt (nth (manyL t s) (i + cellZ t m)) (fun l => ∃ r, l = m :: r ∧ Fac t (s.drop i) l) := by
    rcases h2 with ⟨e, k1⟩ | ⟨e, u, k1, k2⟩ | ⟨e, u, v, k1, k2, k3⟩
    ·exact .inl ⟨e, fun l ⟨r, hl, hf⟩ => by subst hl; exact k1 r (fac_cons.1 hf).2.2⟩
    ·refine .inr (.inl ⟨e, m :: u, ⟨u, rfl, fac_cons.2 ⟨by omega, hp, k1⟩⟩, fun l ⟨r, hl, hf⟩ => ?_⟩)
     subst hl; rw [k2 r (fac_cons.1 hf).2.2]
    ·exact .inr (.inr ⟨e, m :: u, m :: v, fun e => k1 (List.cons.inj e).2, ⟨u, rfl, fac_cons.2 ⟨by omega, hp, k2⟩⟩, ⟨v, rfl, fac_cons.2 ⟨by omega, hp, k3⟩⟩⟩)
   have h4 := (h1.add h3 (fun l ⟨k, r, e1, e2, _⟩ ⟨r2, e3, _⟩ => by rw [e1] at e3; have := (List.cons.inj e3).1; omega)).congr (Q := fun l => ∃ k r, l = k :: r ∧ k < m + 1 ∧ Fac t (s.drop i) l) (fun l => by
    constructor
    ·rintro (⟨k, r, e1, e2, e3⟩ | ⟨r, e1, e2⟩)
     ·exact ⟨k, r, e1, by omega, e3⟩
     ·exact ⟨m, r, e1, by omega, e2⟩
    ·rintro ⟨k, r, e1, e2, e3⟩
     by_cases e : k = m
     ·subst e; exact .inr ⟨r, e1, e3⟩
     ·exact .inl ⟨k, r, e1, by omega, e3⟩)
   rw [cntZ]
   split
   ·exact h4
   ·rename_i hn
    have hz : nth (manyL t s) (i + cellZ t m) = 0 := by
     rcases Int.lt_or_le 0 (nth (manyL t s) (i + cellZ t m)) with h | h
     ·exact absurd ⟨hp, h⟩ hn
     ·omega
    have hc := cntZ_range (t := t) (s := s) (L := manyL t s) (i := i) m
    rw [hz, Int.add_zero, Int.min_def] at h4
    split at h4
    ·have : (cntZ t s (manyL t s) i m).1 = 2 := by omega
     rw [this]; exact h4
    ·exact h4
  ·rw [cntZ, if_neg (fun e => hp e.1)]
   refine h1.congr (fun l => ?_)
   constructor
   ·rintro ⟨k, r, e1, e2, e3⟩; exact ⟨k, r, e1, by omega, e3⟩
   ·rintro ⟨k, r, e1, e2, e3⟩
    refine ⟨k, r, e1, ?_, e3⟩
    have : k ≠ m := by
     rintro rfl
     rw [e1] at e3
     exact hp (fac_cons.1 e3).2.1
    omega
theorem many_fac {t : List Sgn} {s : List Int} (h0 : ∀ j, j < t.length → 0 < cellZ t j) : ∀ (n i : Nat), i ≤ s.length → s.length - i ≤ n → Cnt (nth (manyL t s) i) (Fac t (s.drop i))
 | n, i, hi, hn => by
  by_cases he : i = s.length
  ·subst he
   rw [many_end, List.drop_length]
   refine .inr (.inl ⟨rfl, [], ⟨fun k hk => (by cases hk), rfl⟩, fun l ⟨h1, h2⟩ => ?_⟩)
   cases l with
   | nil => rfl
   | cons k r =>
    have := congrArg List.length h2
    rw [cellsZ_cons, List.length_append] at this
    have h3 := h0 k (h1 k List.mem_cons_self)
    unfold cellZ at h3
    simp only [List.length_nil] at this; omega
  ·cases n with
   | zero => omega
   | succ n =>
    have h1 := cnt_heads (t := t) (s := s) (i := i) (fun k hk hp => by
     have h3 := h0 k hk
     have h4 : cellZ t k ≤ s.length - i := preI_len hp
     exact many_fac h0 n (i + cellZ t k) (by omega) (by omega)) t.length (Nat.le_refl _)
    rw [← many_at h0 (by omega)] at h1
    refine h1.congr (fun l => ?_)
    constructor
    ·rintro ⟨k, r, _, _, h⟩; exact h
    ·intro h
     cases l with
     | nil =>
      have := congrArg List.length h.2
      rw [List.length_drop] at this
      simp [cellsZ] at this; omega
     | cons k r => exact ⟨k, r, rfl, h.1 k List.mem_cons_self, h⟩
def nextZ (t : List Sgn) (s : List Int) (i : Nat) : Nat := (cntZ t s (manyL t s) i t.length).2
def pathD (t : List Sgn) (s : List Int) : Nat → Nat → List Nat
 | 0, _ => []
 | f + 1, i => if i < s.length then nextZ t s i :: pathD t s f (i + cellZ t (nextZ t s i)) else []
theorem cnt_none {t : List Sgn} {s L : List Int} {i : Nat} : ∀ m, (cntZ t s L i m).1 = 0 → ∀ j, j < m → preI (nth t j).cells (s.drop i) = true → ¬ 0 < nth L (i + cellZ t j)
 | 0, _, j, hj, _ => by omega
 | m + 1, h, j, hj, hp => by
  have hr := cntZ_range (t := t) (s := s) (L := L) (i := i) m
  rw [cntZ] at h
  split at h
  ·rename_i hc
   simp only at h
   rw [Int.min_def] at h
   split at h <;> omega
  ·rename_i hc
   by_cases e : j = m
   ·subst e; exact fun h2 => hc ⟨hp, h2⟩
   ·exact cnt_none m h j (by omega) hp
theorem cnt_one {t : List Sgn} {s L : List Int} {i : Nat} : ∀ m, (cntZ t s L i m).1 = 1 → (cntZ t s L i m).2 < m ∧ preI (nth t (cntZ t s L i m).2).cells (s.drop i) = true ∧ nth L (i + cellZ t (cntZ t s L i m).2) = 1 ∧
  ∀ j, j < m → preI (nth t j).cells (s.drop i) = true → 0 < nth L (i + cellZ t j) → j = (cntZ t s L i m).2
 | 0, h => by simp [cntZ] at h
 | m + 1, h => by
  have hr := cntZ_range (t := t) (s := s) (L := L) (i := i) m
  rw [cntZ] at h ⊢
  split at h
  ·rename_i hc
   rw [if_pos hc]
   simp only at h ⊢
   rw [Int.min_def] at h
   split at h
   ·omega
   ·have hz : (cntZ t s L i m).1 = 0 := by omega
    refine ⟨by omega, hc.1, by omega, fun j hj hp hn => ?_⟩
    by_cases e : j = m
    ·exact e
    ·exact absurd hn (cnt_none m hz j (by omega) hp)
  ·rename_i hc
   rw [if_neg hc]
   obtain ⟨h1, h2, h3, h4⟩ := cnt_one m h
   refine ⟨by omega, h2, h3, fun j hj hp hn => ?_⟩
   by_cases e : j = m
   ·subst e; exact absurd ⟨hp, hn⟩ hc
   ·exact h4 j (by omega) hp hn
theorem read_step {t : List Sgn} {s : List Int} (h0 : ∀ j, j < t.length → 0 < cellZ t j) {i : Nat} (hi : i < s.length) (hn : nth (manyL t s) i = 1) :
  nextZ t s i < t.length ∧ i + cellZ t (nextZ t s i) ≤ s.length ∧ 0 < cellZ t (nextZ t s i) ∧ nth (manyL t s) (i + cellZ t (nextZ t s i)) = 1 ∧ preI (nth t (nextZ t s i)).cells (s.drop i) = true ∧
  ∀ j, j < t.length → preI (nth t j).cells (s.drop i) = true → 0 < nth (manyL t s) (i + cellZ t j) → j = nextZ t s i := by
 rw [many_at h0 hi] at hn
 obtain ⟨h1, h2, h3, h4⟩ := cnt_one t.length hn
 have hl := preI_len h2
 refine ⟨h1, ?_, h0 _ h1, h3, h2, h4⟩
 show i + (nth t (cntZ t s (manyL t s) i t.length).2).cells.length ≤ s.length
 omega
theorem read_all {t : List Sgn} {s : List Int} (h0 : ∀ j, j < t.length → 0 < cellZ t j) : ∀ (f i : Nat), s.length ≤ i + f → i ≤ s.length → nth (manyL t s) i = 1 → Fac t (s.drop i) (pathD t s f i)
 | 0, i, hf, hi, _ => by
  obtain rfl : i = s.length := by omega
  exact ⟨fun k hk => (by cases hk), (by rw [List.drop_length]; rfl)⟩
 | f + 1, i, hf, hi, hn => by
  rw [pathD]
  by_cases h : i < s.length
  ·rw [if_pos h]
   obtain ⟨p1, p2, p3, p4, p5, p6⟩ := read_step h0 h hn
   exact fac_cons.2 ⟨p1, p5, read_all h0 f _ (by omega) p2 p4⟩
  ·rw [if_neg h]
   obtain rfl : i = s.length := by omega
   exact ⟨fun k hk => (by cases hk), (by rw [List.drop_length]; rfl)⟩
def decodeZ (t : List Sgn) (s : List Int) : Wd × Bool × Int :=
 if ¬ checkZ t = 0 then ([], false, checkZ t)
 else if 4096 < s.length then ([], false, 2)
 else if dotsL s = false then ([], false, 120)
 else if ¬ nth (manyL t s) 0 = 1 then ([], false, 0)
 else if 4096 < (textZ t (pathD t s s.length 0)).length then ([], false, 2)
 else (textZ t (pathD t s s.length 0), true, 0)
end Go.Ab
namespace Go.Ab
open Go.Proofs
set_option maxRecDepth 100000
set_option maxHeartbeats 4000000
theorem C15 (a b : List Int) (hs : a.length < 1099511627776) : Kc cfg 15 [R fl0 eI a, R fl0 eI b] (.ret (.bool (decide (a = b)))) := by
 refine outS_of_wp cfg (fn := Tryd.f15) Tryd.func15 rfl (by simp [Tryd.f15]) ?_
 simp (disch := first | assumption | omega | (simp; done) | (simp; omega)) [-getElem?_pos, gZ, gS, Tryd.f15]
 repeat' (first | ((first | refine wpc_split _ ?_ ?_ | refine ww_split _ ?_ ?_) <;> intro hc <;> try simp at hc) | (refine wp_drawF (by kernel_rfl) ?_) | refine wk_yldW _ ?_ | refine layOwe _ (by kernel_rfl) ?_ | refine owe ?_ (fun ho => ?_) | (simp (disch := first | assumption | omega | (simp; done) | (simp; omega)) [-getElem?_pos, gZ, gS]))
 ·intro h; rw [h] at hc; simp at hc
 refine wp_loopE cfg rfl (fun f0 h0 m fr h => ∃ i : Nat, fr 0 = f0 0 ∧ fr 1 = f0 1 ∧ fr 5 = .int .i64 i ∧ h.bs = h0.bs ∧ (i + m = a.length) ∧ (a.take i = b.take i)) (a.length) _ _ ⟨0, rfl, rfl, by first | rfl | (simp; done) | (simp [R]; done) | simp [R], rfl, by first | rfl | (simp; done) | omega, by simp⟩ ?_
 rintro Am Af Ah ⟨i, A0, A1, A5, Abs, hm, ht⟩ Aih
 try simp at A0 A1 Abs
 repeat' (first | ((first | refine wpc_split _ ?_ ?_ | refine ww_split _ ?_ ?_) <;> intro hc <;> try simp at hc) | (refine wp_drawF (by kernel_rfl) ?_) | refine wk_yldW _ ?_ | refine layOwe _ (by kernel_rfl) ?_ | refine owe ?_ (fun ho => ?_) | (simp (disch := first | assumption | omega | (simp; done) | (simp; omega)) [A0, A1, A5, Abs, eI, -getElem?_pos, gZ, gS]))
 ·intro h; rw [h] at hc; simp at hc
 ·exact Aih (Am - 1) _ _ (by omega) ⟨i + 1, by simp [A0, A1, A5, Abs], by simp [A0, A1, A5, Abs], by simp [A0, A1, A5, Abs], by simp [A0, A1, A5, Abs], by omega, take_next (by omega) (by omega) ht hc⟩
 ·have : i = a.length := by omega
  subst this
  rw [List.take_length, List.take_of_length_le (by omega)] at ht
  exact ht
@[simp] theorem S15 (a b : List Int) (hs : a.length < 1099511627776) (q1 q2 : Fl) (hh : Heap) : Ci cfg (.func (.func 15) [] []) [R  q1 eI a, R  q2 eI b] hh = some (.ret (.bool (decide (a = b))), hh) :=
 Ci_K cfg rfl rfl (by simp) (by simp) (C15 a b hs)
theorem C42 (l p : List Int) (hs : l.length < 1099511627776) (hp : p.length < 1099511627776) : Kc cfg 42 [R fl0 eI l, R fl0 eI p] (.ret (.bool (preI p l))) := by
 by_cases h : p.length ≤ l.length
 ·have hF : preI p l = decide (l.take p.length = p) := by
   unfold preI
   rw [decide_eq_decide]
   constructor
   ·rintro ⟨r, rfl⟩; simp
   ·intro e; rw [← e]; exact List.take_prefix _ _
  have hlt : (l.take p.length).length < 1099511627776 := by rw [List.length_take]; omega
  rw [hF]
  refine outS_of_wp cfg (fn := Tryd.f42) Tryd.func42 rfl (by simp [Tryd.f42]) ?_
  simp (disch := first | assumption | omega | (simp; done) | (simp; omega)) [-getElem?_pos, gZ, gS, Tryd.f42, h, hlt]
  repeat' (first | ((first | refine wpc_split _ ?_ ?_ | refine ww_split _ ?_ ?_) <;> intro hc <;> try simp at hc) | (refine wp_drawF (by kernel_rfl) ?_) | refine wk_yldW _ ?_ | refine layOwe _ (by kernel_rfl) ?_ | refine owe ?_ (fun ho => ?_) | (simp (disch := first | assumption | omega | (simp; done) | (simp; omega)) [h, hlt, -getElem?_pos, gZ, gS]))
  all_goals try (exfalso; omega)
 ·have hF : preI p l = false := by
   unfold preI
   rw [decide_eq_false_iff_not]
   intro e; exact h e.length_le
  rw [hF]
  refine outS_of_wp cfg (fn := Tryd.f42) Tryd.func42 rfl (by simp [Tryd.f42]) ?_
  simp (disch := first | assumption | omega | (simp; done) | (simp; omega)) [-getElem?_pos, gZ, gS, Tryd.f42, h]
  repeat' (first | ((first | refine wpc_split _ ?_ ?_ | refine ww_split _ ?_ ?_) <;> intro hc <;> try simp at hc) | (refine wp_drawF (by kernel_rfl) ?_) | refine wk_yldW _ ?_ | refine layOwe _ (by kernel_rfl) ?_ | refine owe ?_ (fun ho => ?_) | (simp (disch := first | assumption | omega | (simp; done) | (simp; omega)) [h, -getElem?_pos, gZ, gS]))
  all_goals try (exfalso; omega)
@[simp] theorem S42 (l p : List Int) (hs : l.length < 1099511627776) (hp : p.length < 1099511627776) (q1 q2 : Fl) (hh : Heap) : Ci cfg (.func (.func 42) [] []) [R  q1 eI l, R  q2 eI p] hh = some (.ret (.bool (preI p l)), hh) :=
 Ci_K cfg rfl rfl (by simp) (by simp) (C42 l p hs hp)
theorem befZ_at : ∀ {a b : List Int} {i : Nat}, a.take i = b.take i → i < a.length → i < b.length → nth a i ≠ nth b i → befZ a b = decide (nth a i < nth b i)
 | [], _, _, _, h, _, _ => by simp at h
 | _ :: _, [], _, _, _, h, _ => by simp at h
 | x :: a, y :: b, 0, _, _, _, h => by
  have h : ¬ x = y := h
  rw [befZ, if_neg h]; rfl
 | x :: a, y :: b, i + 1, ht, h1, h2, h => by
  simp only [List.take_succ_cons, List.cons.injEq] at ht
  rw [befZ, if_pos ht.1]
  exact befZ_at ht.2 (by simpa using h1) (by simpa using h2) h
theorem befZ_end : ∀ {a b : List Int} {i : Nat}, a.take i = b.take i → ¬ (i < a.length ∧ i < b.length) → i ≤ a.length → i ≤ b.length → befZ a b = decide (a.length < b.length)
 | [], [], _, _, _, _, _ => by simp [befZ]
 | [], _ :: _, _, _, _, _, _ => by simp [befZ]
 | _ :: _, [], _, _, _, _, _ => by simp [befZ]
 | x :: a, y :: b, 0, _, h, _, _ => by simp at h
 | x :: a, y :: b, i + 1, ht, h, h1, h2 => by
  simp only [List.take_succ_cons, List.cons.injEq] at ht
  rw [befZ, if_pos ht.1, befZ_end ht.2 (by simpa using h) (by simpa using h1) (by simpa using h2)]
  simp
theorem C25 (a b : List Int) (hs : a.length < 1099511627776) (hb : b.length < 1099511627776) : Kc cfg 25 [R fl0 eI a, R fl0 eI b] (.ret (.bool (befZ a b))) := by
 have kat := fun i => befZ_at (a := a) (b := b) (i := i)
 have kend := fun i => befZ_end (a := a) (b := b) (i := i)
 generalize hF : befZ a b = F at *
 refine outS_of_wp cfg (fn := Tryd.f25) Tryd.func25 rfl (by simp [Tryd.f25]) ?_
 simp (disch := first | assumption | omega | (simp; done) | (simp; omega)) [-getElem?_pos, gZ, gS, Tryd.f25]
 repeat' (first | ((first | refine wpc_split _ ?_ ?_ | refine ww_split _ ?_ ?_) <;> intro hc <;> try simp at hc) | (refine wp_drawF (by kernel_rfl) ?_) | refine wk_yldW _ ?_ | refine layOwe _ (by kernel_rfl) ?_ | refine owe ?_ (fun ho => ?_) | (simp (disch := first | assumption | omega | (simp; done) | (simp; omega)) [-getElem?_pos, gZ, gS]))
 refine wp_loopE cfg rfl (fun f0 h0 m fr h => ∃ i : Nat, fr 0 = f0 0 ∧ fr 1 = f0 1 ∧ fr 5 = .int .i64 i ∧ h.bs = h0.bs ∧ (i + m = a.length) ∧ (a.take i = b.take i) ∧ (i ≤ b.length)) (a.length) _ _ ⟨0, rfl, rfl, by first | rfl | (simp; done) | (simp [R]; done) | simp [R], rfl, by first | rfl | (simp; done) | omega, by simp, by first | rfl | (simp; done) | omega⟩ ?_
 rintro Am Af Ah ⟨i, A0, A1, A5, Abs, hm, ht, hib⟩ Aih
 try simp at A0 A1 Abs
 by_cases hi : i < a.length ∧ i < b.length
 ·obtain ⟨h1, h2⟩ := hi
  by_cases he : nth a i = nth b i
  ·repeat' (first | ((first | refine wpc_split _ ?_ ?_ | refine ww_split _ ?_ ?_) <;> intro hc <;> try simp at hc) | (refine wp_drawF (by kernel_rfl) ?_) | refine wk_yldW _ ?_ | refine layOwe _ (by kernel_rfl) ?_ | refine owe ?_ (fun ho => ?_) | (simp (disch := first | assumption | omega | (simp; done) | (simp; omega)) [A0, A1, A5, Abs, eI, h1, h2, he, -getElem?_pos, gZ, gS]))
   all_goals try (exfalso; omega)
   exact Aih (Am - 1) _ _ (by omega) ⟨i + 1, by simp [A0, A1, A5, Abs], by simp [A0, A1, A5, Abs], by simp [A0, A1, A5, Abs], by simp [A0, A1, A5, Abs], by omega, take_next h1 h2 ht he, by omega⟩
  ·rw [kat i ht h1 h2 he]
   repeat' (first | ((first | refine wpc_split _ ?_ ?_ | refine ww_split _ ?_ ?_) <;> intro hc <;> try simp at hc) | (refine wp_drawF (by kernel_rfl) ?_) | refine wk_yldW _ ?_ | refine layOwe _ (by kernel_rfl) ?_ | refine owe ?_ (fun ho => ?_) | (simp (disch := first | assumption | omega | (simp; done) | (simp; omega)) [A0, A1, A5, Abs, eI, h1, h2, he, -getElem?_pos, gZ, gS]))
   all_goals try (exfalso; omega)
 ·rw [kend i ht hi (by omega) hib]
  repeat' (first | ((first | refine wpc_split _ ?_ ?_ | refine ww_split _ ?_ ?_) <;> intro hc <;> try simp at hc) | (refine wp_drawF (by kernel_rfl) ?_) | refine wk_yldW _ ?_ | refine layOwe _ (by kernel_rfl) ?_ | refine owe ?_ (fun ho => ?_) | (simp (disch := first | assumption | omega | (simp; done) | (simp; omega)) [A0, A1, A5, Abs, eI, -getElem?_pos, gZ, gS]))
  all_goals try (exfalso; omega)
@[simp] theorem S25 (a b : List Int) (hs : a.length < 1099511627776) (hb : b.length < 1099511627776) (q1 q2 : Fl) (hh : Heap) : Ci cfg (.func (.func 25) [] []) [R  q1 eI a, R  q2 eI b] hh = some (.ret (.bool (befZ a b)), hh) :=
 Ci_K cfg rfl rfl (by simp) (by simp) (C25 a b hs hb)
theorem C16 (l : List Int) (hs : l.length < 1099511627776) : Kc cfg 16 [R fl0 eI l] (.ret (.bool (decide (l.length ≤ 40 ∨ 4096 < l.length ∧ l.length ≤ 5000)))) := by
 refine outS_of_wp cfg (fn := Tryd.f16) Tryd.func16 rfl (by simp [Tryd.f16]) ?_
 simp (disch := first | assumption | omega | (simp; done) | (simp; omega)) [-getElem?_pos, gZ, gS, Tryd.f16]
 repeat' (first | ((first | refine wpc_split _ ?_ ?_ | refine ww_split _ ?_ ?_) <;> intro hc <;> try simp at hc) | (refine wp_drawF (by kernel_rfl) ?_) | refine wk_yldW _ ?_ | refine layOwe _ (by kernel_rfl) ?_ | refine owe ?_ (fun ho => ?_) | (simp (disch := first | assumption | omega | (simp; done) | (simp; omega)) [-getElem?_pos, gZ, gS]))
 all_goals (first | omega | (simp; omega) | grind)
@[simp] theorem S16 (l : List Int) (hs : l.length < 1099511627776) (q1 : Fl) (hh : Heap) : Ci cfg (.func (.func 16) [] []) [R  q1 eI l] hh = some (.ret (.bool (decide (l.length ≤ 40 ∨ 4096 < l.length ∧ l.length ≤ 5000))), hh) :=
 Ci_K cfg rfl rfl (by simp) (by simp) (C16 l hs)
end Go.Ab
