/- A part of the proof. -/
import Derived.Test.YtigmnglnedcfpaaGreatDoorGr9
import Derived.Test.YtigmnglnedcfpaaGreatDoorGr8
import Derived.Test.YtigmnglnedcfpaaGreatDoorGr10
import Derived.Test.YtigmnglnedcfpaaGreatDoorGr17
set_option linter.unusedVariables false
set_option linter.unusedSimpArgs false
set_option linter.unusedSectionVars false
set_option linter.deprecated false
namespace Go.Ab
open Go.Proofs
set_option maxRecDepth 100000
set_option maxHeartbeats 1000000
theorem dec_enc {r : Int} (h : point r = true) (t : List UInt8) : dec (encR r ++ t) = (r, ((encR r).length : Int)) := by
 have hp := h
 rw [point_t] at h
 by_cases h1 : r < 128
 ·have he : encR r = [ib r] := by unfold encR; rw [if_pos h1]
  have b0 : ((nth (encR r ++ t) 0).toNat : Int) = r := by rw [he]; exact ib_nat (by omega)
  have hl : longR (nth (encR r ++ t) 0).toNat = (((1 : Nat) : Int), r) := by rw [b0]; unfold longR; rw [if_pos h1]; rfl
  have hv : decV (encR r ++ t) 1 = r := b0
  rw [dec_of hl (by omega), hv, if_pos ⟨by simp [he], by simp [conts], hp, by simp [he]⟩]; simp [he]
 by_cases h2 : r < 2048
 ·have he : encR r = [ib (192 + r / 64), ib (128 + r % 64)] := by unfold encR; rw [if_neg h1, if_pos h2]
  have b0 : ((nth (encR r ++ t) 0).toNat : Int) = 192 + r / 64 := by rw [he]; exact ib_nat (by omega)
  have b1 : ((nth (encR r ++ t) 1).toNat : Int) = 128 + r % 64 := by rw [he]; exact ib_nat (by omega)
  have hl : longR (nth (encR r ++ t) 0).toNat = (((2 : Nat) : Int), r / 64) := by rw [b0]; unfold longR; rw [if_neg (by omega), if_pos (by omega)]; simp; omega
  have hv : decV (encR r ++ t) 2 = r := by
   show ((nth (encR r ++ t) 0).toNat - 192) * 64 + (nth (encR r ++ t) 1).toNat - 128 = r
   omega
  rw [dec_of hl (by omega), hv, if_pos ⟨by simp [he], by simp only [conts]; omega, hp, by simp [he]⟩]; simp [he]
 by_cases h3 : r < 65536
 ·have he : encR r = [ib (224 + r / 4096), ib (128 + r / 64 % 64), ib (128 + r % 64)] := by unfold encR; rw [if_neg h1, if_neg h2, if_pos h3]
  have b0 : ((nth (encR r ++ t) 0).toNat : Int) = 224 + r / 4096 := by rw [he]; exact ib_nat (by omega)
  have b1 : ((nth (encR r ++ t) 1).toNat : Int) = 128 + r / 64 % 64 := by rw [he]; exact ib_nat (by omega)
  have b2 : ((nth (encR r ++ t) 2).toNat : Int) = 128 + r % 64 := by rw [he]; exact ib_nat (by omega)
  have hl : longR (nth (encR r ++ t) 0).toNat = (((3 : Nat) : Int), r / 4096) := by rw [b0]; unfold longR; rw [if_neg (by omega), if_neg (by omega), if_pos (by omega)]; simp; omega
  have hv : decV (encR r ++ t) 3 = r := by
   show (((nth (encR r ++ t) 0).toNat - 224) * 64 + (nth (encR r ++ t) 1).toNat - 128) * 64 + (nth (encR r ++ t) 2).toNat - 128 = r
   omega
  rw [dec_of hl (by omega), hv, if_pos ⟨by simp [he], by simp only [conts]; omega, hp, by simp [he]⟩]; simp [he]
 ·have he : encR r = [ib (240 + r / 262144), ib (128 + r / 4096 % 64), ib (128 + r / 64 % 64), ib (128 + r % 64)] := by unfold encR; rw [if_neg h1, if_neg h2, if_neg h3]
  have b0 : ((nth (encR r ++ t) 0).toNat : Int) = 240 + r / 262144 := by rw [he]; exact ib_nat (by omega)
  have b1 : ((nth (encR r ++ t) 1).toNat : Int) = 128 + r / 4096 % 64 := by rw [he]; exact ib_nat (by omega)
  have b2 : ((nth (encR r ++ t) 2).toNat : Int) = 128 + r / 64 % 64 := by rw [he]; exact ib_nat (by omega)
  have b3 : ((nth (encR r ++ t) 3).toNat : Int) = 128 + r % 64 := by rw [he]; exact ib_nat (by omega)
  have hl : longR (nth (encR r ++ t) 0).toNat = (((4 : Nat) : Int), r / 262144) := by rw [b0]; unfold longR; rw [if_neg (by omega), if_neg (by omega), if_neg (by omega), if_pos (by omega)]; simp; omega
  have hv : decV (encR r ++ t) 4 = r := by
   show ((((nth (encR r ++ t) 0).toNat - 240) * 64 + (nth (encR r ++ t) 1).toNat - 128) * 64 + (nth (encR r ++ t) 2).toNat - 128) * 64 + (nth (encR r ++ t) 3).toNat - 128 = r
   omega
  rw [dec_of hl (by omega), hv, if_pos ⟨by simp [he], by simp only [conts]; omega, hp, by simp [he]⟩]; simp [he]
theorem encR_cont {r : Int} (h : point r = true) {i : Nat} (h1 : 1 ≤ i) (h2 : i < (encR r).length) : 128 ≤ (nth (encR r) i).toNat ∧ (nth (encR r) i).toNat < 192 := by
 rw [point_t] at h
 have key : ∀ x : Int, 128 ≤ x ∧ x < 192 → 128 ≤ (ib x).toNat ∧ (ib x).toNat < 192 := fun x hx => by
  have := ib_nat (n := x) (by omega); omega
 revert h2
 unfold encR
 split
 ·simp; omega
 ·split
  ·intro h2
   simp at h2
   have : i = 1 := by omega
   subst this
   exact key _ (by omega)
  ·split
   ·intro h2
    simp at h2
    have : i = 1 ∨ i = 2 := by omega
    rcases this with rfl | rfl <;> exact key _ (by omega)
   ·intro h2
    simp at h2
    have : i = 1 ∨ i = 2 ∨ i = 3 := by omega
    rcases this with rfl | rfl | rfl <;> exact key _ (by omega)
theorem runes_app : ∀ (l : List Int) (t : List UInt8), l.all point = true → runes (encAll l ++ t) = (runes t).map (l ++ ·)
 | [], t, _ => by simp
 | r :: l, t, h => by
  simp only [List.all_cons, Bool.and_eq_true] at h
  have hl := encR_len r
  have hd := dec_enc h.1 (encAll l ++ t)
  rw [encAll_cons, List.append_assoc, runes_step (by simp; omega) (by rw [hd]; simp), hd]
  simp only [Int.toNat_natCast, List.drop_left]
  rw [runes_app l t h.2]
  simp [Function.comp_def]
theorem runes_encAll {l : List Int} (h : l.all point = true) : runes (encAll l) = some l := by
 have := runes_app l [] h
 rw [List.append_nil, runes_nil] at this
 simpa using this
theorem encAll_inj {a b : List Int} (ha : a.all point = true) (hb : b.all point = true) (h : encAll a = encAll b) : a = b := by
 have h1 := runes_encAll ha
 rw [h, runes_encAll hb] at h1
 simpa using h1.symm
theorem runes_append {a b : List UInt8} {x : List Int} (h : runes a = some x) : runes (a ++ b) = (runes b).map (x ++ ·) := by
 obtain ⟨h1, h2⟩ := runes_enc' h
 conv => lhs; rw [← h1]
 exact runes_app x b h2
theorem dec_cont {s : List UInt8} (h : 128 ≤ (nth s 0).toNat ∧ (nth s 0).toNat < 192) : dec s = (0, 0) := dec0 (.inl (by omega))
theorem runes_cut : ∀ (z : List Int) (a b : List UInt8), encAll z = a ++ b → z.all point = true → (runes b).isSome = true → (runes a).isSome = true
 | [], a, b, h, _, _ => by
  have : a = [] := by
   have := congrArg List.length h
   simp at this
   exact List.eq_nil_of_length_eq_zero (by omega)
  subst this; simp [runes_nil]
 | r :: z, a, b, h, hz, hb => by
  simp only [List.all_cons, Bool.and_eq_true] at hz
  by_cases ha : a = []
  ·subst ha; simp [runes_nil]
  rw [encAll_cons] at h
  rcases List.append_eq_append_iff.1 h with ⟨a', h1, h2⟩ | ⟨b', h1, h2⟩
  ·have ih := runes_cut z a' b h2 hz.2 hb
   obtain ⟨x, hx⟩ := Option.isSome_iff_exists.1 ih
   have hr : runes (encR r) = some [r] := by
    have := runes_encAll (l := [r]) (by simp [hz.1])
    simpa using this
   rw [h1, runes_append hr, hx]; rfl
  ·by_cases hb' : b' = []
   ·subst hb'
    rw [List.append_nil] at h1
    have hr : runes (encR r) = some [r] := by
     have := runes_encAll (l := [r]) (by simp [hz.1])
     simpa using this
    rw [← h1, hr]; rfl
   ·exfalso
    have hlen := congrArg List.length h1
    rw [List.length_append] at hlen
    have hal := List.length_pos_iff.2 ha
    have hbl := List.length_pos_iff.2 hb'
    have hn : nth b 0 = nth (encR r) a.length := by
     rw [h2, h1, nth_append_left hbl, nth_append_right (Nat.le_refl _), Nat.sub_self]
    have hc := encR_cont hz.1 (i := a.length) (by omega) (by omega)
    rw [← hn] at hc
    have hd := dec_cont hc
    have hne : 0 < b.length := by rw [h2]; simp; omega
    rw [runes_bad hne (by rw [hd])] at hb
    cases hb
theorem splitW_nonempty : ∀ (l w p : List Int), p ∈ splitW w l → p ≠ []
 | [], w, p, h => by
  unfold splitW at h
  split at h
  ·cases h
  ·rename_i hw; simp only [List.mem_singleton] at h; subst h; exact hw
 | c :: l, w, p, h => by
  unfold splitW at h
  split at h
  ·split at h
   ·exact splitW_nonempty l [] p h
   ·rename_i hw
    rcases List.mem_cons.1 h with rfl | h
    ·exact hw
    ·exact splitW_nonempty l [] p h
  ·exact splitW_nonempty l _ p h
theorem splitW_nospace : ∀ (l w p : List Int), (∀ x ∈ w, spaceR x = false) → p ∈ splitW w l → ∀ x ∈ p, spaceR x = false
 | [], w, p, hw, h => by
  unfold splitW at h
  split at h
  ·cases h
  ·simp only [List.mem_singleton] at h; subst h; exact hw
 | c :: l, w, p, hw, h => by
  unfold splitW at h
  split at h
  ·split at h
   ·exact splitW_nospace l [] p (by simp) h
   ·rcases List.mem_cons.1 h with rfl | h
    ·exact hw
    ·exact splitW_nospace l [] p (by simp) h
  ·rename_i hc
   refine splitW_nospace l _ p (fun x hx => ?_) h
   rcases List.mem_append.1 hx with hx | hx
   ·exact hw x hx
   ·simp only [List.mem_singleton] at hx; subst hx; simpa using hc
theorem splitW_point : ∀ (l w p : List Int), w.all point = true → l.all point = true → p ∈ splitW w l → p.all point = true
 | [], w, p, hw, _, h => by
  unfold splitW at h
  split at h
  ·cases h
  ·simp only [List.mem_singleton] at h; subst h; exact hw
 | c :: l, w, p, hw, hl, h => by
  simp only [List.all_cons, Bool.and_eq_true] at hl
  unfold splitW at h
  split at h
  ·split at h
   ·exact splitW_point l [] p (by simp) hl.2 h
   ·rcases List.mem_cons.1 h with rfl | h
    ·exact hw
    ·exact splitW_point l [] p (by simp) hl.2 h
  ·exact splitW_point l _ p (by simp [hw, hl.1]) hl.2 h
theorem splitW_sum : ∀ (l w : List Int), ((splitW w l).map fun p => (encAll p).length).sum ≤ (encAll w).length + (encAll l).length
 | [], w => by
  unfold splitW
  split <;> simp
 | c :: l, w => by
  have h1 := splitW_sum l []
  have h2 := splitW_sum l (w ++ [c])
  simp at h1 h2
  unfold splitW
  split
  ·split <;> simp <;> omega
  ·simp; omega
theorem splitW_word : ∀ (p w l : List Int), (∀ x ∈ p, spaceR x = false) → splitW w (p ++ l) = splitW (w ++ p) l
 | [], w, l, _ => by simp
 | c :: p, w, l, h => by
  have hc := h c (by simp)
  show (if spaceR c then _ else splitW (w ++ [c]) (p ++ l)) = _
  rw [hc]
  simp only [Bool.false_eq_true, if_false]
  rw [splitW_word p _ l (fun x hx => h x (List.mem_cons_of_mem _ hx)), List.append_assoc]; rfl
theorem splitW_gap0 : ∀ (g l : List Int), (∀ x ∈ g, spaceR x = true) → splitW [] (g ++ l) = splitW [] l
 | [], l, _ => by simp
 | c :: g, l, h => by
  have hc := h c (by simp)
  show (if spaceR c then (if ([] : List Int) = [] then splitW [] (g ++ l) else _) else _) = _
  rw [hc, if_pos rfl, if_pos rfl]
  exact splitW_gap0 g l (fun x hx => h x (List.mem_cons_of_mem _ hx))
theorem splitW_gap {w g : List Int} (l : List Int) (hw : w ≠ []) (hg : g ≠ []) (h : ∀ x ∈ g, spaceR x = true) : splitW w (g ++ l) = w :: splitW [] l := by
 cases g with
 | nil => exact absurd rfl hg
 | cons c g =>
  have hc := h c (by simp)
  show (if spaceR c then (if w = [] then _ else w :: splitW [] (g ++ l)) else _) = _
  rw [hc, if_pos rfl, if_neg hw, splitW_gap0 g l (fun x hx => h x (List.mem_cons_of_mem _ hx))]
theorem splitW_one {w : List Int} (hw : w ≠ []) (h : ∀ x ∈ w, spaceR x = false) : splitW [] w = [w] := by
 have := splitW_word w [] [] h
 rw [List.append_nil, List.nil_append] at this
 rw [this]; unfold splitW; rw [if_neg hw]
theorem join_of_runes {s : List UInt8} (h : (runesG s).2 = 0) : joinG (runesG s).1 = (s, 0) := by
 obtain ⟨h1, h2⟩ := runesG_all h
 obtain ⟨h3, h4⟩ := runes_enc' h2
 rw [joinG_part h4 (by rw [h3]; exact h1), h3]
theorem runesG_bad {s : List UInt8} (h : ¬ (runesG s).2 = 0) : (runesG s).1 = [] := by
 unfold runesG at h ⊢
 split
 ·rfl
 ·rename_i h1
  rw [if_neg h1] at h
  cases hr : runes s with
  | none => rfl
  | some l => rw [hr] at h; simp at h
theorem joinG_bad {l : List Int} (h : ¬ (joinG l).2 = 0) : (joinG l).1 = [] := by
 unfold joinG at h ⊢
 split
 ·split
  ·rfl
  ·rename_i h1 h2; rw [if_pos h1, if_neg h2] at h; simp at h
 ·rfl
theorem joinG_all {l : List Int} (h : (joinG l).2 = 0) : l.all point = true ∧ (encAll l).length ≤ 4096 ∧ (joinG l).1 = encAll l := by
 unfold joinG at h ⊢
 split
 ·rename_i h1
  split
  ·rename_i h2; rw [if_pos h1, if_pos h2] at h; simp at h
  ·exact ⟨h1, by omega, rfl⟩
 ·rename_i h1; rw [if_neg h1] at h; simp at h
theorem runes_of_join {l : List Int} (h : (joinG l).2 = 0) : runesG (joinG l).1 = (l, 0) := by
 obtain ⟨h1, h2, h3⟩ := joinG_all h
 rw [h3]
 exact runesG_some h2 (runes_encAll h1)
theorem splitW_len : ∀ (l w : List Int), (splitW w l).length ≤ l.length + 1
 | [], w => by unfold splitW; split <;> simp
 | c :: r, w => by
  have h1 := splitW_len r []
  have h2 := splitW_len r (w ++ [c])
  unfold splitW
  split
  ·split <;> simp <;> omega
  ·simp; omega
theorem sum_le_mem {α : Type} {f : α → Nat} {l : List α} {x : α} (h : x ∈ l) : f x ≤ (l.map f).sum := by
 induction l with
 | nil => cases h
 | cons y l ih =>
  simp only [List.map_cons, List.sum_cons]
  rcases List.mem_cons.1 h with rfl | h
  ·omega
  ·have := ih h; omega
end Go.Ab
namespace Go.Ab
open Go.Proofs
set_option maxRecDepth 100000
def needW (v : VwZ) (s : List UInt8) : Int × Int := if vwR v = true then (v.speed * (runesG s).1.length, (runesG s).2) else (0, 450)
def codeW (x : List Int × List Int × Bool × Int) : Int × Int := if x.2.2.2 = 0 then (if x.2.2.1 = true then ((x.2.1.length : Int), 0) else (0, 450)) else (0, x.2.2.2)
def widthW (v : VwZ) (s : List UInt8) : Int × Int :=
 if vwR v = true then (if (runesG s).2 = 0 then (if v.cells = 0 then widthS v.font s else codeW (encodeZ v.signs s)) else (0, (runesG s).2)) else (0, 450)
def shapeW (v : VwZ) (s : List UInt8) : List UInt8 × Int :=
 if vwR v = true then (if (runesG s).2 = 0 then (if v.cells = 0 then showS s v.right else (s, 0)) else ([], (runesG s).2)) else ([], 450)
theorem vwR_speed {v : VwZ} (h : vwR v = true) : 0 ≤ v.speed ∧ v.speed ≤ 1000 := by
 have h1 : baseB v = true := by
  cases hb : baseB v with
  | true => rfl
  | false => rw [vwR_base hb] at h; cases h
 have h2 := (baseB_t.1 h1).2.2.2.1
 rwa [inB_t] at h2
theorem need_wrap {v : VwZ} (s : List UInt8) (h : vwR v = true) : IntKind.i64.wrap (v.speed * ((runesG s).1.length : Int)) = v.speed * ((runesG s).1.length : Int) := by
 obtain ⟨h1, h2⟩ := vwR_speed h
 have h3 := runesG_len' s
 have h4 : 0 ≤ v.speed * ((runesG s).1.length : Int) := Int.mul_nonneg h1 (by omega)
 have h5 : v.speed * ((runesG s).1.length : Int) ≤ 1000 * 4096 := Int.mul_le_mul h2 (by omega) (by omega) (by omega)
 exact wrap64 (by omega)
end Go.Ab
