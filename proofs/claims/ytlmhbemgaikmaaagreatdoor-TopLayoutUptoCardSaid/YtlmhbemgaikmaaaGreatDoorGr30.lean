/- A part of the proof. -/
import Derived.Test.YtlmhbemgaikmaaaGreatDoorU
import Derived.Test.YtlmhbemgaikmaaaGreatDoorAbsD
import Derived.Test.YtlmhbemgaikmaaaGreatDoorGr5
import Derived.Test.YtlmhbemgaikmaaaGreatDoorGr23
import Derived.Test.YtlmhbemgaikmaaaGreatDoorGr29
set_option linter.unusedVariables false
set_option linter.unusedSimpArgs false
set_option linter.unusedSectionVars false
set_option linter.deprecated false
namespace Go.Ab
set_option maxRecDepth 100000
structure QnZ where
 ready : List Int
 need : List Int
 most : Int
 flip : Int
def qOk (q : QnZ) : Prop := q.ready.length ≤ 64 ∧ q.need.length = q.ready.length ∧ 1 ≤ q.most ∧ q.most ≤ 8 ∧ 0 ≤ q.flip ∧ q.flip ≤ 1073741824 ∧
 (∀ i, i < q.ready.length → 0 ≤ nth q.ready i ∧ nth q.ready i ≤ 1099511627775 ∧ 0 ≤ nth q.need i ∧ nth q.need i ≤ 1073741824) ∧ ∀ i, i + 1 < q.ready.length → nth q.ready i ≤ nth q.ready (i + 1)
def smS (q : QnZ) (i : Nat) : Int := sumTo i (nth q.need)
theorem smS_zero (q : QnZ) : smS q 0 = 0 := sumTo_zero _
theorem smS_succ (q : QnZ) (i : Nat) : smS q (i + 1) = smS q i + nth q.need i := sumTo_succ _ _
theorem smS_in {q : QnZ} (h : qOk q) : ∀ {i : Nat}, i ≤ q.ready.length → 0 ≤ smS q i ∧ smS q i ≤ 1073741824 * (i : Int)
 | 0, _ => by rw [smS_zero]; exact ⟨Int.le_refl _, by omega⟩
 | i + 1, hi => by
  have h1 := smS_in h (i := i) (by omega)
  have h2 := (h.2.2.2.2.2.2.1 i (by omega)).2.2
  rw [smS_succ]; omega
theorem smS_le {q : QnZ} (h : qOk q) {i j : Nat} (hij : i ≤ j) (hj : j ≤ q.ready.length) : smS q i ≤ smS q j := by
 induction j with
 | zero => rw [show i = 0 by omega]; exact Int.le_refl _
 | succ j ih =>
  rcases Nat.lt_or_ge i (j + 1) with h1 | h1
  ·have h2 := (h.2.2.2.2.2.2.1 j (by omega)).2.2
   have := ih (by omega) (by omega)
   rw [smS_succ]; omega
  ·rw [show i = j + 1 by omega]; exact Int.le_refl _
def enS (q : QnZ) (i j : Nat) (b : Int) : Int := (if 0 < i then max (nth q.ready (j - 1)) (b + q.flip) else nth q.ready (j - 1)) + smS q j - smS q i
theorem enS_mono {q : QnZ} {i j : Nat} {a b : Int} (h : a ≤ b) : enS q i j a ≤ enS q i j b := by unfold enS; split <;> omega
theorem enS_in {q : QnZ} (h : qOk q) {i j : Nat} {b : Int} (hij : i < j) (hj : j ≤ q.ready.length) (h0 : 0 ≤ b) : 0 ≤ enS q i j b ∧ (b ≤ 1100585369599 + 2147483648 * (i : Int) → enS q i j b ≤ 1100585369599 + 2147483648 * (j : Int)) := by
 have h1 := h.2.2.2.2.2.2.1 (j - 1) (by omega)
 have h2 := h.2
 have h3 := smS_le h (show i ≤ j by omega) hj
 have h4 : smS q j - smS q i ≤ 1073741824 * ((j : Int) - i) := by
  have key : ∀ d, i + d ≤ q.ready.length → smS q (i + d) - smS q i ≤ 1073741824 * (d : Int) := by
   intro d
   induction d with
   | zero => intro _; simp
   | succ d ih =>
    intro hd
    have := ih (by omega)
    have h5 := (h.2.2.2.2.2.2.1 (i + d) (by omega)).2.2
    rw [show i + (d + 1) = i + d + 1 by omega, smS_succ]
    omega
  have := key (j - i) (by omega)
  rw [show i + (j - i) = j by omega] at this
  omega
 unfold enS
 split <;> constructor <;> omega
def loS (q : QnZ) (j : Nat) : Nat := j - q.most.toNat
theorem min_or (a b : Int) : min a b = a ∨ min a b = b := by omega
def mnS (q : QnZ) (f : Nat → Int) (j : Nat) : Nat → Int
 | 0 => 4398046511104
 | k + 1 => min (mnS q f j k) (enS q (loS q j + k) j (f (loS q j + k)))
theorem mnS_le (q : QnZ) (f : Nat → Int) (j : Nat) : ∀ k i, i < k → mnS q f j k ≤ enS q (loS q j + i) j (f (loS q j + i))
 | 0, _, h => by omega
 | k + 1, i, h => by
  rw [mnS]
  by_cases e : i = k
  ·subst e; exact Int.min_le_right _ _
  ·have := mnS_le q f j k i (by omega); omega
theorem mnS_at (q : QnZ) (f : Nat → Int) (j : Nat) : ∀ k, mnS q f j k = 4398046511104 ∨ ∃ i, i < k ∧ mnS q f j k = enS q (loS q j + i) j (f (loS q j + i))
 | 0 => .inl rfl
 | k + 1 => by
  rw [mnS]
  rcases mnS_at q f j k with h | ⟨i, hi, h⟩
  ·rcases min_or (mnS q f j k) (enS q (loS q j + k) j (f (loS q j + k))) with e | e
   ·rw [e]; exact .inl h
   ·rw [e]; exact .inr ⟨k, by omega, rfl⟩
  ·rcases min_or (mnS q f j k) (enS q (loS q j + k) j (f (loS q j + k))) with e | e
   ·rw [e]; exact .inr ⟨i, by omega, h⟩
   ·rw [e]; exact .inr ⟨k, by omega, rfl⟩
def eaS (q : QnZ) : Nat → Nat → Int
 | 0 => fun _ => 0
 | m + 1 => updI (eaS q m) (m + 1) (mnS q (eaS q m) (m + 1) (m + 1 - loS q (m + 1)))
theorem eaS_keep (q : QnZ) : ∀ {m i : Nat}, i ≤ m → ∀ d, eaS q (m + d) i = eaS q m i
 | m, i, h, 0 => rfl
 | m, i, h, d + 1 => by
  show updI (eaS q (m + d)) (m + d + 1) _ i = _
  rw [updI_ne (by omega)]; exact eaS_keep q h d
def erS (q : QnZ) (j : Nat) : Int := eaS q j j
theorem erS_of (q : QnZ) {m i : Nat} (h : i ≤ m) : eaS q m i = erS q i := by
 have := eaS_keep q (Nat.le_refl i) (m - i)
 rwa [show i + (m - i) = m by omega] at this
theorem erS_zero (q : QnZ) : erS q 0 = 0 := rfl
theorem mnS_congr (q : QnZ) {f g : Nat → Int} (j : Nat) : ∀ {k : Nat}, (∀ i, i < k → f (loS q j + i) = g (loS q j + i)) → mnS q f j k = mnS q g j k
 | 0, _ => rfl
 | k + 1, h => by rw [mnS, mnS, mnS_congr q j (fun i hi => h i (by omega)), h k (by omega)]
theorem erS_succ (q : QnZ) (j : Nat) : erS q (j + 1) = mnS q (erS q) (j + 1) (j + 1 - loS q (j + 1)) := by
 show updI (eaS q j) (j + 1) _ (j + 1) = _
 rw [updI_same]
 exact mnS_congr q _ (fun i hi => erS_of q (by omega))
theorem erS_le (q : QnZ) {i j : Nat} (h1 : loS q j ≤ i) (h2 : i < j) : erS q j ≤ enS q i j (erS q i) := by
 obtain ⟨j, rfl⟩ : ∃ j', j = j' + 1 := ⟨j - 1, by omega⟩
 rw [erS_succ]
 have := mnS_le q (erS q) (j + 1) (j + 1 - loS q (j + 1)) (i - loS q (j + 1)) (by omega)
 rwa [show loS q (j + 1) + (i - loS q (j + 1)) = i by omega] at this
theorem loS_lt {q : QnZ} (h : qOk q) {j : Nat} (hj : 0 < j) : loS q j < j := by
 have := h.2.2.1
 unfold loS; omega
theorem erS_ok {q : QnZ} (h : qOk q) : ∀ {j : Nat}, j ≤ q.ready.length → 0 ≤ erS q j ∧ erS q j ≤ 1100585369599 + 2147483648 * (j : Int) ∧ (0 < j → ∃ i, loS q j ≤ i ∧ i < j ∧ erS q j = enS q i j (erS q i)) := by
 intro j
 induction j using Nat.strongRecOn with
 | _ j ih =>
  intro hj
  cases j with
  | zero => exact ⟨Int.le_refl _, by rw [erS_zero]; omega, fun h => by omega⟩
  | succ j =>
   have hlt := loS_lt h (show 0 < j + 1 by omega)
   have hb : erS q (j + 1) ≤ 1100585369599 + 2147483648 * ((j + 1 : Nat) : Int) := by
    have h1 := erS_le q (Nat.le_refl _) hlt
    have h2 := ih _ hlt (by omega)
    have h3 := (enS_in h hlt hj h2.1).2 h2.2.1
    omega
   rcases mnS_at q (erS q) (j + 1) (j + 1 - loS q (j + 1)) with e | ⟨i, hi, e⟩
   ·rw [← erS_succ] at e
    have := h.1
    exfalso; omega
   ·rw [← erS_succ] at e
    have h2 := ih (loS q (j + 1) + i) (by omega) (by omega)
    have h3 := (enS_in h (show loS q (j + 1) + i < j + 1 by omega) hj h2.1).1
    exact ⟨by omega, hb, fun _ => ⟨_, by omega, by omega, e⟩⟩
def lsS (q : QnZ) (j : Nat) (l : Nat → Int) (i : Nat) : Nat → Int := if nth q.ready (j - 1) + (smS q j - smS q i) ≤ l j then updI l i (max (l i) (l j - (smS q j - smS q i) - q.flip)) else l
def liS (q : QnZ) (j : Nat) (l : Nat → Int) : Nat → Nat → Int
 | 0 => l
 | k + 1 => lsS q j (liS q j l k) (loS q j + k)
def laS (q : QnZ) (d : Int) : Nat → Nat → Int
 | 0 => updI (fun i => if i < q.ready.length then -1152921504606846976 else 0) q.ready.length d
 | m + 1 => liS q (q.ready.length - m) (laS q d m) (q.ready.length - m - loS q (q.ready.length - m))
end Go.Ab
namespace Go.Ab
set_option maxRecDepth 100000
def nvS : Int := -1152921504606846976
def ndS (q : QnZ) (i j : Nat) : Int := smS q j - smS q i
def cdS (q : QnZ) (l : Nat → Int) (i j : Nat) : Prop := nth q.ready (j - 1) + (smS q j - smS q i) ≤ l j
structure PdS (q : QnZ) (d : Int) (S : Nat → Nat → Prop) (l : Nat → Int) : Prop where
 top : l q.ready.length = d
 low : ∀ i j, S i j → cdS q l i j → l j - (smS q j - smS q i) - q.flip ≤ l i
 at' : ∀ i, i < q.ready.length → l i = nvS ∨ ∃ j, S i j ∧ cdS q l i j ∧ l i = l j - (smS q j - smS q i) - q.flip
 bound : ∀ i, i ≤ q.ready.length → nvS ≤ l i ∧ l i ≤ d
theorem lsS_step {q : QnZ} (hq : qOk q) {d : Int} {S S' : Nat → Nat → Prop} {l : Nat → Int} {i0 J : Nat} (h : PdS q d S l) (hS : ∀ i j, S i j → J ≤ j) (hi : i0 < J) (hJ : J ≤ q.ready.length) (hS' : ∀ i j, S' i j ↔ S i j ∨ (i = i0 ∧ j = J)) : PdS q d S' (lsS q J l i0) := by
 have hsm := smS_le hq (Nat.le_of_lt hi) hJ
 have hfl := hq.2.2.2.2.1
 by_cases hc : cdS q l i0 J
 ·have hl : lsS q J l i0 = updI l i0 (max (l i0) (l J - (smS q J - smS q i0) - q.flip)) := if_pos hc
  rw [hl]
  have hk : ∀ j, J ≤ j → updI l i0 (max (l i0) (l J - (smS q J - smS q i0) - q.flip)) j = l j := fun j hj => updI_ne (by omega)
  have hge : ∀ i, l i ≤ updI l i0 (max (l i0) (l J - (smS q J - smS q i0) - q.flip)) i := fun i => by
   unfold updI; split
   ·rename_i e; subst e; exact Int.le_max_left _ _
   ·exact Int.le_refl _
  refine ⟨by rw [hk _ hJ]; exact h.top, fun i j hs hcd => ?_, fun i hin => ?_, fun i hin => ?_⟩
  ·have hj : J ≤ j := by
    rcases (hS' i j).1 hs with x | x
    ·exact hS i j x
    ·omega
   unfold cdS at hcd
   rw [hk j hj] at hcd ⊢
   rcases (hS' i j).1 hs with x | ⟨rfl, rfl⟩
   ·have := h.low i j x hcd; have := hge i; omega
   ·rw [updI_same]; exact Int.le_max_right _ _
  ·have old : l i = nvS ∨ ∃ j, S i j ∧ cdS q l i j ∧ l i = l j - (smS q j - smS q i) - q.flip := h.at' i hin
   have lift : ∀ x : Int, (x = nvS ∨ ∃ j, S i j ∧ cdS q l i j ∧ x = l j - (smS q j - smS q i) - q.flip) →
     x = nvS ∨ ∃ j, S' i j ∧ cdS q (updI l i0 (max (l i0) (l J - (smS q J - smS q i0) - q.flip))) i j ∧ x = updI l i0 (max (l i0) (l J - (smS q J - smS q i0) - q.flip)) j - (smS q j - smS q i) - q.flip := by
    rintro x (e | ⟨j, a, b, c⟩)
    ·exact .inl e
    ·refine .inr ⟨j, (hS' i j).2 (.inl a), ?_, ?_⟩
     ·unfold cdS; rw [hk j (hS i j a)]; exact b
     ·rw [hk j (hS i j a)]; exact c
   by_cases e : i = i0
   ·subst e
    rw [updI_same]
    rcases Int.le_total (l J - (smS q J - smS q i) - q.flip) (l i) with m | m
    ·rw [Int.max_eq_left m]
     have := lift _ old
     rwa [Int.max_eq_left m] at this
    ·rw [Int.max_eq_right m]
     refine .inr ⟨J, (hS' i J).2 (.inr ⟨rfl, rfl⟩), ?_, ?_⟩
     ·unfold cdS; rw [updI_ne (by omega)]; exact hc
     ·rw [updI_ne (by omega)]
   ·rw [show updI l i0 (max (l i0) (l J - (smS q J - smS q i0) - q.flip)) i = l i from updI_ne e]
    exact lift _ old
  ·have b1 := h.bound i hin
   have b2 := h.bound J hJ
   unfold updI
   split
   ·rename_i e; subst e; omega
   ·exact b1
 ·have hl : lsS q J l i0 = l := if_neg hc
  rw [hl]
  refine ⟨h.top, fun i j hs hcd => ?_, fun i hin => ?_, h.bound⟩
  ·rcases (hS' i j).1 hs with x | ⟨rfl, rfl⟩
   ·exact h.low i j x hcd
   ·exact absurd hcd hc
  ·rcases h.at' i hin with e | ⟨j, a, b, c⟩
   ·exact .inl e
   ·exact .inr ⟨j, (hS' i j).2 (.inl a), b, c⟩
def SdS (q : QnZ) (m k : Nat) (i j : Nat) : Prop := loS q j ≤ i ∧ i < j ∧ j ≤ q.ready.length ∧ (q.ready.length - m < j ∨ (j = q.ready.length - m ∧ i < loS q j + k))
theorem PdS_congr {q : QnZ} {d : Int} {S S' : Nat → Nat → Prop} {l : Nat → Int} (h : PdS q d S l) (e : ∀ i j, S' i j ↔ S i j) : PdS q d S' l :=
 ⟨h.top, fun i j a => h.low i j ((e i j).1 a), fun i hi => by
  rcases h.at' i hi with x | ⟨j, a, b⟩
  ·exact .inl x
  ·exact .inr ⟨j, (e i j).2 a, b⟩, h.bound⟩
theorem liS_ok {q : QnZ} (hq : qOk q) {d : Int} {m : Nat} (hm : m < q.ready.length) (h : PdS q d (SdS q m 0) (laS q d m)) : ∀ k, k ≤ q.ready.length - m - loS q (q.ready.length - m) → PdS q d (SdS q m k) (liS q (q.ready.length - m) (laS q d m) k)
 | 0, _ => h
 | k + 1, hk => by
  have ih := liS_ok hq hm h k (by omega)
  refine lsS_step hq ih (fun i j hs => ?_) (by omega) (by omega) (fun i j => ?_)
  ·unfold SdS at hs; omega
  ·unfold SdS
   by_cases e : j = q.ready.length - m
   ·subst e; omega
   ·constructor <;> intro x <;> omega
theorem laS_ok {q : QnZ} (hq : qOk q) {d : Int} (hd : 0 ≤ d) : ∀ m, m ≤ q.ready.length → PdS q d (SdS q m 0) (laS q d m)
 | 0, _ => by
  refine ⟨updI_same _ _ _, fun i j hs => ?_, fun i hi => .inl ?_, fun i hi => ?_⟩
  ·unfold SdS at hs; omega
  ·show updI _ _ _ i = _; rw [updI_ne (by omega), if_pos hi]; rfl
  ·show nvS ≤ updI _ _ _ i ∧ updI _ _ _ i ≤ d
   unfold updI nvS
   split
   ·omega
   ·simp only []; rw [if_pos (by omega)]; omega
 | m + 1, hm => by
  have ih := laS_ok hq hd m (by omega)
  refine PdS_congr (liS_ok hq (by omega) ih _ (Nat.le_refl _)) (fun i j => ?_)
  unfold SdS
  by_cases e : j = q.ready.length - m
  ·subst e; omega
  ·constructor <;> intro x <;> omega
def ltS (q : QnZ) : Nat → Int := laS q (erS q q.ready.length) q.ready.length
theorem ltS_ok {q : QnZ} (hq : qOk q) : PdS q (erS q q.ready.length) (fun i j => loS q j ≤ i ∧ i < j ∧ j ≤ q.ready.length) (ltS q) :=
 PdS_congr (laS_ok hq (erS_ok hq (Nat.le_refl _)).1 _ (Nat.le_refl _)) (fun i j => by unfold SdS; constructor <;> intro x <;> omega)
theorem enS_nd (q : QnZ) (i j : Nat) (b : Int) : nth q.ready (j - 1) + (smS q j - smS q i) ≤ enS q i j b ∧ (0 < i → b + q.flip + (smS q j - smS q i) ≤ enS q i j b) := by
 unfold enS; split <;> constructor <;> omega
theorem first_ok {q : QnZ} (hq : qOk q) : ∀ {j : Nat}, 0 < j → j ≤ q.ready.length → erS q j ≤ ltS q j → ∃ j', 0 < j' ∧ j' ≤ q.ready.length ∧ loS q j' ≤ 0 ∧ enS q 0 j' 0 ≤ ltS q j' := by
 intro j
 induction j using Nat.strongRecOn with
 | _ j ih =>
  intro h0 hj hle
  obtain ⟨i, h1, h2, h3⟩ := (erS_ok hq hj).2.2 h0
  rcases Nat.eq_zero_or_pos i with e | e
  ·subst e
   exact ⟨j, h0, hj, h1, by rw [erS_zero] at h3; omega⟩
  ·have h4 := enS_nd q i j (erS q i)
   have h5 := (ltS_ok hq).low i j ⟨h1, h2, hj⟩ (show nth q.ready (j - 1) + (smS q j - smS q i) ≤ ltS q j by omega)
   have := h4.2 e
   exact ih i h2 e (by omega) (by omega)
def onS (q : QnZ) (i : Nat) (a : Int) : Prop := (i = 0 ∧ a = 0) ∨ (0 < i ∧ 0 ≤ a ∧ a ≤ ltS q i)
theorem on_next {q : QnZ} (hq : qOk q) {i : Nat} {a : Int} (hi : i < q.ready.length) (h : onS q i a) : ∃ j, i < j ∧ j ≤ q.ready.length ∧ loS q j ≤ i ∧ enS q i j a ≤ ltS q j := by
 rcases h with ⟨rfl, rfl⟩ | ⟨h0, h1, h2⟩
 ·obtain ⟨j, a, b, c, d⟩ := first_ok hq (j := q.ready.length) (by omega) (Nat.le_refl _) (by rw [(ltS_ok hq).top]; exact Int.le_refl _)
  exact ⟨j, a, b, c, d⟩
 ·rcases (ltS_ok hq).at' i hi with e | ⟨j, ⟨b1, b2, b3⟩, c, d⟩
  ·unfold nvS at e; omega
  ·refine ⟨j, b2, b3, b1, ?_⟩
   unfold cdS at c
   unfold enS
   rw [if_pos h0]
   omega
def nxF (P : Nat → Bool) : Nat → Nat → Nat
 | 0, j => j
 | m + 1, j => if P j then j else nxF P m (j + 1)
theorem nxF_ok (P : Nat → Bool) : ∀ {m j j0 : Nat}, j ≤ j0 → j0 < j + m → P j0 = true → P (nxF P m j) = true ∧ j ≤ nxF P m j ∧ nxF P m j ≤ j0
 | 0, j, j0, h1, h2, _ => by omega
 | m + 1, j, j0, h1, h2, h3 => by
  unfold nxF
  split
  ·rename_i h; exact ⟨h, Nat.le_refl _, h1⟩
  ·rename_i h
   have hne : j ≠ j0 := fun e => h (e ▸ h3)
   have := nxF_ok P (m := m) (j := j + 1) (j0 := j0) (by omega) (by omega) h3
   exact ⟨this.1, by omega, this.2.2⟩
def fitQ (q : QnZ) (i : Nat) (a : Int) (j : Nat) : Bool := decide (enS q i j a ≤ ltS q j)
def nxS (q : QnZ) (i : Nat) (a : Int) : Nat := nxF (fitQ q i a) (q.ready.length - i) (i + 1)
theorem nxS_ok {q : QnZ} (hq : qOk q) {i : Nat} {a : Int} (hi : i < q.ready.length) (h : onS q i a) : i < nxS q i a ∧ nxS q i a ≤ q.ready.length ∧ loS q (nxS q i a) ≤ i ∧ enS q i (nxS q i a) a ≤ ltS q (nxS q i a) ∧ onS q (nxS q i a) (enS q i (nxS q i a) a) := by
 obtain ⟨j, h1, h2, h3, h4⟩ := on_next hq hi h
 obtain ⟨k1, k2, k3⟩ := nxF_ok (fitQ q i a) (m := q.ready.length - i) (j := i + 1) (j0 := j) (by omega) (by omega) (decide_eq_true h4)
 have k4 := of_decide_eq_true k1
 have k5 : loS q (nxS q i a) ≤ i := by unfold loS at h3 ⊢; unfold nxS; omega
 have ha : 0 ≤ a := by rcases h with ⟨_, e⟩ | ⟨_, e, _⟩ <;> omega
 refine ⟨k2, by unfold nxS; omega, k5, k4, .inr ⟨by unfold nxS; omega, ?_, k4⟩⟩
 exact (enS_in hq (i := i) (j := nxS q i a) (by unfold nxS; omega) (by unfold nxS; omega) ha).1
def grS (q : QnZ) : Nat → Nat → Int → List Nat
 | 0, _, _ => []
 | m + 1, i, a => if i < q.ready.length then nxS q i a :: grS q m (nxS q i a) (enS q i (nxS q i a) a) else []
def okG (q : QnZ) : Nat → List Nat → Prop
 | i, [] => i = q.ready.length
 | i, e :: r => i < e ∧ e ≤ q.ready.length ∧ loS q e ≤ i ∧ okG q e r
def dnG (q : QnZ) : Nat → Int → List Nat → Int
 | _, a, [] => a
 | i, a, e :: r => dnG q e (enS q i e a) r
theorem okG_best {q : QnZ} : ∀ {L : List Nat} {i : Nat} {a : Int}, okG q i L → erS q i ≤ a → erS q q.ready.length ≤ dnG q i a L
 | [], i, a, h, k => by have h : i = q.ready.length := h; subst h; exact k
 | e :: r, i, a, ⟨h1, h2, h3, h4⟩, k => okG_best (L := r) h4 (by have := erS_le q h3 h1; have := enS_mono (q := q) (i := i) (j := e) k; omega)
theorem grS_ok {q : QnZ} (hq : qOk q) : ∀ {m i : Nat} {a : Int}, q.ready.length ≤ i + m → i ≤ q.ready.length → onS q i a → okG q i (grS q m i a) ∧ (i = 0 → q.ready.length = 0 → dnG q i a (grS q m i a) = 0) ∧ (0 < q.ready.length → dnG q i a (grS q m i a) ≤ erS q q.ready.length)
 | 0, i, a, h1, h2, h3 => by
  have e : i = q.ready.length := by omega
  refine ⟨e, fun x y => ?_, fun x => ?_⟩
  ·rcases h3 with ⟨_, z⟩ | ⟨z, _⟩
   ·exact z
   ·omega
  ·rcases h3 with ⟨z, _⟩ | ⟨_, _, z⟩
   ·omega
   ·rw [e, (ltS_ok hq).top] at z; exact z
 | m + 1, i, a, h1, h2, h3 => by
  unfold grS
  by_cases hi : i < q.ready.length
  ·rw [if_pos hi]
   obtain ⟨k1, k2, k3, k4, k5⟩ := nxS_ok hq hi h3
   have ih := grS_ok hq (m := m) (i := nxS q i a) (a := enS q i (nxS q i a) a) (by omega) k2 k5
   exact ⟨⟨k1, k2, k3, ih.1⟩, fun _ y => by omega, ih.2.2⟩
  ·rw [if_neg hi]
   have e : i = q.ready.length := by omega
   refine ⟨e, fun x y => ?_, fun x => ?_⟩
   ·rcases h3 with ⟨_, z⟩ | ⟨z, _⟩
    ·exact z
    ·omega
   ·rcases h3 with ⟨z, _⟩ | ⟨_, _, z⟩
    ·omega
    ·rw [e, (ltS_ok hq).top] at z; exact z
def groupS (q : QnZ) : List Nat := grS q q.ready.length 0 0
theorem groupS_ok {q : QnZ} (hq : qOk q) : okG q 0 (groupS q) ∧ dnG q 0 0 (groupS q) = erS q q.ready.length := by
 obtain ⟨h1, h2, h3⟩ := grS_ok hq (m := q.ready.length) (i := 0) (a := 0) (by omega) (by omega) (.inl ⟨rfl, rfl⟩)
 refine ⟨h1, ?_⟩
 have h4 := okG_best h1 (show erS q 0 ≤ 0 from Int.le_refl _)
 unfold groupS
 rcases Nat.eq_zero_or_pos q.ready.length with e | e
 ·rw [h2 rfl e, e]; rfl
 ·have := h3 e; omega
theorem okG_len {q : QnZ} : ∀ {L : List Nat} {i : Nat}, okG q i L → L.length + i ≤ q.ready.length
 | [], i, h => by have h : i = _ := h; simp; omega
 | e :: r, i, ⟨h1, h2, h3, h4⟩ => by have := okG_len h4; simp; omega
end Go.Ab
namespace Go.Ab
open Go.Proofs
set_option maxRecDepth 100000
set_option maxHeartbeats 4000000
def qC (q : QnZ) (g : Nat → Int) : Nat → V := fun i => if i = 0 then R fl0 eI q.ready else if i < 66 then .int .i64 (g (i - 1)) else if i = 66 then .int .i64 q.most else .int .i64 q.flip
theorem qC_0 (q : QnZ) (g : Nat → Int) : qC q g 0 = R fl0 eI q.ready := rfl
theorem qC_66 (q : QnZ) (g : Nat → Int) : qC q g 66 = .int .i64 q.most := rfl
theorem qC_67 (q : QnZ) (g : Nat → Int) : qC q g 67 = .int .i64 q.flip := rfl
theorem qC_s {q : QnZ} {g : Nat → Int} {i : Nat} (h : i < 65) : qC q g (1 + i) = .int .i64 (g i) := by unfold qC; rw [if_neg (by omega), if_pos (by omega), show 1 + i - 1 = i by omega]
theorem qC_u {q : QnZ} {g : Nat → Int} {i : Nat} {x : Int} (h : i < 65) : upd (qC q g) (1 + i) (.int .i64 x) = qC q (updI g i x) := by
 funext j
 unfold upd qC updI
 by_cases e : j = 1 + i
 ·subst e; rw [if_pos rfl, if_neg (by omega), if_pos (by omega), if_pos (by omega)]
 ·rw [if_neg e]
  by_cases h0 : j = 0
  ·rw [if_pos h0, if_pos h0]
  ·rw [if_neg h0, if_neg h0]
   by_cases h1 : j < 66
   ·rw [if_pos h1, if_pos h1, if_neg (by omega)]
   ·rw [if_neg h1, if_neg h1]
def gsQ (q : QnZ) (m : Nat) : Nat → Int := fun i => if i ≤ m then smS q i else 0
theorem gsQ_at {q : QnZ} {m i : Nat} (h : i ≤ m) : gsQ q m i = smS q i := if_pos h
theorem gsQ_next (q : QnZ) (m : Nat) : updI (gsQ q m) (m + 1) (smS q (m + 1)) = gsQ q (m + 1) := by
 funext j
 unfold updI gsQ
 by_cases e : j = m + 1
 ·subst e; rw [if_pos rfl, if_pos (Nat.le_refl _)]
 ·rw [if_neg e]
  by_cases h : j ≤ m
  ·rw [if_pos h, if_pos (by omega)]
  ·rw [if_neg h, if_neg (by omega)]
def qV (q : QnZ) : List V := tab 68 (qC q (gsQ q q.ready.length))
theorem qV_one (q : QnZ) (g : Nat → Int) : ∀ x ∈ tab 68 (qC q g), x.one = true := by
 intro x hx
 simp only [tab, List.mem_map] at hx
 obtain ⟨i, _, rfl⟩ := hx
 unfold qC; split <;> (try split) <;> (try split) <;> rfl
theorem qV_closed (q : QnZ) (g : Nat → Int) : V.closed.closedL (tab 68 (qC q g)) = true := by
 have key : ∀ l : List Nat, V.closed.closedL (l.map (qC q g)) = true := by
  intro l
  induction l with
  | nil => rfl
  | cons x l ih => simp only [List.map_cons, V.closed.closedL, ih, Bool.and_true]; unfold qC; split <;> (try split) <;> (try split) <;> simp [V.closed]
 exact key _
theorem qV_norm (q : QnZ) (g : Nat → Int) : V.norm.normL (tab 68 (qC q g)) = tab 68 (qC q g) := by
 have key : ∀ l : List Nat, V.norm.normL (l.map (qC q g)) = l.map (qC q g) := by
  intro l
  induction l with
  | nil => rfl
  | cons x l ih =>
   simp only [List.map_cons, V.norm.normL, ih, List.cons.injEq, and_true]; unfold qC; split <;> (try split) <;> (try split) <;> simp [V.norm]
 exact key _
theorem tab_take (n : Nat) (f : Nat → V) : List.take n (tab n f) = tab n f := List.take_of_length_le (by simp)
theorem tab_wr (n : Nat) (f g : Nat → V) : writeL (tab n f) 0 (tab n g) = tab n g := writeL_all _ _ (by simp)
theorem C50 (n low high : Int) : Kc cfg 50 [.int .i64 n, .int .i64 low, .int .i64 high] (.ret (.bool (decide (low ≤ n ∧ n ≤ high)))) := by
 by_cases h1 : low ≤ n
 ·by_cases h2 : n ≤ high
  ·rw [decide_eq_true ⟨h1, h2⟩]
   refine outS_of_wp cfg (fn := Tryz.f50) Tryz.func50 rfl (by simp [Tryz.f50]) ?_
   simp (disch := first|exact DD|fail) [-getElem?_pos, gZ, gS, Tryz.f50, h1, h2]
   repeat' (first|((first|refine wA ?_ ?_|refine wB ?_ ?_)<;>intro hc<;>try simp at hc)|refine wF ?_|refine wY ?_|refine wL ?_|refine owe ?_ fun ho=>?_|(simp (disch := first|exact DD|fail) [h1, h2, -getElem?_pos, gZ, gS]))
  ·rw [decide_eq_false (fun h => h2 h.2)]
   refine outS_of_wp cfg (fn := Tryz.f50) Tryz.func50 rfl (by simp [Tryz.f50]) ?_
   simp (disch := first|exact DD|fail) [-getElem?_pos, gZ, gS, Tryz.f50, h1, h2]
   repeat' (first|((first|refine wA ?_ ?_|refine wB ?_ ?_)<;>intro hc<;>try simp at hc)|refine wF ?_|refine wY ?_|refine wL ?_|refine owe ?_ fun ho=>?_|(simp (disch := first|exact DD|fail) [h1, h2, -getElem?_pos, gZ, gS]))
 ·rw [decide_eq_false (fun h => h1 h.1)]
  refine outS_of_wp cfg (fn := Tryz.f50) Tryz.func50 rfl (by simp [Tryz.f50]) ?_
  simp (disch := first|exact DD|fail) [-getElem?_pos, gZ, gS, Tryz.f50, h1]
  repeat' (first|((first|refine wA ?_ ?_|refine wB ?_ ?_)<;>intro hc<;>try simp at hc)|refine wF ?_|refine wY ?_|refine wL ?_|refine owe ?_ fun ho=>?_|(simp (disch := first|exact DD|fail) [h1, -getElem?_pos, gZ, gS]))
@[simp] theorem S50 (n low high : Int) (hh : Heap) : Ci cfg (.func (.func 50) [] []) [.int .i64 n, .int .i64 low, .int .i64 high] hh = some (.ret (.bool (decide (low ≤ n ∧ n ≤ high))), hh) :=
 Ci_K cfg rfl rfl (by simp) (by simp) (C50 n low high)
theorem C20 (q : QnZ) (hq : qOk q) : Kc cfg 20 [R fl0 eI q.ready, R fl0 eI q.need, .int .i64 q.most, .int .i64 q.flip] (.ret (.tuple [.agg (qV q), .int .i64 0])) := by
 have hq' := hq
 obtain ⟨q1, q2, q3, q4, q5, q6, q7, q8⟩ := hq'
 have hrl : q.ready.length < 1099511627776 := by omega
 have hnl : q.need.length < 1099511627776 := by omega
 unfold qV
 refine outS_of_wp cfg (fn := Tryz.f20) Tryz.func20 rfl (by simp [Tryz.f20]) ?_
 simp (disch := first|exact DD|fail) [-getElem?_pos, gZ, gS, Tryz.f20, emptyH]
 repeat' (first|((first|refine wA ?_ ?_|refine wB ?_ ?_)<;>intro hc<;>try simp at hc)|refine wF ?_|refine wY ?_|refine wL ?_|refine owe ?_ fun ho=>?_|(simp (disch := first|exact DD|fail) [emptyH, q2, -getElem?_pos, gZ, gS]))
 all_goals try (exfalso; omega)
 refine wp_loopE cfg rfl (fun f0 h0 m fr h => ∃ i : Nat, ∃ a : Int, fr 0 = f0 0 ∧ fr 1 = f0 1 ∧ fr 8 = f0 8 ∧ fr 9 = f0 9 ∧ fr 40 = f0 40 ∧ fr 41 = f0 41 ∧ fr 42 = .int .i64 i ∧ fr 10 = .int .i64 a ∧ (h.bs = [.cells (tab 68 (qC q (gsQ q i)))]) ∧ (0 ≤ a ∧ (i < q.ready.length → a ≤ nth q.ready i)) ∧ (i + m = q.ready.length)) (q.ready.length) _ _ ⟨0, 0, rfl, rfl, rfl, rfl, rfl, rfl, by first | rfl | (simp; done) | (simp [R]; done) | simp [R], by first | rfl | (simp; done) | (simp [R]; done) | simp [R], by rfl, ⟨Int.le_refl _, fun h => (q7 0 h).1⟩, by first | rfl | (simp; done) | omega⟩ ?_
 rintro Am Af Ah ⟨i, a, A0, A1, A8, A9, A40, A41, A42, A10, hb, ha, hm⟩ Aih
 try simp at A0 A1 A8 A9 A40 A41
 by_cases hi : i < q.ready.length
 ·obtain ⟨r1, r2, r3, r4⟩ := q7 i hi
  have ha2 := ha.2 hi
  have hs := smS_in hq (i := i) (by omega)
  have hs1 := smS_succ q i
  have h0 : gsQ q i i = smS q i := gsQ_at (Nat.le_refl _)
  have hx : ((i : Int) + 1).toNat = i + 1 := by omega
  have hin : i < q.need.length := by omega
  have hnx : updI (gsQ q i) (i + 1) (smS q i + nth q.need i) = gsQ q (i + 1) := by rw [← hs1]; exact gsQ_next q i
  repeat' (first|((first|refine wA ?_ ?_|refine wB ?_ ?_)<;>intro hc<;>try simp at hc)|refine wF ?_|refine wY ?_|refine wL ?_|refine owe ?_ fun ho=>?_|(simp (disch := first|exact DD|fail) [A0, A1, A8, A9, A40, A41, A42, A10, hb, eI, hi, hin, r1, r2, r3, r4, ha2, h0, hx, tab_get1, tab_set, qC_s, qC_u, hnx, -getElem?_pos, gZ, gS]))
  all_goals try (exfalso; omega)
  exact Aih (Am - 1) _ _ (by omega) ⟨i + 1, nth q.ready i, by simp [A0, A1, A8, A9, A40, A41, A42, A10, hb, hnx], by simp [A0, A1, A8, A9, A40, A41, A42, A10, hb, hnx], by simp [A0, A1, A8, A9, A40, A41, A42, A10, hb, hnx], by simp [A0, A1, A8, A9, A40, A41, A42, A10, hb, hnx], by simp [A0, A1, A8, A9, A40, A41, A42, A10, hb, hnx], by simp [A0, A1, A8, A9, A40, A41, A42, A10, hb, hnx], by simp [A0, A1, A8, A9, A40, A41, A42, A10, hb, hnx], by simp [A0, A1, A8, A9, A40, A41, A42, A10, hb, hnx], (by simp [hb, hnx]), ⟨r1, fun h => q8 i h⟩, by omega⟩
 ·obtain rfl : i = q.ready.length := by omega
  have hone := eq_true (qV_one q (gsQ q q.ready.length))
  repeat' (first|((first|refine wA ?_ ?_|refine wB ?_ ?_)<;>intro hc<;>try simp at hc)|refine wF ?_|refine wY ?_|refine wL ?_|refine owe ?_ fun ho=>?_|(simp (disch := first|exact DD|fail) [A0, A1, A8, A9, A40, A41, A42, A10, hb, hone, qV_closed, qV_norm, tab_take, tab_wr, -getElem?_pos, gZ, gS]))
@[simp] theorem S20 (q : QnZ) (hq : qOk q) (q1 q2 : Fl) (hh : Heap) : Ci cfg (.func (.func 20) [] []) [R  q1 eI q.ready, R  q2 eI q.need, .int .i64 q.most, .int .i64 q.flip] hh = some (.ret (.tuple [.agg (qV q), .int .i64 0]), hh) :=
 Ci_K cfg rfl rfl (by simp) (by simp) (C20 q hq)
end Go.Ab
namespace Go.Ab
open Go.Proofs
set_option maxRecDepth 100000
set_option maxHeartbeats 4000000
def tmS (i : Nat) : Int := 1100585369599 + 2147483648 * (i : Int)
theorem tab_one {n : Nat} {f : Nat → V} : List.take 1 (tab (n + 1) f) = [f 0] := by have := tab_get1 (f := f) (show 0 < n + 1 by omega); simpa using this
theorem tab68_0 (f : Nat → V) : List.take 1 (tab 68 f) = [f 0] := tab_one
theorem Cend {q : QnZ} (hq : qOk q) {i j : Nat} (hij : i < j) (hj : j ≤ q.ready.length) {a : Int} (ha : 0 ≤ a) (ha2 : a ≤ tmS i) {b : Nat} {first args : List V} (hfa : first ++ args = [.ptr b 0, .int .i64 i, .int .i64 j, .int .i64 a]) (h : Heap) (hb : h.bs[b]? = some (.cells (qV q))) :
  Ci cfg (.func (.func 23) first []) args h = some (.ret (.int .i64 (enS q i j a)), h) := by
 obtain ⟨r1, r2, _, _⟩ := hq.2.2.2.2.2.2.1 (j - 1) (by omega)
 have h1 := hq.1
 have h2 := hq.2.2.2.2.1
 have h3 := hq.2.2.2.2.2.1
 have s1 := smS_in hq (i := i) (by omega)
 have s2 := smS_in hq hj
 have s3 := smS_le hq (Nat.le_of_lt hij) hj
 have hx : ((j : Int) - 1).toNat = j - 1 := by omega
 have hrl : q.ready.length < 1099511627776 := by omega
 have hi1 : j - 1 < q.ready.length := by omega
 have g1 : gsQ q q.ready.length i = smS q i := gsQ_at (by omega)
 have g2 : gsQ q q.ready.length j = smS q j := gsQ_at hj
 unfold tmS at ha2
 unfold qV at hb
 have hi65 : i < 65 := by omega
 have hj65 : j < 65 := by omega
 refine Ci_of_wp (fn := Tryz.f23) Tryz.func23 rfl (by rw [hfa]; simp [Tryz.f23]) rfl ?_
 rw [hfa]
 by_cases h0 : 0 < i
 ·have hE : enS q i j a = max (nth q.ready (j - 1)) (a + q.flip) + smS q j - smS q i := by unfold enS; rw [if_pos h0]
  have h0' : ((i : Int) > 0) = True := eq_true (by omega)
  rw [hE]
  simp (disch := first|exact DD|fail) [-getElem?_pos, gZ, gS, Tryz.f23, hb]
  repeat' (first|((first|refine wA ?_ ?_|refine wB ?_ ?_)<;>intro hc<;>try simp at hc)|refine wF ?_|refine wY ?_|refine wL ?_|refine owe ?_ fun ho=>?_|(simp (disch := first|exact DD|fail) [hb, eI, hx, hi1, g1, g2, h0, tab68_0, qC_0, qC_67, tab_get1, qC_s, -getElem?_pos, gZ, gS]))
  all_goals skip
 ·have hE : enS q i j a = nth q.ready (j - 1) + smS q j - smS q i := by unfold enS; rw [if_neg h0]
  rw [hE]
  simp (disch := first|exact DD|fail) [-getElem?_pos, gZ, gS, Tryz.f23, hb]
  repeat' (first|((first|refine wA ?_ ?_|refine wB ?_ ?_)<;>intro hc<;>try simp at hc)|refine wF ?_|refine wY ?_|refine wL ?_|refine owe ?_ fun ho=>?_|(simp (disch := first|exact DD|fail) [hb, eI, hx, hi1, g1, g2, h0, tab68_0, qC_0, qC_67, tab_get1, qC_s, -getElem?_pos, gZ, gS]))
  all_goals skip
end Go.Ab
namespace Go.Ab
open Go.Proofs
set_option maxRecDepth 100000
set_option maxHeartbeats 4000000
theorem loS_eq {q : QnZ} (hq : qOk q) (k : Nat) : max 0 ((k : Int) + 1 - q.most) = (loS q (k + 1) : Int) := by
 have := hq.2.2.1
 unfold loS; omega
theorem loS_eq' {q : QnZ} (hq : qOk q) (k : Nat) : max 0 ((k : Int) - q.most) = (loS q k : Int) := by
 have := hq.2.2.1
 unfold loS; omega
theorem gbE {c a b : Blk} {X Y L : List Blk} {j : Nat} : (c :: (X ++ a :: b :: (Y ++ L)))[X.length + (Y.length + (j + 3))]? = L[j]? := by
 rw [show X.length + (Y.length + (j + 3)) = X.length + (Y.length + j + 2) + 1 by omega]
 simp only [List.getElem?_cons_succ, app_at]
theorem gsE {c a b x : Blk} {X Y L : List Blk} {j : Nat} : (c :: (X ++ a :: b :: (Y ++ L))).set (X.length + (Y.length + (j + 3))) x = c :: (X ++ a :: b :: (Y ++ L.set j x)) := by
 rw [show X.length + (Y.length + (j + 3)) = X.length + (Y.length + j + 2) + 1 by omega]
 simp only [List.set_cons_succ, app_set]
theorem bkE {c a b b1 b2 b3 b4 b5 z : Blk} {X Y : List Blk} : c :: (X ++ a :: b :: (Y ++ [b1, b2, b3, b4, b5, z])) = c :: (X ++ a :: b :: ((Y ++ [b1, b2, b3, b4, b5]) ++ [z])) := by simp
theorem cI_one (f : Nat → Int) : ∀ x ∈ tab 65 (cI f), x.one = true := by
 intro x hx
 simp only [tab, List.mem_map] at hx
 obtain ⟨i, _, rfl⟩ := hx
 rfl
theorem cI_closed (f : Nat → Int) : V.closed.closedL (tab 65 (cI f)) = true := by
 have key : ∀ l : List Nat, V.closed.closedL (l.map (cI f)) = true := by
  intro l
  induction l with
  | nil => rfl
  | cons x l ih => simp only [List.map_cons, V.closed.closedL, ih, Bool.and_true]; rfl
 exact key _
theorem cI_norm (f : Nat → Int) : V.norm.normL (tab 65 (cI f)) = tab 65 (cI f) := by
 have key : ∀ l : List Nat, V.norm.normL (l.map (cI f)) = l.map (cI f) := by
  intro l
  induction l with
  | nil => rfl
  | cons x l ih => simp only [List.map_cons, V.norm.normL, ih, List.cons.injEq, and_true]; rfl
 exact key _
theorem Cearl {q : QnZ} (hq : qOk q) (X : List Blk) (ts : List (Option Nat)) :
  ∃ x, Ci cfg (.func (.func 21) [] []) [.ptr 0 0] ⟨.cells (qV q) :: X, ts⟩ = some x ∧ ∃ X', x = (.ret (.agg (tab 65 (cI (eaS q q.ready.length)))), ⟨.cells (qV q) :: X', ts⟩) := by
 generalize hP : (fun x : CRes × Heap => ∃ X', x = (.ret (.agg (tab 65 (cI (eaS q q.ready.length)))), ⟨.cells (qV q) :: X', ts⟩)) = P
 have hPx : ∀ x, P x ↔ ∃ X', x = (.ret (.agg (tab 65 (cI (eaS q q.ready.length)))), ⟨.cells (qV q) :: X', ts⟩) := fun x => by rw [← hP]
 show ∃ x, _ ∧ (∃ X', _)
 simp only [← hPx]
 clear hPx
 have q1 := hq.1
 have hmo := hq.2.2.1
 have hmo2 := hq.2.2.2.1
 have hrl : q.ready.length < 1099511627776 := by omega
 unfold qV at *
 refine Ci_of_wpE (fn := Tryz.f21) Tryz.func21 rfl (by simp [Tryz.f21]) rfl ?_
 simp (disch := first|exact DD|fail) [-getElem?_pos, gZ, gS, Tryz.f21]
 repeat' (first|((first|refine wA ?_ ?_|refine wB ?_ ?_)<;>intro hc<;>try simp at hc)|refine wF ?_|refine wY ?_|refine wL ?_|refine owe ?_ fun ho=>?_|(simp (disch := first|exact DD|fail) [tab68_0, qC_0, qC_66, app_at, app_at0, app_set, app_set0, -getElem?_pos, gZ, gS]))
 refine wp_loopD (c := cfg) rfl (fun f0 h0 d0 m fr h dd => ∃ k : Nat, ∃ Y : List Blk, ∃ ms : List Nat, fr 0 = f0 0 ∧ fr 2 = f0 2 ∧ fr 3 = f0 3 ∧ fr 4 = .ptr (X.length + (Y.length + 3)) 0 ∧ (h.bs = .cells (tab 68 (qC q (gsQ q q.ready.length))) :: (X ++ .cells (tab 65 (cI (eaS q k))) :: .cells [.func (.func 23) [.ptr 0 0] []] :: (Y ++ [.cells [.int .i64 ((k : Int) + 1)]]))) ∧ (h.ts = ts) ∧ (k + m = q.ready.length) ∧ (Mk ms Y) ∧ dd = mkD (X.length + 3) ms) (q.ready.length) _ _ _ ⟨0, [], [], rfl, rfl, rfl, by first | rfl | (simp; done) | (simp [R]; done) | simp [R], by simp [eaS]; rfl, by first | rfl | (simp; done) | omega, by first | rfl | (simp; done) | omega, Mk.nil _, by first | rfl | simp⟩ ?_
 rintro Am Af Ah _ ⟨k, Y, ms, A0, A2, A3, A4, hb, hts, hm2, hmk, rfl⟩ Aih
 try simp at A0 A2 A3
 by_cases hk : k < q.ready.length
 ·have hxk : ((k : Int) + 1).toNat = k + 1 := by omega
  have hk65 : k + 1 < 65 := by omega
  have hlo := loS_eq hq k
  have hlo2 := loS_lt hq (show 0 < k + 1 by omega)
  repeat' (first|((first|refine wA ?_ ?_|refine wB ?_ ?_)<;>intro hc<;>try simp at hc)|refine wF ?_|refine wY ?_|refine wL ?_|refine owe ?_ fun ho=>?_|(simp (disch := first|exact DD|fail) [A0, A2, A3, A4, hb, hts, hk, hxk, hk65, hlo, tab68_0, qC_0, qC_66, tab_get1, tab_set, upd_cI, app_at, app_at0, app_set, app_set0, gbE, gsE, Nat.add_assoc, Tryz.f51, Tryz.f78, -getElem?_pos, gZ, gS]))
  refine wp_loopE cfg rfl (fun f0 h0 m fr h => ∃ c : Nat, fr 0 = f0 0 ∧ fr 1 = f0 1 ∧ fr 2 = f0 2 ∧ fr 4 = .int .i64 ((loS q (k + 1) : Int) + c) ∧ (h.bs = h0.bs.set (X.length + 1) (.cells (tab 65 (cI (updI (eaS q k) (k + 1) (mnS q (eaS q k) (k + 1) c)))))) ∧ (h.ts = ts) ∧ (loS q (k + 1) + c + m = k + 1)) (k + 1 - loS q (k + 1)) _ _ ⟨0, rfl, rfl, rfl, by first | rfl | (simp; done) | (simp [R]; done) | simp [R], by simp [mnS, app_set], by first | rfl | (simp; done) | omega, by first | rfl | (simp; done) | omega⟩ ?_
  rintro Bm Bf Bh ⟨c, B0, B1, B2, B4, hb3, hts3, hm3⟩ Bih
  try simp [A0, A2, A3, A4] at B0 B1 B2
  simp [app_set] at hb3
  by_cases hc : loS q (k + 1) + c < k + 1
  ·have he := erS_ok hq (j := loS q (k + 1) + c) (by omega)
   have hea : eaS q k (loS q (k + 1) + c) = erS q (loS q (k + 1) + c) := erS_of q (by omega)
   have hen := enS_in hq (i := loS q (k + 1) + c) (j := k + 1) hc (by omega) he.1
   have hE : ∀ h : Heap, h.bs[0]? = some (.cells (tab 68 (qC q (gsQ q q.ready.length)))) → Ci cfg (.func (.func 23) [.ptr 0 0] []) [.int .i64 ((loS q (k + 1) : Int) + c), .int .i64 ((k : Int) + 1), .int .i64 (erS q (loS q (k + 1) + c))] h = some (.ret (.int .i64 (enS q (loS q (k + 1) + c) (k + 1) (erS q (loS q (k + 1) + c)))), h) :=
    fun h hh => Cend hq hc (by omega) he.1 (by unfold tmS; exact he.2.1) (by simp) h hh
   have hne : updI (eaS q k) (k + 1) (mnS q (eaS q k) (k + 1) c) (loS q (k + 1) + c) = erS q (loS q (k + 1) + c) := by rw [updI_ne (by omega)]; exact hea
   have hxc : ((loS q (k + 1) : Int) + c).toNat = loS q (k + 1) + c := by omega
   have hmn : min (mnS q (eaS q k) (k + 1) c) (enS q (loS q (k + 1) + c) (k + 1) (erS q (loS q (k + 1) + c))) = mnS q (eaS q k) (k + 1) (c + 1) := by rw [mnS, hea]
   have hc2 : (loS q (k + 1) : Int) + c < k + 1 := by omega
   repeat' (first|((first|refine wA ?_ ?_|refine wB ?_ ?_)<;>intro hc<;>try simp at hc)|refine wF ?_|refine wY ?_|refine wL ?_|refine owe ?_ fun ho=>?_|(simp (disch := first|exact DD|fail) [B0, B1, B2, B4, A0, A2, A3, A4, hb3, hts3, hc2, hxk, hk65, hxc, hne, hE, hmn, tab_get1, tab_set, upd_cI, updI_updI, app_at, app_at0, app_set, app_set0, gbE, gsE, Nat.add_assoc, -getElem?_pos, gZ, gS]))
   exact Bih (Bm - 1) _ _ (by omega) ⟨c + 1, by simp [B0, B1, B2, B4, A0, A2, A3, A4, hb3, app_set, Int.add_assoc], by simp [B0, B1, B2, B4, A0, A2, A3, A4, hb3, app_set, Int.add_assoc], by simp [B0, B1, B2, B4, A0, A2, A3, A4, hb3, app_set, Int.add_assoc], by simp [B0, B1, B2, B4, A0, A2, A3, A4, hb3, app_set, Int.add_assoc], (by simp [hb3, app_set]), rfl, by omega⟩
  ·have hc2 : loS q (k + 1) + c = k + 1 := by omega
   repeat' (first|((first|refine wA ?_ ?_|refine wB ?_ ?_)<;>intro hc<;>try simp at hc)|refine wF ?_|refine wY ?_|refine wL ?_|refine owe ?_ fun ho=>?_|(simp (disch := first|exact DD|fail) [B0, B1, B2, B4, A0, A2, A3, A4, hb3, hts3, app_at, app_at0, app_set, app_set0, gbE, gsE, Nat.add_assoc, -getElem?_pos, gZ, gS]))
   have hea : eaS q (k + 1) = updI (eaS q k) (k + 1) (mnS q (eaS q k) (k + 1) c) := by rw [show c = k + 1 - loS q (k + 1) by omega]; rfl
   refine Aih (Am - 1) _ _ _ (by omega) ⟨k + 1, Y ++ [?_, ?_, ?_, Blk.dfr true, ?_], (Y.length + 3) :: ms, by simp [A0, A2, A3, A4, B0, B1, B2, B4], by simp [A0, A2, A3, A4, B0, B1, B2, B4], by simp [A0, A2, A3, A4, B0, B1, B2, B4], by simp [Nat.add_assoc], ?_, rfl, by omega, hmk.new rfl, ?_⟩
   rotate_left 4
   ·rw [hea, show ((k + 1 : Nat) : Int) + 1 = (k : Int) + 1 + 1 by omega]; exact bkE
   ·rw [mkD_cons]; congr 2; omega
 ·obtain rfl : k = q.ready.length := by omega
  have hone := eq_true (cI_one (eaS q q.ready.length))
  repeat' (first|((first|refine wA ?_ ?_|refine wB ?_ ?_)<;>intro hc<;>try simp at hc)|refine wF ?_|refine wY ?_|refine wL ?_|refine owe ?_ fun ho=>?_|(simp (disch := first|exact DD|fail) [A0, A2, A3, A4, hb, hts, tab68_0, qC_0, hone, cI_closed, cI_norm, tab_take, tab_wr, gbE, Nat.add_assoc, app_at, app_at0, app_set, -getElem?_pos, gZ, gS]))
  obtain ⟨bs', l1, l2⟩ := hmk.leave (D := Di cfg) (m := .ret) (ts := ts) (L := .cells (tab 68 (qC q (gsQ q q.ready.length))) :: (X ++ [.cells (tab 65 (cI (eaS q q.ready.length))), .cells [.func (.func 23) [.ptr 0 0] []]])) (R := [.cells [.int .i64 ((q.ready.length : Int) + 1)]]) (k := X.length + 3) (by simp)
  have l3 := l2 0 _ rfl
  have l4 := l2 (X.length + 1) (tab 65 (cI (eaS q q.ready.length))) (by simp)
  obtain ⟨X', rfl⟩ : ∃ X', bs' = .cells (tab 68 (qC q (gsQ q q.ready.length))) :: X' := by
   cases bs' with
   | nil => cases l3
   | cons a r => simp only [List.getElem?_cons_zero, Option.some.injEq] at l3; subst l3; exact ⟨_, rfl⟩
  simp only [List.cons_append, List.append_assoc, List.nil_append] at l1
  simp (disch := first|exact DD|fail) [-getElem?_pos, gZ, gS, l1, l4, tab_take]
  rw [← hP]
  exact ⟨_, _, ⟨rfl, rfl⟩, _, rfl⟩
end Go.Ab
namespace Go.Ab
open Go.Proofs
set_option maxRecDepth 100000
set_option maxHeartbeats 4000000
theorem nv_next (i : Nat) : updI (fun k => if k < i then nvS else 0) i nvS = fun k => if k < i + 1 then nvS else 0 := by
 funext k
 unfold updI
 by_cases e : k = i
 ·subst e; rw [if_pos rfl, if_pos (by omega)]
 ·rw [if_neg e]
  simp only []
  by_cases h : k < i
  ·rw [if_pos h, if_pos (by omega)]
  ·rw [if_neg h, if_neg (by omega)]
theorem nv_zero : (fun k : Nat => if k < 0 then nvS else 0) = fun _ => 0 := by
 funext k; rw [if_neg (by omega)]
theorem Clate {q : QnZ} (hq : qOk q) (X : List Blk) (ts : List (Option Nat)) :
  ∃ x, Ci cfg (.func (.func 22) [] []) [.ptr 0 0, .int .i64 (erS q q.ready.length)] ⟨.cells (qV q) :: X, ts⟩ = some x ∧ ∃ X', x = (.ret (.agg (tab 65 (cI (ltS q)))), ⟨.cells (qV q) :: X', ts⟩) := by
 generalize hP : (fun x : CRes × Heap => ∃ X', x = (.ret (.agg (tab 65 (cI (ltS q)))), ⟨.cells (qV q) :: X', ts⟩)) = P
 have hPx : ∀ x, P x ↔ ∃ X', x = (.ret (.agg (tab 65 (cI (ltS q)))), ⟨.cells (qV q) :: X', ts⟩) := fun x => by rw [← hP]
 simp only [← hPx]
 clear hPx
 have q1 := hq.1
 have hmo := hq.2.2.1
 have hmo2 := hq.2.2.2.1
 have hfl := hq.2.2.2.2.1
 have hfl2 := hq.2.2.2.2.2.1
 have hrl : q.ready.length < 1099511627776 := by omega
 have hd := erS_ok hq (Nat.le_refl q.ready.length)
 have hPd := fun m hm => laS_ok hq hd.1 m hm
 unfold ltS at *
 generalize erS q q.ready.length = d at *
 unfold qV at *
 have hnv : (-1152921504606846976 : Int) = nvS := rfl
 refine Ci_of_wpE (fn := Tryz.f22) Tryz.func22 rfl (by simp [Tryz.f22]) rfl ?_
 simp (disch := first|exact DD|fail) [-getElem?_pos, gZ, gS, Tryz.f22]
 repeat' (first|((first|refine wA ?_ ?_|refine wB ?_ ?_)<;>intro hc<;>try simp at hc)|refine wF ?_|refine wY ?_|refine wL ?_|refine owe ?_ fun ho=>?_|(simp (disch := first|exact DD|fail) [tab68_0, qC_0, qC_66, app_at, app_at0, app_set, app_set0, -getElem?_pos, gZ, gS]))
 refine wp_loopE cfg rfl (fun f0 h0 m fr h => ∃ i : Nat, fr 1 = f0 1 ∧ fr 2 = f0 2 ∧ fr 4 = f0 4 ∧ fr 5 = f0 5 ∧ fr 15 = f0 15 ∧ fr 16 = .int .i64 i ∧ (h.bs = .cells (tab 68 (qC q (gsQ q q.ready.length))) :: (X ++ [.cells [.ptr 0 0], .cells (tab 65 (cI (fun k => if k < i then nvS else 0)))])) ∧ (h.ts = ts) ∧ (i + m = q.ready.length)) (q.ready.length) _ _ ⟨0, rfl, rfl, rfl, rfl, rfl, by first | rfl | (simp; done) | (simp [R]; done) | simp [R], by rw [nv_zero]; rfl, by first | rfl | (simp; done) | omega, by first | rfl | (simp; done) | omega⟩ ?_
 rintro Fm Ff Fh ⟨i, F1, F2, F4, F5, F15, F16, hb, hts, hm⟩ Fih
 try simp at F1 F2 F4 F5 F15
 by_cases hi : i < q.ready.length
 ·have hi65 : i < 65 := by omega
  have hnx := nv_next i
  repeat' (first|((first|refine wA ?_ ?_|refine wB ?_ ?_)<;>intro hc<;>try simp at hc)|refine wF ?_|refine wY ?_|refine wL ?_|refine owe ?_ fun ho=>?_|(simp (disch := first|exact DD|fail) [F1, F2, F4, F5, F15, F16, hb, hts, hi65, hnv, hnx, tab_set, upd_cI, app_at, app_at0, app_set, app_set0, -getElem?_pos, gZ, gS]))
  exact Fih (Fm - 1) _ _ (by omega) ⟨i + 1, by simp [F1, F2, F4, F5, F15, F16, hb, hts], by simp [F1, F2, F4, F5, F15, F16, hb, hts], by simp [F1, F2, F4, F5, F15, F16, hb, hts], by simp [F1, F2, F4, F5, F15, F16, hb, hts], by simp [F1, F2, F4, F5, F15, F16, hb, hts], by simp [F1, F2, F4, F5, F15, F16, hb, hts], rfl, rfl, by omega⟩
 ·obtain rfl : i = q.ready.length := by omega
  have hn65 : q.ready.length < 65 := by omega
  repeat' (first|((first|refine wA ?_ ?_|refine wB ?_ ?_)<;>intro hc<;>try simp at hc)|refine wF ?_|refine wY ?_|refine wL ?_|refine owe ?_ fun ho=>?_|(simp (disch := first|exact DD|fail) [F1, F2, F4, F5, F15, F16, hb, hts, hn65, tab_set, upd_cI, app_at, app_at0, app_set, app_set0, -getElem?_pos, gZ, gS]))
  have h0 : updI (fun k => if k < q.ready.length then nvS else 0) q.ready.length d = laS q d 0 := rfl
  refine wp_loopD (c := cfg) rfl (fun f0 h0 d0 m fr h dd => ∃ k : Nat, ∃ Y : List Blk, ∃ ms : List Nat, fr 1 = f0 1 ∧ fr 2 = f0 2 ∧ fr 4 = f0 4 ∧ fr 5 = f0 5 ∧ fr 7 = .ptr (X.length + (Y.length + 3)) 0 ∧ (h.bs = .cells (tab 68 (qC q (gsQ q q.ready.length))) :: (X ++ .cells [.ptr 0 0] :: .cells (tab 65 (cI (laS q d k))) :: (Y ++ [.cells [.int .i64 ((q.ready.length : Int) - k)]]))) ∧ (h.ts = ts) ∧ (k + m = q.ready.length) ∧ (Mk ms Y) ∧ dd = mkD (X.length + 3) ms) (q.ready.length) _ _ _ ⟨0, [], [], rfl, rfl, rfl, rfl, by first | rfl | (simp; done) | (simp [R]; done) | simp [R], by simp [h0], by first | rfl | (simp; done) | omega, by first | rfl | (simp; done) | omega, Mk.nil _, by first | rfl | simp⟩ ?_
  rintro Am Af Ah _ ⟨k, Y, ms, A1, A2, A4, A5, A7, hb2, hts2, hm2, hmk, rfl⟩ Aih
  try simp [F1, F2, F4, F5, F15, F16] at A1 A2 A4 A5
  by_cases hk : k < q.ready.length
  ·obtain ⟨J, hJ⟩ : ∃ J, J = q.ready.length - k := ⟨_, rfl⟩
   have hJi : (q.ready.length : Int) - k = J := by omega
   have hJ0 : 0 < J := by omega
   have hJ65 : J < 65 := by omega
   have hlo := loS_eq' hq J
   have hlo2 := loS_lt hq hJ0
   rw [hJi] at hb2
   repeat' (first|((first|refine wA ?_ ?_|refine wB ?_ ?_)<;>intro hc<;>try simp at hc)|refine wF ?_|refine wY ?_|refine wL ?_|refine owe ?_ fun ho=>?_|(simp (disch := first|exact DD|fail) [A1, A2, A4, A5, A7, F1, F2, F4, F5, F15, F16, hb2, hts2, hJ0, hlo, tab68_0, qC_0, qC_66, tab_get1, tab_set, upd_cI, app_at, app_at0, app_set, app_set0, gbE, gsE, Nat.add_assoc, Tryz.f51, Tryz.f78, -getElem?_pos, gZ, gS]))
   refine wp_loopE cfg rfl (fun f0 h0 m fr h => ∃ c : Nat, fr 0 = f0 0 ∧ fr 1 = f0 1 ∧ fr 2 = f0 2 ∧ fr 4 = .int .i64 ((loS q J : Int) + c) ∧ (h.bs = h0.bs.set (X.length + 2) (.cells (tab 65 (cI (liS q J (laS q d k) c))))) ∧ (h.ts = ts) ∧ (loS q J + c + m = J)) (J - loS q J) _ _ ⟨0, rfl, rfl, rfl, by first | rfl | (simp; done) | (simp [R]; done) | simp [R], by simp [liS, app_set, hb2], hts2, by first | rfl | (simp; done) | omega⟩ ?_
   rintro Bm Bf Bh ⟨c, B0, B1, B2, B4, hb3, hts3, hm3⟩ Bih
   try simp [A1, A2, A4, A5, A7, F1, F2, F4, F5, F15, F16] at B0 B1 B2
   simp [app_set, hb2] at hb3
   have hPk := liS_ok hq (m := k) hk (hPd k (by omega)) c (by rw [← hJ]; omega)
   rw [← hJ] at hPk
   by_cases hc : loS q J + c < J
   ·obtain ⟨r1, r2, _, _⟩ := hq.2.2.2.2.2.2.1 (J - 1) (by omega)
    have s1 := smS_in hq (i := loS q J + c) (by omega)
    have s2 := smS_in hq (i := J) (by omega)
    have s3 := smS_le hq (Nat.le_of_lt hc) (show J ≤ q.ready.length by omega)
    have g1 : gsQ q q.ready.length (loS q J + c) = smS q (loS q J + c) := gsQ_at (by omega)
    have g2 : gsQ q q.ready.length J = smS q J := gsQ_at (by omega)
    have b1 := hPk.bound (loS q J + c) (by omega)
    have b2 := hPk.bound J (by omega)
    have hd1 := hd.1
    have hd2 := hd.2.1
    have hxc : ((loS q J : Int) + c).toNat = loS q J + c := by omega
    have hxJ : ((J : Int) - 1).toNat = J - 1 := by omega
    have hJ1 : J - 1 < q.ready.length := by omega
    have hc65 : loS q J + c < 65 := by omega
    have hc2 : (loS q J : Int) + c < J := by omega
    unfold nvS at b1 b2
    have hls : liS q J (laS q d k) (c + 1) = lsS q J (liS q J (laS q d k) c) (loS q J + c) := rfl
    generalize hG : liS q J (laS q d k) c = G at *
    by_cases hcd : nth q.ready (J - 1) + (smS q J - smS q (loS q J + c)) ≤ G J
    ·have hls2 : lsS q J G (loS q J + c) = updI G (loS q J + c) (max (G (loS q J + c)) (G J - (smS q J - smS q (loS q J + c)) - q.flip)) := if_pos hcd
     repeat' (first|((first|refine wA ?_ ?_|refine wB ?_ ?_)<;>intro hc<;>try simp at hc)|refine wF ?_|refine wY ?_|refine wL ?_|refine owe ?_ fun ho=>?_|(simp (disch := first|exact DD|fail) [B0, B1, B2, B4, A1, A2, A4, A5, A7, F1, F2, F4, F5, F15, F16, hb3, hts3, hc2, hcd, hxc, hxJ, hJ1, hJ65, hc65, g1, g2, eI, qC_0, qC_67, qC_s, tab68_0, tab_get1, tab_set, upd_cI, app_at, app_at0, app_set, app_set0, gbE, gsE, Nat.add_assoc, -getElem?_pos, gZ, gS]))
     exact Bih (Bm - 1) _ _ (by omega) ⟨c + 1, by simp [B0, B1, B2, B4, A1, A2, A4, A5, A7, F1, F2, F4, F5, F15, F16, hb3, app_set, hb2, Int.add_assoc], by simp [B0, B1, B2, B4, A1, A2, A4, A5, A7, F1, F2, F4, F5, F15, F16, hb3, app_set, hb2, Int.add_assoc], by simp [B0, B1, B2, B4, A1, A2, A4, A5, A7, F1, F2, F4, F5, F15, F16, hb3, app_set, hb2, Int.add_assoc], by simp [B0, B1, B2, B4, A1, A2, A4, A5, A7, F1, F2, F4, F5, F15, F16, hb3, app_set, hb2, Int.add_assoc], (by rw [hls, hls2]; simp [hb3, hb2, app_set]), rfl, by omega⟩
    ·have hls2 : lsS q J G (loS q J + c) = G := if_neg hcd
     repeat' (first|((first|refine wA ?_ ?_|refine wB ?_ ?_)<;>intro hc<;>try simp at hc)|refine wF ?_|refine wY ?_|refine wL ?_|refine owe ?_ fun ho=>?_|(simp (disch := first|exact DD|fail) [B0, B1, B2, B4, A1, A2, A4, A5, A7, F1, F2, F4, F5, F15, F16, hb3, hts3, hc2, hcd, hxc, hxJ, hJ1, hJ65, hc65, g1, g2, eI, qC_0, qC_67, qC_s, tab68_0, tab_get1, tab_set, upd_cI, app_at, app_at0, app_set, app_set0, gbE, gsE, Nat.add_assoc, -getElem?_pos, gZ, gS]))
     exact Bih (Bm - 1) _ _ (by omega) ⟨c + 1, by simp [B0, B1, B2, B4, A1, A2, A4, A5, A7, F1, F2, F4, F5, F15, F16, hb3, app_set, hb2, Int.add_assoc], by simp [B0, B1, B2, B4, A1, A2, A4, A5, A7, F1, F2, F4, F5, F15, F16, hb3, app_set, hb2, Int.add_assoc], by simp [B0, B1, B2, B4, A1, A2, A4, A5, A7, F1, F2, F4, F5, F15, F16, hb3, app_set, hb2, Int.add_assoc], by simp [B0, B1, B2, B4, A1, A2, A4, A5, A7, F1, F2, F4, F5, F15, F16, hb3, app_set, hb2, Int.add_assoc], (by rw [hls, hls2]; simp [hb3, hb2, app_set]), rfl, by omega⟩
   ·have hc2 : loS q J + c = J := by omega
    have hla : laS q d (k + 1) = liS q J (laS q d k) c := by rw [show c = J - loS q J by omega, hJ]; rfl
    repeat' (first|((first|refine wA ?_ ?_|refine wB ?_ ?_)<;>intro hc<;>try simp at hc)|refine wF ?_|refine wY ?_|refine wL ?_|refine owe ?_ fun ho=>?_|(simp (disch := first|exact DD|fail) [B0, B1, B2, B4, A1, A2, A4, A5, A7, F1, F2, F4, F5, F15, F16, hb3, hts3, app_at, app_at0, app_set, app_set0, gbE, gsE, Nat.add_assoc, -getElem?_pos, gZ, gS]))
    refine Aih (Am - 1) _ _ _ (by omega) ⟨k + 1, Y ++ [?_, ?_, ?_, Blk.dfr true, ?_], (Y.length + 3) :: ms, by simp [A1, A2, A4, A5, A7, B0, B1, B2, B4, F1, F2, F4, F5, F15, F16], by simp [A1, A2, A4, A5, A7, B0, B1, B2, B4, F1, F2, F4, F5, F15, F16], by simp [A1, A2, A4, A5, A7, B0, B1, B2, B4, F1, F2, F4, F5, F15, F16], by simp [A1, A2, A4, A5, A7, B0, B1, B2, B4, F1, F2, F4, F5, F15, F16], by simp [Nat.add_assoc], ?_, rfl, by omega, hmk.new rfl, ?_⟩
    rotate_left 4
    ·rw [hla, show (q.ready.length : Int) - ((k + 1 : Nat) : Int) = (J : Int) - 1 by omega]; exact bkE
    ·rw [mkD_cons]; congr 2; omega
  ·obtain rfl : k = q.ready.length := by omega
   have hone := eq_true (cI_one (laS q d q.ready.length))
   repeat' (first|((first|refine wA ?_ ?_|refine wB ?_ ?_)<;>intro hc<;>try simp at hc)|refine wF ?_|refine wY ?_|refine wL ?_|refine owe ?_ fun ho=>?_|(simp (disch := first|exact DD|fail) [A1, A2, A4, A5, A7, F1, F2, F4, F5, F15, F16, hb2, hts2, hone, cI_closed, cI_norm, tab_take, tab_wr, gbE, Nat.add_assoc, app_at, app_at0, app_set, -getElem?_pos, gZ, gS]))
   obtain ⟨bs', l1, l2⟩ := hmk.leave (D := Di cfg) (m := .ret) (ts := ts) (L := .cells (tab 68 (qC q (gsQ q q.ready.length))) :: (X ++ [.cells [.ptr 0 0], .cells (tab 65 (cI (laS q d q.ready.length)))])) (R := [.cells [.int .i64 0]]) (k := X.length + 3) (by simp)
   have l3 := l2 0 _ rfl
   have l4 := l2 (X.length + 2) (tab 65 (cI (laS q d q.ready.length))) (by simp)
   obtain ⟨X', rfl⟩ : ∃ X', bs' = .cells (tab 68 (qC q (gsQ q q.ready.length))) :: X' := by
    cases bs' with
    | nil => cases l3
    | cons a r => simp only [List.getElem?_cons_zero, Option.some.injEq] at l3; subst l3; exact ⟨_, rfl⟩
   simp only [List.cons_append, List.append_assoc, List.nil_append] at l1
   simp (disch := first|exact DD|fail) [-getElem?_pos, gZ, gS, l1, l4, tab_take]
   rw [← hP]
   exact ⟨_, _, ⟨rfl, rfl⟩, _, rfl⟩
end Go.Ab
namespace Go.Ab
open Go.Proofs
set_option maxRecDepth 100000
set_option maxHeartbeats 4000000
def intsN (l : List Nat) : List Int := l.map fun (k : Nat) => (k : Int)
@[simp] theorem intsN_len (l : List Nat) : (intsN l).length = l.length := by simp [intsN]
def prfS (q : QnZ) : List Int := rowF (q.ready.length + 1) (erS q)
theorem eaS_all (q : QnZ) (i : Nat) (h : i ≤ q.ready.length) : eaS q q.ready.length i = erS q i := erS_of q h
theorem nxS_step {q : QnZ} {i : Nat} {a : Int} {m j : Nat} (h : nxF (fitQ q i a) (m + 1) j = nxS q i a) (hf : ¬ enS q i j a ≤ ltS q j) : nxF (fitQ q i a) m (j + 1) = nxS q i a := by
 rw [← h]
 show _ = if fitQ q i a j then _ else _
 rw [if_neg]
 unfold fitQ
 simpa using hf
theorem nxS_stop {q : QnZ} {i : Nat} {a : Int} {m j : Nat} (h : nxF (fitQ q i a) m j = nxS q i a) (hf : enS q i j a ≤ ltS q j) : nxS q i a = j := by
 rw [← h]
 cases m with
 | zero => rfl
 | succ m => exact if_pos (show fitQ q i a j = true from decide_eq_true hf)
theorem index_tab {f : Nat → Int} {n : Nat} (hn : n < 65) : indexV Tryz.prog 62 (.agg (tab 65 (cI f))) (.int .i64 (n : Nat)) = some (.int .i64 (f n)) := by
 have h1 : n + 1 ≤ 65 := by omega
 simp (disch := first|exact DD|fail) [-getElem?_pos, gZ, gS, indexV, intOf?, hn, h1, tab_get1, packV]
def valG (q : QnZ) (i c : Nat) (a : Int) (bk m : Nat) : V := match m with
 | 0 => .func (.func 23) [.ptr 0 0] [] | 1 => .int .i64 i | 2 => .int .i64 c | 3 => .int .i64 a | 4 => .int .i64 (enS q i c a) | 5 => .int .i64 c | 6 => .ptr bk c | 7 => .int .i64 (ltS q c) | 8 => .bool (decide (ltS q c < enS q i c a)) | _ => .tuple []
theorem regG {q : QnZ} {i c : Nat} {a : Int} {bk : Nat} {f : Nat → V} {h : Heap} {d : List Def} {p : Pan} {ro : Option Nat} (hc65 : c < 65) (hb : h.bs[bk]? = some (.cells (tab 65 (cI (ltS q)))))
  (hE : Ci cfg (.func (.func 23) [.ptr 0 0] []) [.int .i64 i, .int .i64 c, .int .i64 a] h = some (.ret (.int .i64 (enS q i c a)), h))
  (h13 : f 13 = .ptr bk 0) (h14 : f 14 = .func (.func 23) [.ptr 0 0] []) (h15 : f 15 = .int .i64 a) (h16 : f 16 = .int .i64 i) (h17 : f 17 = .int .i64 c) :
  SemOk cfg (Ci cfg) (drawAt Tryz.f4 0) ⟨tab 65 f, h, d, p, ro⟩ := by
 refine semOk_list (valG q i c a bk) (fun _ => h) (by kernel_rfl) (by kernel_rfl) (by kernel_rfl) rfl ?_ (fun _ _ _ => rfl)
 refine ⟨?_, ?_, ?_, ?_, ?_, ?_, ?_, ?_, ?_, trivial⟩
 all_goals intro S ev hcl haf hS he
 ·have x : ev (.tmp 14) = f 14 := ev_old he 14 (by kernel_rfl)
  rw [h14] at x
  simp (disch := first|exact DD|fail) [-getElem?_pos, gZ, gS, eff, opR, x, valG]
 ·have x : ev (.tmp 16) = f 16 := ev_old he 16 (by kernel_rfl)
  rw [h16] at x
  simp (disch := first|exact DD|fail) [-getElem?_pos, gZ, gS, eff, opR, x, valG]
 ·have x : ev (.tmp 17) = f 17 := ev_old he 17 (by kernel_rfl)
  rw [h17] at x
  simp (disch := first|exact DD|fail) [-getElem?_pos, gZ, gS, eff, opR, x, valG]
 ·have x : ev (.tmp 15) = f 15 := ev_old he 15 (by kernel_rfl)
  rw [h15] at x
  simp (disch := first|exact DD|fail) [-getElem?_pos, gZ, gS, eff, opR, x, valG]
 ·have x0 : ev (.tmp 42) = valG q i c a bk 0 := ev_by he haf 0 42 (by kernel_rfl) (by simp)
  have x1 : ev (.tmp 43) = valG q i c a bk 1 := ev_by he haf 1 43 (by kernel_rfl) (by simp)
  have x2 : ev (.tmp 44) = valG q i c a bk 2 := ev_by he haf 2 44 (by kernel_rfl) (by simp)
  have x3 : ev (.tmp 45) = valG q i c a bk 3 := ev_by he haf 3 45 (by kernel_rfl) (by simp)
  simp only [valG] at x0 x1 x2 x3
  simp (disch := first|exact DD|fail) [-getElem?_pos, gZ, gS, eff, opR, x0, x1, x2, x3, valG, hE]
 ·have x : ev (.tmp 17) = f 17 := ev_old he 17 (by kernel_rfl)
  rw [h17] at x
  simp (disch := first|exact DD|fail) [-getElem?_pos, gZ, gS, eff, opR, x, valG]
 ·have x : ev (.tmp 13) = f 13 := ev_old he 13 (by kernel_rfl)
  rw [h13] at x
  have x1 : ev (.tmp 47) = valG q i c a bk 5 := ev_by he haf 5 47 (by kernel_rfl) (by simp)
  simp only [valG] at x1
  simp (disch := first|exact DD|fail) [-getElem?_pos, gZ, gS, eff, opR, x, x1, valG, hc65]
 ·have x1 : ev (.tmp 48) = valG q i c a bk 6 := ev_by he haf 6 48 (by kernel_rfl) (by simp)
  simp only [valG] at x1
  simp (disch := first|exact DD|fail) [-getElem?_pos, gZ, gS, eff, opR, x1, valG, hb, hc65, tab_get1]
 ·have x1 : ev (.tmp 46) = valG q i c a bk 4 := ev_by he haf 4 46 (by kernel_rfl) (by simp)
  have x2 : ev (.tmp 49) = valG q i c a bk 7 := ev_by he haf 7 49 (by kernel_rfl) (by simp)
  simp only [valG] at x1 x2
  simp (disch := first|exact DD|fail) [-getElem?_pos, gZ, gS, eff, opR, x1, x2, he.const, ofVal, valG]
theorem C4 (q : QnZ) (hq : qOk q) : Kc cfg 4 [R fl0 eI q.ready, R fl0 eI q.need, .int .i64 q.most, .int .i64 q.flip] (.ret (.tuple [R fl0 eI (intsN (groupS q)), .int .i64 (erS q q.ready.length), .int .i64 0])) := by
 have q1 := hq.1
 have q2 := hq.2.1
 have hfl := hq.2.2.2.2.1
 have hrl : q.ready.length < 1099511627776 := by omega
 have hlt := ltS_ok hq
 have hd := erS_ok hq (Nat.le_refl q.ready.length)
 have hea := eaS_all q q.ready.length (Nat.le_refl _)
 have hgl := okG_len (groupS_ok hq).1
 obtain ⟨x1, e1, X1, rfl⟩ := Cearl hq [] []
 have e2 := fun X => Clate hq X []
 have hn65 : q.ready.length < 65 := by omega
 have hone := eq_true (qV_one q (gsQ q q.ready.length))
 have hone2 := fun f => eq_true (cI_one f)
 have hQ : qV q = tab 68 (qC q (gsQ q q.ready.length)) := rfl
 obtain ⟨x2, e3, X2, rfl⟩ := e2 X1
 have g0 : groupS q = [] ++ grS q q.ready.length 0 0 := rfl
 generalize groupS q = L at *
 rw [hQ] at e1 e3
 have hwa : ∀ (l : List V) (f : Nat → V), l.length = 68 → writeL l 0 (tab 68 f) = tab 68 f := fun l f h => writeL_all _ _ (by simp [h])
 have hwb : ∀ (l : List V) (f : Nat → V), l.length = 65 → writeL l 0 (tab 65 f) = tab 65 f := fun l f h => writeL_all _ _ (by simp [h])
 refine outS_of_wp cfg (fn := Tryz.f4) Tryz.func4 rfl (by simp [Tryz.f4]) ?_
 simp (disch := first|exact DD|fail) [-getElem?_pos, gZ, gS, Tryz.f4, emptyH]
 repeat' (first|((first|refine wA ?_ ?_|refine wB ?_ ?_)<;>intro hc<;>try simp at hc)|refine wF ?_|refine wY ?_|refine wL ?_|refine owe ?_ fun ho=>?_|(simp (disch := first|exact DD|fail) [emptyH, hQ, e1, e3, hn65, hea, hone, qV_closed, qV_norm, hone2, cI_closed, cI_norm, tab_take, hwa, hwb, index_tab, tab_get1, -getElem?_pos, gZ, gS]))
 refine wp_loopE cfg rfl (fun f0 h0 m fr h => ∃ i : Nat, ∃ a : Int, ∃ O : List Nat, ∃ fl : Fl, fr 9 = f0 9 ∧ fr 10 = f0 10 ∧ fr 12 = f0 12 ∧ fr 13 = f0 13 ∧ fr 14 = f0 14 ∧ fr 15 = .int .i64 a ∧ fr 16 = .int .i64 i ∧ fr 8 = R fl eI (intsN O) ∧ h.bs = h0.bs ∧ (App h.ts 1 fl) ∧ (L = O ++ grS q m i a) ∧ (onS q i a) ∧ (0 ≤ a ∧ a ≤ tmS i) ∧ (i ≤ q.ready.length) ∧ (q.ready.length ≤ i + m)) (q.ready.length) _ _ ⟨0, 0, [], (true, true, none), rfl, rfl, rfl, rfl, rfl, by first | rfl | (simp; done) | (simp [R]; done) | simp [R], by first | rfl | (simp; done) | (simp [R]; done) | simp [R], by simp [R, intsN], rfl, App.nil _ _ _, g0, .inl ⟨rfl, rfl⟩, ⟨Int.le_refl _, by unfold tmS; omega⟩, by first | rfl | (simp; done) | omega, by first | rfl | (simp; done) | omega⟩ ?_
 rintro Am Af Ah ⟨i, a, O, fl, A9, A10, A12, A13, A14, A15, A16, A8, Abs, hap, hO, hon, hat, hin, hm⟩ Aih
 try simp at A9 A10 A12 A13 A14 Abs
 have hOl : O.length ≤ 64 := by have := congrArg List.length hO; rw [List.length_append] at this; omega
 by_cases hi : i < q.ready.length
 ·obtain ⟨m', rfl⟩ : ∃ m', Am = m' + 1 := ⟨Am - 1, by omega⟩
  rw [grS, if_pos hi] at hO
  obtain ⟨n1, n2, n3, n4, n5⟩ := nxS_ok hq hi hon
  have hE : ∀ c : Nat, i < c → c ≤ q.ready.length → ∀ h : Heap, h.bs[0]? = some (.cells (tab 68 (qC q (gsQ q q.ready.length)))) → Ci cfg (.func (.func 23) [.ptr 0 0] []) [.int .i64 i, .int .i64 c, .int .i64 a] h = some (.ret (.int .i64 (enS q i c a)), h) :=
   fun c h1 h2 h hh => Cend hq h1 h2 hat.1 hat.2 rfl h hh
  repeat' (first|((first|refine wA ?_ ?_|refine wB ?_ ?_)<;>intro hc<;>try simp at hc)|refine wF ?_|refine wY ?_|refine wL ?_|refine owe ?_ fun ho=>?_|(simp (disch := first|exact DD|fail) [A9, A10, A12, A13, A14, A15, A16, A8, Abs, -getElem?_pos, gZ, gS]))
  refine wp_loopE cfg rfl (fun f0 h0 m fr h => ∃ c : Nat, fr 8 = f0 8 ∧ fr 9 = f0 9 ∧ fr 10 = f0 10 ∧ fr 12 = f0 12 ∧ fr 13 = f0 13 ∧ fr 14 = f0 14 ∧ fr 15 = f0 15 ∧ fr 16 = f0 16 ∧ fr 17 = .int .i64 c ∧ h.bs = h0.bs ∧ (App h.ts 1 fl) ∧ (nxF (fitQ q i a) (q.ready.length + 1 - c) c = nxS q i a) ∧ (i < c) ∧ (c + m = nxS q i a)) (nxS q i a - (i + 1)) _ _ ⟨i + 1, rfl, rfl, rfl, rfl, rfl, rfl, rfl, rfl, by first | rfl | (simp; done) | (simp [R]; done) | simp [R], rfl, hap, (by rw [show q.ready.length + 1 - (i + 1) = q.ready.length - i by omega]; rfl), by first | rfl | (simp; done) | omega, by first | rfl | (simp; done) | omega⟩ ?_
  rintro Bm Bf Bh ⟨c, B8, B9, B10, B12, B13, B14, B15, B16, B17, Bbs, hap2, hnx, hic, hm2⟩ Bih
  try simp [A9, A10, A12, A13, A14, A15, A16, A8, Abs] at B8 B9 B10 B12 B13 B14 B15 B16 Bbs
  have hEc := hE c hic (by omega) Bh (by rw [Bbs]; rfl)
  have hc65 : c < 65 := by omega
  have hbk : Bh.bs[X2.length + 1]? = some (.cells (tab 65 (cI (ltS q)))) := by rw [Bbs]; simp
  repeat' (first | ((first | refine wA ?_ ?_ | refine wB ?_ ?_) <;> intro hc <;> try simp at hc) | refine wY ?_ | refine wL ?_ | refine owe ?_ fun ho => ?_ | (simp (disch := first|exact DD|fail) [B8, B9, B10, B12, B13, B14, B15, B16, B17, Bbs, A9, A10, A12, A13, A14, A15, A16, A8, Abs, -getElem?_pos, gZ, gS]))
  refine wp_sem (by kernel_rfl) (regG hc65 hbk hEc B13 B14 B15 B16 B17) ?_
  simp only [Tryz.f4, drawAt, drawsOf, codeOf, Option.getD, List.append, List.nil_append, List.cons_append, List.append_nil, List.getD, gZ, gS]
  by_cases hf : enS q i c a ≤ ltS q c
  ·have hj := nxS_stop hnx hf
   rw [hj] at hO n5
   have hb := (enS_in hq hic (show c ≤ q.ready.length by omega) hat.1)
   have hf2 : (ltS q c < enS q i c a) = False := eq_false (by omega)
   have hin2 : intsN (O ++ [c]) = intsN O ++ [(c : Int)] := by simp [intsN]
   repeat' (first|((first|refine wA ?_ ?_|refine wB ?_ ?_)<;>intro hc<;>try simp at hc)|refine wF ?_|refine wY ?_|refine wL ?_|refine owe ?_ fun ho=>?_|(simp (disch := first|exact DD|fail) [B8, B9, B10, B12, B13, B14, B15, B16, B17, Bbs, A9, A10, A12, A13, A14, A15, A16, A8, Abs, hEc, hc65, hf2, tab_get1, fold_I1, app_at, app_at0, Abs, Bbs, -getElem?_pos, gZ, gS]))
   exact Aih (m') _ _ (by omega) ⟨c, enS q i c a, O ++ [c], (false, false, some Bh.ts.length), by simp [B8, B9, B10, B12, B13, B14, B15, B16, B17, Bbs, A9, A10, A12, A13, A14, A15, A16, A8, Abs, hin2, Bbs], by simp [B8, B9, B10, B12, B13, B14, B15, B16, B17, Bbs, A9, A10, A12, A13, A14, A15, A16, A8, Abs, hin2, Bbs], by simp [B8, B9, B10, B12, B13, B14, B15, B16, B17, Bbs, A9, A10, A12, A13, A14, A15, A16, A8, Abs, hin2, Bbs], by simp [B8, B9, B10, B12, B13, B14, B15, B16, B17, Bbs, A9, A10, A12, A13, A14, A15, A16, A8, Abs, hin2, Bbs], by simp [B8, B9, B10, B12, B13, B14, B15, B16, B17, Bbs, A9, A10, A12, A13, A14, A15, A16, A8, Abs, hin2, Bbs], by simp [B8, B9, B10, B12, B13, B14, B15, B16, B17, Bbs, A9, A10, A12, A13, A14, A15, A16, A8, Abs, hin2, Bbs], by simp [B8, B9, B10, B12, B13, B14, B15, B16, B17, Bbs, A9, A10, A12, A13, A14, A15, A16, A8, Abs, hin2, Bbs], by simp [B8, B9, B10, B12, B13, B14, B15, B16, B17, Bbs, A9, A10, A12, A13, A14, A15, A16, A8, Abs, hin2, Bbs], by simp [B8, B9, B10, B12, B13, B14, B15, B16, B17, Bbs, A9, A10, A12, A13, A14, A15, A16, A8, Abs, hin2, Bbs], App.new _ _ _, (by rw [hO]; simp), n5, ⟨hb.1, by (unfold tmS at hat ⊢; exact hb.2 hat.2)⟩, by omega, by omega⟩
  ·have hne : c ≠ nxS q i a := fun e => hf (by rw [e]; exact n4)
   have hf2 : (ltS q c < enS q i c a) = True := eq_true (by omega)
   have hnx2 := nxS_step (m := q.ready.length - c) (by rw [← show q.ready.length + 1 - c = q.ready.length - c + 1 by omega]; exact hnx) hf
   repeat' (first|((first|refine wA ?_ ?_|refine wB ?_ ?_)<;>intro hc<;>try simp at hc)|refine wF ?_|refine wY ?_|refine wL ?_|refine owe ?_ fun ho=>?_|(simp (disch := first|exact DD|fail) [B8, B9, B10, B12, B13, B14, B15, B16, B17, Bbs, A9, A10, A12, A13, A14, A15, A16, A8, Abs, hEc, hc65, hf2, tab_get1, app_at, app_at0, Abs, Bbs, -getElem?_pos, gZ, gS]))
   exact Bih (Bm - 1) _ _ (by omega) ⟨c + 1, by simp [B8, B9, B10, B12, B13, B14, B15, B16, B17, Bbs, A9, A10, A12, A13, A14, A15, A16, A8, Abs, Bbs], by simp [B8, B9, B10, B12, B13, B14, B15, B16, B17, Bbs, A9, A10, A12, A13, A14, A15, A16, A8, Abs, Bbs], by simp [B8, B9, B10, B12, B13, B14, B15, B16, B17, Bbs, A9, A10, A12, A13, A14, A15, A16, A8, Abs, Bbs], by simp [B8, B9, B10, B12, B13, B14, B15, B16, B17, Bbs, A9, A10, A12, A13, A14, A15, A16, A8, Abs, Bbs], by simp [B8, B9, B10, B12, B13, B14, B15, B16, B17, Bbs, A9, A10, A12, A13, A14, A15, A16, A8, Abs, Bbs], by simp [B8, B9, B10, B12, B13, B14, B15, B16, B17, Bbs, A9, A10, A12, A13, A14, A15, A16, A8, Abs, Bbs], by simp [B8, B9, B10, B12, B13, B14, B15, B16, B17, Bbs, A9, A10, A12, A13, A14, A15, A16, A8, Abs, Bbs], by simp [B8, B9, B10, B12, B13, B14, B15, B16, B17, Bbs, A9, A10, A12, A13, A14, A15, A16, A8, Abs, Bbs], by simp [B8, B9, B10, B12, B13, B14, B15, B16, B17, Bbs, A9, A10, A12, A13, A14, A15, A16, A8, Abs, Bbs], by simp [B8, B9, B10, B12, B13, B14, B15, B16, B17, Bbs, A9, A10, A12, A13, A14, A15, A16, A8, Abs, Bbs], hap2, (by rw [show q.ready.length + 1 - (c + 1) = q.ready.length - c by omega]; exact hnx2), by omega, by omega⟩
 ·have hOL : O = L := by
   rw [hO]
   cases Am with
   | zero => simp [grS]
   | succ m => rw [grS, if_neg hi, List.append_nil]
  subst hOL
  repeat' (first|((first|refine wA ?_ ?_|refine wB ?_ ?_)<;>intro hc<;>try simp at hc)|refine wF ?_|refine wY ?_|refine wL ?_|refine owe ?_ fun ho=>?_|(simp (disch := first|exact DD|fail) [A9, A10, A12, A13, A14, A15, A16, A8, Abs, Abs, -getElem?_pos, gZ, gS]))
@[simp] theorem S4 (q : QnZ) (hq : qOk q) (q1 q2 : Fl) (hh : Heap) : Ci cfg (.func (.func 4) [] []) [R  q1 eI q.ready, R  q2 eI q.need, .int .i64 q.most, .int .i64 q.flip] hh = some (.ret (.tuple [R fl0 eI (intsN (groupS q)), .int .i64 (erS q q.ready.length), .int .i64 0]), hh) :=
 Ci_K cfg rfl rfl (by simp) (by simp) (C4 q hq)
theorem tab_part {n m : Nat} {f : Nat → V} (h : m ≤ n) : (tab n f).take m = tab m f := by
 apply List.ext_getElem?
 intro i
 rw [List.getElem?_take]
 by_cases hi : i < m
 ·simp [hi, tab, show i < n by omega]
 ·rw [if_neg hi, List.getElem?_eq_none (by simp; omega)]
theorem append_BS {P : Program} {h : Heap} {a n m : Nat} {f : Nat → Int} {ts : Array TypeId} (ht : apok P ts 1 = true) (hb : h.bs[a]? = some (.cells (tab n (cI f)))) (hm : m ≤ n) (h0 : 0 < m) (hl : m ≤ 4294967296) :
  appendV P h true ts (R (false, true, none) eI []) (.slice a 0 m 1) = some (.slice h.bs.length 0 m 1, newB h (.cells (tab m (cI f)))) := by
 obtain ⟨b, k1, k2⟩ := apok_apz ht
 obtain ⟨e, i, z, h1, hi, hz, hs, hb'⟩ := appendV_apzB (h := h) k1 (s := R (false, true, none) eI []) (x := .slice a 0 m 1)
 rw [h1]
 unfold appendEB
 have sc : sliceCells h 1 (.slice a 0 m 1) = some (tab m (cI f)) := by
  simp only [sliceCells, hb, if_true, Nat.zero_add, Nat.mul_one, List.drop_zero]
  rw [if_pos (by simpa using hm), tab_part hm]
 simp only [hi, hz, hs, sc, lenO, R, rows_nil]
 rw [if_pos ⟨by simp, by decide, by simp [smallRow, hl, hb', k2], by simp⟩, if_neg (by omega), if_pos (by simp)]
 simp
theorem C16 (q : QnZ) (hq : qOk q) : Kc cfg 16 [R fl0 eI q.ready, R fl0 eI q.need, .int .i64 q.most, .int .i64 q.flip] (.ret (.tuple [R fl0 eI (prfS q), .int .i64 0])) := by
 have q1 := hq.1
 have q2 := hq.2.1
 have hrl : q.ready.length < 1099511627776 := by omega
 obtain ⟨x1, e1, X1, rfl⟩ := Cearl hq [] []
 have hone := eq_true (qV_one q (gsQ q q.ready.length))
 have hone2 := fun f => eq_true (cI_one f)
 have hQ : qV q = tab 68 (qC q (gsQ q q.ready.length)) := rfl
 rw [hQ] at e1
 have hwa : ∀ (l : List V) (f : Nat → V), l.length = 68 → writeL l 0 (tab 68 f) = tab 68 f := fun l f h => writeL_all _ _ (by simp [h])
 have hwb : ∀ (l : List V) (f : Nat → V), l.length = 65 → writeL l 0 (tab 65 f) = tab 65 f := fun l f h => writeL_all _ _ (by simp [h])
 have hsl : ∀ (h : Heap) (a : Nat) (f : Nat → Int), h.bs[a]? = some (.cells (tab 65 (cI f))) → sliceV Tryz.prog 62 h (.ptr a 0) none (some (.int .i64 ((q.ready.length : Int) + 1))) none = some (.slice a 0 (q.ready.length + 1) 1) := by
  intro h a f hh
  have e1 : 0 ≤ (q.ready.length : Int) + 1 ∧ ((q.ready.length : Int) + 1).toNat ≤ 65 := by omega
  have hn1 : ((q.ready.length : Int) + 1).toNat = q.ready.length + 1 := by omega
  simp [sliceV, bound, e1, hn1, hh, q1]
 have hsl1 : ∀ (ts : List (Option Nat)), sliceV Tryz.prog 62 ⟨.cells (tab 68 (qC q (gsQ q q.ready.length))) :: (X1 ++ [.cells (tab 65 (cI (eaS q q.ready.length)))]), ts⟩ (.ptr (X1.length + 1) 0) none (some (.int .i64 ((q.ready.length : Int) + 1))) none = some (.slice (X1.length + 1) 0 (q.ready.length + 1) 1) := fun ts => hsl _ _ (eaS q q.ready.length) (by simp)
 have hnl : V.row false true [] 0 none = R (false, true, none) eI [] := rfl
 have heq : ∀ (b : Bool) (x y z w : Nat), eqV Tryz.prog b 36 (.slice x y z w) (.row true true [] 0 none) = some false := fun b x y z w => by simp [eqV]
 have hap : ∀ (ts : List (Option Nat)), appendV Tryz.prog ⟨.cells (tab 68 (qC q (gsQ q q.ready.length))) :: (X1 ++ [.cells (tab 65 (cI (eaS q q.ready.length)))]), ts⟩ true #[36, 36] (R (false, true, none) eI []) (.slice (X1.length + 1) 0 (q.ready.length + 1) 1) = some (.slice (X1.length + 2) 0 (q.ready.length + 1) 1, newB ⟨.cells (tab 68 (qC q (gsQ q q.ready.length))) :: (X1 ++ [.cells (tab 65 (cI (eaS q q.ready.length)))]), ts⟩ (.cells (tab (q.ready.length + 1) (cI (eaS q q.ready.length))))) := fun ts => by
  have := append_BS (P := Tryz.prog) (h := ⟨.cells (tab 68 (qC q (gsQ q q.ready.length))) :: (X1 ++ [.cells (tab 65 (cI (eaS q q.ready.length)))]), ts⟩) (a := X1.length + 1) (n := 65) (m := q.ready.length + 1) (f := eaS q q.ready.length) (ts := #[36, 36]) (by kernel_rfl) (by simp) (by omega) (by omega) (by omega)
  simpa using this
 refine outS_of_wp cfg (fn := Tryz.f16) Tryz.func16 rfl (by simp [Tryz.f16]) ?_
 simp (disch := first|exact DD|fail) [-getElem?_pos, gZ, gS, Tryz.f16, emptyH]
 repeat' (first|((first|refine wA ?_ ?_|refine wB ?_ ?_)<;>intro hc<;>try simp at hc)|refine wF ?_|refine wY ?_|refine wL ?_|refine owe ?_ fun ho=>?_|(simp (disch := first|exact DD|fail) [emptyH, hQ, e1, hsl1, hnl, heq, hap, Tryz.f49, hone, qV_closed, qV_norm, hone2, cI_closed, cI_norm, tab_take, hwa, hwb, tab_get1, app_at, app_at0, -getElem?_pos, gZ, gS]))
 have ht : tab (q.ready.length + 1) (cI (eaS q q.ready.length)) = rows eI (prfS q) := by
  unfold prfS
  rw [rowF_cI]
  exact tab_ext fun i hi => by
   show V.int .i64 (eaS q q.ready.length i) = V.int .i64 (erS q i)
   rw [eaS_all q i (by omega)]
 exact outS_slT (E := eI) (L := prfS q) (by simp [prfS]) (by rw [← ht]; simp) (fun _ => rfl) (fun _ _ => rfl)
@[simp] theorem S16 (q : QnZ) (hq : qOk q) (q1 q2 : Fl) (hh : Heap) : Ci cfg (.func (.func 16) [] []) [R  q1 eI q.ready, R  q2 eI q.need, .int .i64 q.most, .int .i64 q.flip] hh = some (.ret (.tuple [R fl0 eI (prfS q), .int .i64 0]), hh) :=
 Ci_K cfg rfl rfl (by simp) (by simp) (C16 q hq)
end Go.Ab
namespace Go.Ab
open Go.Proofs
set_option maxRecDepth 100000
set_option maxHeartbeats 4000000
theorem bk48 {a b c d b1 b2 b3 b4 b5 : Blk} {X : List Blk} : a :: b :: c :: d :: (X ++ [b1, b2, b3, b4, b5]) = [a, b, c, d] ++ (X ++ [b1, b2, b3, b4, b5]) := rfl
theorem C18 (q : QnZ) (hq : qOk q) : Kc cfg 18 [R fl0 eI q.ready, R fl0 eI q.need, .int .i64 q.most, .int .i64 q.flip, R fl0 eI (intsN (groupS q)), R fl0 eI (prfS q)] (.ret (.tuple [.bool true, .int .i64 0])) := by
 have q1 := hq.1
 have q2 := hq.2.1
 have hmo := hq.2.2.1
 have hmo2 := hq.2.2.2.1
 have hrl : q.ready.length < 1099511627776 := by omega
 obtain ⟨hG, hD⟩ := groupS_ok hq
 have hgl := okG_len hG
 have hpl : (prfS q).length = q.ready.length + 1 := rowF_len _ _
 have hnq : ∀ i, i ≤ q.ready.length → nth (prfS q) i = erS q i := fun i hi => nth_rowF (by omega)
 have hmin := min_nth (l := prfS q) (r := 0) (by omega) (fun i hi => by rw [hnq i (by omega)]; exact (erS_ok hq (by omega)).1)
 have hmax := max_nth (l := prfS q) (r := 4398046511104) (by omega) (fun i hi => by rw [hnq i (by omega)]; have := (erS_ok hq (j := i) (by omega)).2.1; omega)
 have hone := eq_true (qV_one q (gsQ q q.ready.length))
 have hQ : qV q = tab 68 (qC q (gsQ q q.ready.length)) := rfl
 have hwa : ∀ (l : List V) (f : Nat → V), l.length = 68 → writeL l 0 (tab 68 f) = tab 68 f := fun l f h => writeL_all _ _ (by simp [h])
 have hLl : (intsN (groupS q)).length = (groupS q).length := intsN_len _
 generalize hLe : intsN (groupS q) = L at *
 have hL0 : L.drop 0 = intsN (groupS q) := hLe.symm
 generalize prfS q = P at *
 have hmin1 : (List.foldl min (nth P 0) P < 0) = False := eq_false (by omega)
 have hmax1 : (4398046511104 < List.foldl max (nth P 0) P) = False := eq_false (by omega)
 have hP0 : 0 < P.length := by omega
 have hPs : P.length < 1099511627776 := by omega
 have hLs : L.length < 1099511627776 := by omega
 refine outS_of_wp cfg (fn := Tryz.f18) Tryz.func18 rfl (by simp [Tryz.f18]) ?_
 simp (disch := first|exact DD|fail) [-getElem?_pos, gZ, gS, Tryz.f18, emptyH]
 repeat' (first|((first|refine wA ?_ ?_|refine wB ?_ ?_)<;>intro hc<;>try simp at hc)|refine wF ?_|refine wY ?_|refine wL ?_|refine owe ?_ fun ho=>?_|(simp (disch := first|exact DD|fail) [emptyH, hQ, hpl, hmin1, hmax1, hone, qV_closed, qV_norm, tab_take, hwa, -getElem?_pos, gZ, gS]))
 all_goals try (exfalso; omega)
 refine wp_loopE cfg rfl (fun f0 h0 m fr h => ∃ jj : Nat, ∃ l : Nat, ∃ a : Int, ∃ G : List Nat, fr 2 = f0 2 ∧ fr 11 = f0 11 ∧ fr 12 = f0 12 ∧ fr 13 = f0 13 ∧ fr 14 = f0 14 ∧ fr 15 = f0 15 ∧ fr 50 = f0 50 ∧ fr 51 = f0 51 ∧ fr 52 = .int .i64 jj ∧ fr 16 = .int .i64 l ∧ fr 17 = .int .i64 a ∧ h.bs = h0.bs ∧ (L.drop jj = intsN G) ∧ (okG q l G) ∧ (dnG q l a G = erS q q.ready.length) ∧ (0 ≤ a ∧ a ≤ tmS l) ∧ (jj + m = L.length)) (L.length) _ _ ⟨0, 0, 0, groupS q, rfl, rfl, rfl, rfl, rfl, rfl, rfl, rfl, by first | rfl | (simp; done) | (simp [R]; done) | simp [R], by first | rfl | (simp; done) | (simp [R]; done) | simp [R], by first | rfl | (simp; done) | (simp [R]; done) | simp [R], rfl, hL0, hG, hD, ⟨Int.le_refl _, by unfold tmS; omega⟩, by first | rfl | (simp; done) | omega⟩ ?_
 rintro Am Af Ah ⟨jj, l, a, G, A2, A11, A12, A13, A14, A15, A50, A51, A52, A16, A17, Abs, hdr, hok, hdn, hat, hm⟩ Aih
 try simp at A2 A11 A12 A13 A14 A15 A50 A51 Abs
 by_cases hj : jj < L.length
 ·cases G with
  | nil => have := congrArg List.length hdr; simp [intsN] at this; omega
  | cons e G =>
   obtain ⟨o1, o2, o3, o4⟩ := hok
   rw [nth_drop hj] at hdr
   have hdr' : nth L jj :: L.drop (jj + 1) = (e : Int) :: intsN G := hdr
   rw [List.cons.injEq] at hdr'
   obtain ⟨hnl, hdr2⟩ := hdr'
   have hen := enS_in hq o1 o2 hat.1
   have hEe := Cend hq o1 o2 hat.1 hat.2 (b := 3) (first := []) rfl Ah (by rw [Abs]; rfl)
   unfold loS at o3
   have hw2 : (l : Int) + 1 ≤ e := by omega
   have hw3 : (e : Int) ≤ min (q.ready.length : Int) (l + q.most) := by omega
   have hl64 : (l : Int) ≤ 64 := by omega
   repeat' (first|((first|refine wA ?_ ?_|refine wB ?_ ?_)<;>intro hc<;>try simp at hc)|refine wF ?_|refine wY ?_|refine wL ?_|refine owe ?_ fun ho=>?_|(simp (disch := first|exact DD|fail) [A2, A11, A12, A13, A14, A15, A50, A51, A52, A16, A17, Abs, eI, hnl, hw2, hw3, hEe, Abs, -getElem?_pos, gZ, gS]))
   all_goals try (exfalso; omega)
   exact Aih (Am - 1) _ _ (by omega) ⟨jj + 1, e, enS q l e a, G, by simp [A2, A11, A12, A13, A14, A15, A50, A51, A52, A16, A17, Abs, Abs], by simp [A2, A11, A12, A13, A14, A15, A50, A51, A52, A16, A17, Abs, Abs], by simp [A2, A11, A12, A13, A14, A15, A50, A51, A52, A16, A17, Abs, Abs], by simp [A2, A11, A12, A13, A14, A15, A50, A51, A52, A16, A17, Abs, Abs], by simp [A2, A11, A12, A13, A14, A15, A50, A51, A52, A16, A17, Abs, Abs], by simp [A2, A11, A12, A13, A14, A15, A50, A51, A52, A16, A17, Abs, Abs], by simp [A2, A11, A12, A13, A14, A15, A50, A51, A52, A16, A17, Abs, Abs], by simp [A2, A11, A12, A13, A14, A15, A50, A51, A52, A16, A17, Abs, Abs], by simp [A2, A11, A12, A13, A14, A15, A50, A51, A52, A16, A17, Abs, Abs], by simp [A2, A11, A12, A13, A14, A15, A50, A51, A52, A16, A17, Abs, Abs], by simp [A2, A11, A12, A13, A14, A15, A50, A51, A52, A16, A17, Abs, Abs], by simp [A2, A11, A12, A13, A14, A15, A50, A51, A52, A16, A17, Abs, Abs], hdr2, o4, hdn, ⟨hen.1, by (unfold tmS at hat ⊢; exact hen.2 hat.2)⟩, by omega⟩
 ·have hG0 : G = [] := by
   rw [List.drop_eq_nil_of_le (by omega)] at hdr
   cases G with
   | nil => rfl
   | cons e G => cases hdr
  subst hG0
  obtain rfl : l = q.ready.length := hok
  have hdn : a = erS q q.ready.length := hdn
  subst hdn
  repeat' (first|((first|refine wA ?_ ?_|refine wB ?_ ?_)<;>intro hc<;>try simp at hc)|refine wF ?_|refine wY ?_|refine wL ?_|refine owe ?_ fun ho=>?_|(simp (disch := first|exact DD|fail) [A2, A11, A12, A13, A14, A15, A50, A51, A52, A16, A17, Abs, Abs, -getElem?_pos, gZ, gS]))
  refine wp_loopD (c := cfg) rfl (fun f0 h0 d0 m fr h dd => ∃ j : Nat, ∃ X : List Blk, ∃ ms : List Nat, fr 11 = f0 11 ∧ fr 12 = f0 12 ∧ fr 13 = f0 13 ∧ fr 14 = f0 14 ∧ fr 15 = f0 15 ∧ fr 16 = f0 16 ∧ fr 17 = f0 17 ∧ fr 73 = f0 73 ∧ fr 74 = .int .i64 j ∧ (h.bs = [.cells [R fl0 eI P], .cells [.bool false], .cells [.int .i64 0], .cells (tab 68 (qC q (gsQ q q.ready.length)))] ++ X) ∧ (j + m = q.ready.length + 1) ∧ (Mk ms X) ∧ dd = mkD 4 ms) (q.ready.length + 1) _ _ _ ⟨0, [], [], rfl, rfl, rfl, rfl, rfl, rfl, rfl, rfl, by first | rfl | (simp; done) | (simp [R]; done) | simp [R], by simp [Abs], by first | rfl | (simp; done) | omega, Mk.nil _, by first | rfl | simp⟩ ?_
  rintro Bm Bf Bh _ ⟨j, X, ms, B11, B12, B13, B14, B15, B16, B17, B73, B74, hb, hm2, hmk, rfl⟩ Bih
  try simp [A2, A11, A12, A13, A14, A15, A50, A51, A52, A16, A17, Abs] at B11 B12 B13 B14 B15 B16 B17 B73
  simp at hb
  by_cases hjn : j < q.ready.length + 1
  ·have hlo := loS_eq' hq j
   have hlo2 : loS q j ≤ j := by unfold loS; omega
   repeat' (first|((first|refine wA ?_ ?_|refine wB ?_ ?_)<;>intro hc<;>try simp at hc)|refine wF ?_|refine wY ?_|refine wL ?_|refine owe ?_ fun ho=>?_|(simp (disch := first|exact DD|fail) [B11, B12, B13, B14, B15, B16, B17, B73, B74, A2, A11, A12, A13, A14, A15, A50, A51, A52, A16, A17, Abs, hb, tab68_0, qC_0, qC_66, tab_get1, app_at, app_at0, hlo, Tryz.f51, Tryz.f78, -getElem?_pos, gZ, gS]))
   refine wp_loopE cfg rfl (fun f0 h0 m fr h => ∃ c : Nat, fr 0 = f0 0 ∧ fr 1 = f0 1 ∧ fr 2 = f0 2 ∧ fr 4 = .int .i64 ((loS q j : Int) + c) ∧ h.bs = h0.bs ∧ (loS q j + c + m = j)) (j - loS q j) _ _ ⟨0, rfl, rfl, rfl, by first | rfl | (simp; done) | (simp [R]; done) | simp [R], rfl, by first | rfl | (simp; done) | omega⟩ ?_
   rintro Cm Cf Ch ⟨c, C0, C1, C2, C4, Cbs, hm3⟩ Cih
   try simp [B11, B12, B13, B14, B15, B16, B17, B73, B74, A2, A11, A12, A13, A14, A15, A50, A51, A52, A16, A17, Abs] at C0 C1 C2 Cbs
   have hpu : cfg.pure 23 = false := rfl
   have hxj : ((j : Nat) : Int).toNat = j := by omega
   by_cases hc : loS q j + c < j
   ·have he := erS_ok hq (j := loS q j + c) (by omega)
    have hEe : ∀ h : Heap, h.bs[3]? = some (.cells (tab 68 (qC q (gsQ q q.ready.length)))) → Ci cfg (.func (.func 23) [] []) [.ptr 3 0, .int .i64 ((loS q j : Int) + c), .int .i64 j, .int .i64 (erS q (loS q j + c))] h = some (.ret (.int .i64 (enS q (loS q j + c) j (erS q (loS q j + c)))), h) := fun h hh =>
     Cend hq hc (by omega) he.1 (by unfold tmS; exact he.2.1) (by simp) h hh
    have hn1 := hnq j (by omega)
    have hn2 := hnq (loS q j + c) (by omega)
    have hxc : ((loS q j : Int) + c).toNat = loS q j + c := by omega
    have hc2 : (loS q j : Int) + c < j := by omega
    have hcP : loS q j + c < P.length := by omega
    have hjP : j < P.length := by omega
    have hgt : (enS q (loS q j + c) j (erS q (loS q j + c)) < erS q j) = False := eq_false (by have := erS_le q (i := loS q j + c) (j := j) (by omega) hc; omega)
    repeat' (first|((first|refine wA ?_ ?_|refine wB ?_ ?_)<;>intro hc<;>try simp at hc)|refine wF ?_|refine wY ?_|refine wL ?_|refine owe ?_ fun ho=>?_|(simp (disch := first|exact DD|fail) [C0, C1, C2, C4, Cbs, B11, B12, B13, B14, B15, B16, B17, B73, B74, A2, A11, A12, A13, A14, A15, A50, A51, A52, A16, A17, Abs, Cbs, eI, hc2, hxc, hcP, hjP, hn1, hn2, hEe, hgt, hpu, app_at, app_at0, -getElem?_pos, gZ, gS]))
    all_goals try (exfalso; omega)
    exact Cih (Cm - 1) _ _ (by omega) ⟨c + 1, by simp [C0, C1, C2, C4, Cbs, B11, B12, B13, B14, B15, B16, B17, B73, B74, A2, A11, A12, A13, A14, A15, A50, A51, A52, A16, A17, Abs, Cbs, Int.add_assoc], by simp [C0, C1, C2, C4, Cbs, B11, B12, B13, B14, B15, B16, B17, B73, B74, A2, A11, A12, A13, A14, A15, A50, A51, A52, A16, A17, Abs, Cbs, Int.add_assoc], by simp [C0, C1, C2, C4, Cbs, B11, B12, B13, B14, B15, B16, B17, B73, B74, A2, A11, A12, A13, A14, A15, A50, A51, A52, A16, A17, Abs, Cbs, Int.add_assoc], by simp [C0, C1, C2, C4, Cbs, B11, B12, B13, B14, B15, B16, B17, B73, B74, A2, A11, A12, A13, A14, A15, A50, A51, A52, A16, A17, Abs, Cbs, Int.add_assoc], by simp [C0, C1, C2, C4, Cbs, B11, B12, B13, B14, B15, B16, B17, B73, B74, A2, A11, A12, A13, A14, A15, A50, A51, A52, A16, A17, Abs, Cbs, Int.add_assoc], by omega⟩
   ·have hc2 : loS q j + c = j := by omega
    repeat' (first|((first|refine wA ?_ ?_|refine wB ?_ ?_)<;>intro hc<;>try simp at hc)|refine wF ?_|refine wY ?_|refine wL ?_|refine owe ?_ fun ho=>?_|(simp (disch := first|exact DD|fail) [C0, C1, C2, C4, Cbs, B11, B12, B13, B14, B15, B16, B17, B73, B74, A2, A11, A12, A13, A14, A15, A50, A51, A52, A16, A17, Abs, Cbs, app_at, app_at0, -getElem?_pos, gZ, gS]))
    all_goals try (exfalso; omega)
    refine Bih (Bm - 1) _ _ _ (by omega) ⟨j + 1, X ++ [?_, ?_, ?_, Blk.dfr true, ?_], (X.length + 3) :: ms, by simp [A2, A11, A12, A13, A14, A15, A50, A51, A52, A16, A17, Abs, B11, B12, B13, B14, B15, B16, B17, B73, B74], by simp [A2, A11, A12, A13, A14, A15, A50, A51, A52, A16, A17, Abs, B11, B12, B13, B14, B15, B16, B17, B73, B74], by simp [A2, A11, A12, A13, A14, A15, A50, A51, A52, A16, A17, Abs, B11, B12, B13, B14, B15, B16, B17, B73, B74], by simp [A2, A11, A12, A13, A14, A15, A50, A51, A52, A16, A17, Abs, B11, B12, B13, B14, B15, B16, B17, B73, B74], by simp [A2, A11, A12, A13, A14, A15, A50, A51, A52, A16, A17, Abs, B11, B12, B13, B14, B15, B16, B17, B73, B74], by simp [A2, A11, A12, A13, A14, A15, A50, A51, A52, A16, A17, Abs, B11, B12, B13, B14, B15, B16, B17, B73, B74], by simp [A2, A11, A12, A13, A14, A15, A50, A51, A52, A16, A17, Abs, B11, B12, B13, B14, B15, B16, B17, B73, B74], by simp [A2, A11, A12, A13, A14, A15, A50, A51, A52, A16, A17, Abs, B11, B12, B13, B14, B15, B16, B17, B73, B74], by simp, ?_, by omega, hmk.new rfl, rfl⟩
    rotate_left 4
    exact bk48
  ·have hnn := hnq q.ready.length (Nat.le_refl _)
   have hnP : q.ready.length < P.length := by omega
   repeat' (first | ((first | refine wA ?_ ?_ | refine wB ?_ ?_) <;> intro hc <;> try simp at hc) | (refine wp_drawT _ (by kernel_rfl) ?_) | refine wY ?_ | refine wL ?_ | refine owe ?_ fun ho => ?_ | (simp (disch := first|exact DD|fail) [B11, B12, B13, B14, B15, B16, B17, B73, B74, A2, A11, A12, A13, A14, A15, A50, A51, A52, A16, A17, Abs, hb, eI, hnn, hnP, app_at, app_at0, -getElem?_pos, gZ, gS]))
   all_goals try (exfalso; omega)
   obtain ⟨bs', l1, l2⟩ := hmk.leave (D := Di cfg) (m := .ret) (ts := Bh.ts) (L := [.cells [R fl0 eI P], .cells [.bool true], .cells [.int .i64 0], .cells (tab 68 (qC q (gsQ q q.ready.length)))]) (R := []) (k := 4) rfl
   have l3 := l2 1 _ rfl
   have l4 := l2 2 _ rfl
   simp only [List.cons_append, List.append_assoc, List.append_nil, List.nil_append] at l1
   simp (disch := first|exact DD|fail) [-getElem?_pos, gZ, gS, l1, l3, l4]
@[simp] theorem S18 (q : QnZ) (hq : qOk q) (q1 q2 q3 q4 : Fl) (hh : Heap) : Ci cfg (.func (.func 18) [] []) [R  q1 eI q.ready, R  q2 eI q.need, .int .i64 q.most, .int .i64 q.flip, R  q3 eI (intsN (groupS q)), R  q4 eI (prfS q)] hh = some (.ret (.tuple [.bool true, .int .i64 0]), hh) :=
 Ci_K cfg rfl rfl (by simp) (by simp) (C18 q hq)
end Go.Ab
