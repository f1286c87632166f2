/- A part of the proof. -/
import Derived.Test.YtlmhbemgaikmaaaGreatDoorU
import Derived.Test.YtlmhbemgaikmaaaGreatDoorAbsD
import Derived.Test.YtlmhbemgaikmaaaGreatDoorGr5
import Derived.Test.YtlmhbemgaikmaaaGreatDoorGr23
set_option linter.unusedVariables false
set_option linter.unusedSimpArgs false
set_option linter.unusedSectionVars false
set_option linter.deprecated false
namespace Go.Ab
set_option maxRecDepth 100000
structure RestZ where
 cost : Int
 ends : List Int
 deriving Inhabited
def eT (r : RestZ) : List V := [.int .i64 r.cost, R fl0 eI r.ends]
instance : EncC eT 2 := ⟨fun _ => rfl, by decide, fun _ => rfl, fun _ => by simp [eT, V.closed.closedL, V.closed], fun _ => by simp [eT, V.norm.normL, V.norm]⟩
instance : EncP eT := ⟨fun _ _ => by simp [eT, reach1.reach1L, reach1], fun _ _ _ => by simp [eT, pure1.pure1L, pure1]⟩
def wOk (w : List Int) (s r : Int) : Prop := w.length ≤ 64 ∧ 0 ≤ s ∧ s ≤ 1048576 ∧ 1 ≤ r ∧ r ≤ 1048576 ∧ ∀ i, i < w.length → 1 ≤ nth w i ∧ nth w i ≤ r
def lfB (w : List Int) (s r : Int) (i k : Nat) : Int := r + s - sumTo k (fun j => s + nth w (i + j))
theorem lfB_zero (w : List Int) (s r : Int) (i : Nat) : lfB w s r i 0 = r + s := by unfold lfB; rw [sumTo_zero]; omega
theorem lfB_succ (w : List Int) (s r : Int) (i k : Nat) : lfB w s r i (k + 1) = lfB w s r i k - (s + nth w (i + k)) := by unfold lfB; rw [sumTo_succ]; omega
def csB (w : List Int) (s r : Int) (i k : Nat) : Int := if i + k = w.length then 0 else lfB w s r i k * lfB w s r i k
def mxF (P : Nat → Bool) : Nat → Nat → Nat
 | 0, k => k
 | m + 1, k => if P (k + 1) then mxF P m (k + 1) else k
theorem mxF_in (P : Nat → Bool) : ∀ m k, k ≤ mxF P m k ∧ mxF P m k ≤ k + m
 | 0, k => ⟨Nat.le_refl _, Nat.le_refl _⟩
 | m + 1, k => by
  unfold mxF
  have := mxF_in P m (k + 1)
  split <;> omega
theorem mxF_all (P : Nat → Bool) : ∀ m k j, k < j → j ≤ mxF P m k → P j = true
 | 0, k, j, h1, h2 => by simp only [mxF] at h2; omega
 | m + 1, k, j, h1, h2 => by
  unfold mxF at h2
  split at h2
  ·rename_i h
   by_cases e : j = k + 1
   ·subst e; exact h
   ·exact mxF_all P m (k + 1) j (by omega) h2
  ·omega
def fitB (w : List Int) (s r : Int) (i k : Nat) : Bool := decide (0 ≤ lfB w s r i k)
def mxB (w : List Int) (s r : Int) (i : Nat) : Nat := mxF (fitB w s r i) (w.length - i) 0
theorem mxB_le (w : List Int) (s r : Int) (i : Nat) : mxB w s r i ≤ w.length - i := by have := (mxF_in (fitB w s r i) (w.length - i) 0).2; unfold mxB; omega
theorem mxB_fit {w : List Int} {s r : Int} {i k : Nat} (h1 : 1 ≤ k) (h2 : k ≤ mxB w s r i) : 0 ≤ lfB w s r i k := of_decide_eq_true (mxF_all _ _ _ _ (show 0 < k by omega) h2)
theorem mxB_one {w : List Int} {s r : Int} (h : wOk w s r) {i : Nat} (hi : i < w.length) : 1 ≤ mxB w s r i := by
 unfold mxB
 obtain ⟨m, hm⟩ : ∃ m, w.length - i = m + 1 := ⟨w.length - i - 1, by omega⟩
 rw [hm]
 unfold mxF
 rw [if_pos]
 ·exact (mxF_in _ _ _).1
 ·have := h.2.2.2.2.2 i hi
  unfold fitB
  rw [lfB_succ, lfB_zero]
  simp only [Nat.add_zero]
  exact decide_eq_true (by omega)
theorem mxB_go {w : List Int} {s r : Int} {i k : Nat} (hk : mxF (fitB w s r i) (w.length - i - k) k = mxB w s r i) (hl : i + k < w.length) (h : 0 ≤ lfB w s r i (k + 1)) : mxF (fitB w s r i) (w.length - i - (k + 1)) (k + 1) = mxB w s r i := by
 rw [← hk]
 obtain ⟨m, hm⟩ : ∃ m, w.length - i - k = m + 1 := ⟨w.length - i - k - 1, by omega⟩
 rw [hm, show w.length - i - (k + 1) = m by omega]
 exact (if_pos (show fitB w s r i (k + 1) = true from decide_eq_true h)).symm
theorem mxB_off {w : List Int} {s r : Int} {i k : Nat} (hk : mxF (fitB w s r i) (w.length - i - k) k = mxB w s r i) (h : ¬ 0 ≤ lfB w s r i (k + 1)) : mxB w s r i = k := by
 rw [← hk]
 cases w.length - i - k with
 | zero => rfl
 | succ m =>
  show (if fitB w s r i (k + 1) then _ else _) = _
  rw [if_neg]
  unfold fitB
  simpa using h
theorem mxB_end {w : List Int} {s r : Int} {i k : Nat} (hk : mxF (fitB w s r i) (w.length - i - k) k = mxB w s r i) (h : w.length ≤ i + k) : mxB w s r i = k := by
 rw [← hk, show w.length - i - k = 0 by omega]; rfl
theorem lfB_in {w : List Int} {s r : Int} (h : wOk w s r) {i : Nat} : ∀ {k : Nat}, i + k ≤ w.length → lfB w s r i k ≤ 2097152 ∧ (0 < k → lfB w s r i k ≤ 1048576)
 | 0, _ => by have := h.2; rw [lfB_zero]; exact ⟨by omega, by omega⟩
 | k + 1, hl => by
  have ih := lfB_in h (i := i) (k := k) (by omega)
  have h1 := h.2.2.2.2.2 (i + k) (by omega)
  have h2 := h.2
  rw [lfB_succ]
  refine ⟨by omega, fun _ => ?_⟩
  cases k with
  | zero => rw [lfB_zero]; simp only [Nat.add_zero] at h1 ⊢; omega
  | succ k => have := ih.2 (by omega); omega
theorem lfB_low {w : List Int} {s r : Int} (h : wOk w s r) {i k : Nat} (hl : i + k < w.length) (h0 : 0 ≤ lfB w s r i k) : -2097152 ≤ lfB w s r i (k + 1) := by
 have h1 := h.2.2.2.2.2 (i + k) hl
 have h2 := h.2
 rw [lfB_succ]; omega
theorem sq_in {x : Int} (h0 : 0 ≤ x) (h1 : x ≤ 1048576) : 0 ≤ x * x ∧ x * x ≤ 1099511627776 := by
 have e1 : 0 ≤ x * x := Int.mul_nonneg h0 h0
 have e2 : x * x ≤ 1048576 * 1048576 := Int.mul_le_mul h1 h1 h0 (by omega)
 exact ⟨e1, by omega⟩
theorem csB_in {w : List Int} {s r : Int} (h : wOk w s r) {i k : Nat} (h1 : 1 ≤ k) (h2 : k ≤ mxB w s r i) (hi : i < w.length) : 0 ≤ csB w s r i k ∧ csB w s r i k ≤ 1099511627776 := by
 have h3 := mxB_le w s r i
 unfold csB
 split
 ·omega
 ·exact sq_in (mxB_fit h1 h2) ((lfB_in h (i := i) (k := k) (by omega)).2 (by omega))
def bstB (c : Nat → Int) (H : Nat → Int) (i : Nat) : Nat → Int × Int
 | 0 => (-1, 0)
 | k + 1 => if (bstB c H i k).1 < 0 ∨ c (k + 1) + H (i + (k + 1)) < (bstB c H i k).2 then (((i + (k + 1) : Nat) : Int), c (k + 1) + H (i + (k + 1))) else bstB c H i k
theorem bstB_ok (c : Nat → Int) (H : Nat → Int) (i : Nat) : ∀ k, 1 ≤ k → ∃ j, 1 ≤ j ∧ j ≤ k ∧ (bstB c H i k).1 = ((i + j : Nat) : Int) ∧ (bstB c H i k).2 = c j + H (i + j) ∧ ∀ j', 1 ≤ j' → j' ≤ k → (bstB c H i k).2 ≤ c j' + H (i + j')
 | 0, h => by omega
 | 1, _ => ⟨1, by omega, by omega, by simp [bstB], by simp [bstB], fun j' a b => by rw [show j' = 1 by omega]; simp [bstB]⟩
 | k + 2, _ => by
  obtain ⟨j, h1, h2, h3, h4, h5⟩ := bstB_ok c H i (k + 1) (by omega)
  rw [bstB]
  split
  ·rename_i hc
   refine ⟨k + 2, by omega, by omega, rfl, rfl, fun j' a b => ?_⟩
   show c (k + 1 + 1) + H (i + (k + 1 + 1)) ≤ _
   by_cases e : j' = k + 2
   ·subst e; exact Int.le_refl _
   ·have := h5 j' a (by omega)
    omega
  ·rename_i hc
   refine ⟨j, h1, by omega, h3, h4, fun j' a b => ?_⟩
   by_cases e : j' = k + 2
   ·subst e; show _ ≤ c (k + 1 + 1) + H (i + (k + 1 + 1)); omega
   ·exact h5 j' a (by omega)
def updE (f : Nat → List Int) (v : Nat) (x : List Int) : Nat → List Int := fun j => if j = v then x else f j
@[simp] theorem updE_same (f : Nat → List Int) (v : Nat) (x : List Int) : updE f v x v = x := by simp [updE]
theorem updE_ne {f : Nat → List Int} {v j : Nat} {x : List Int} (h : ¬ j = v) : updE f v x j = f j := by simp [updE, h]
def solB (w : List Int) (s r : Int) : Nat → (Nat → Int) × (Nat → List Int)
 | 0 => (fun _ => 0, fun _ => [])
 | m + 1 => (updI (solB w s r m).1 (w.length - 1 - m) (bstB (csB w s r (w.length - 1 - m)) (solB w s r m).1 (w.length - 1 - m) (mxB w s r (w.length - 1 - m))).2,
   updE (solB w s r m).2 (w.length - 1 - m) ((solB w s r m).2 (bstB (csB w s r (w.length - 1 - m)) (solB w s r m).1 (w.length - 1 - m) (mxB w s r (w.length - 1 - m))).1.toNat ++ [(bstB (csB w s r (w.length - 1 - m)) (solB w s r m).1 (w.length - 1 - m) (mxB w s r (w.length - 1 - m))).1]))
theorem solB_low (w : List Int) (s r : Int) : ∀ m i, i < w.length - m → (solB w s r m).1 i = 0 ∧ (solB w s r m).2 i = []
 | 0, _, _ => ⟨rfl, rfl⟩
 | m + 1, i, h => by
  have := solB_low w s r m i (by omega)
  rw [solB]
  simp only
  rw [updI_ne (by omega), updE_ne (by omega)]
  exact this
theorem solB_top (w : List Int) (s r : Int) : ∀ m i, m ≤ w.length → w.length ≤ i → (solB w s r m).1 i = 0 ∧ (solB w s r m).2 i = []
 | 0, _, _, _ => ⟨rfl, rfl⟩
 | m + 1, i, hm, h => by
  have := solB_top w s r m i (by omega) h
  rw [solB]
  simp only
  rw [updI_ne (by omega), updE_ne (by omega)]
  exact this
structure SolB (w : List Int) (s r : Int) (H : Nat → Int) (E : Nat → List Int) (a : Nat) : Prop where
 hn : H w.length = 0
 en : E w.length = []
 step : ∀ i, a ≤ i → i < w.length → ∃ k, 1 ≤ k ∧ k ≤ mxB w s r i ∧ E i = E (i + k) ++ [((i + k : Nat) : Int)] ∧ H i = csB w s r i k + H (i + k)
 least : ∀ i k, a ≤ i → i < w.length → 1 ≤ k → k ≤ mxB w s r i → H i ≤ csB w s r i k + H (i + k)
 bound : ∀ i, a ≤ i → i ≤ w.length → 0 ≤ H i ∧ H i ≤ 1099511627776 * ((w.length - i : Nat) : Int)
theorem solB_ok {w : List Int} {s r : Int} (h : wOk w s r) : ∀ m, m ≤ w.length → SolB w s r (solB w s r m).1 (solB w s r m).2 (w.length - m)
 | 0, _ => ⟨rfl, rfl, fun i a b => by omega, fun i k a b => by omega, fun i a b => by rw [show i = w.length by omega]; simp [solB]⟩
 | m + 1, hm => by
  have ih := solB_ok h m (by omega)
  have ht := solB_top w s r (m + 1) w.length hm (Nat.le_refl _)
  obtain ⟨v, hv⟩ : ∃ v, v = w.length - 1 - m := ⟨_, rfl⟩
  have hv2 : w.length - m = v + 1 := by omega
  have hv3 : w.length - (m + 1) = v := by omega
  rw [hv2] at ih
  rw [hv3]
  obtain ⟨j, h1, h2, h3, h4, h5⟩ := bstB_ok (csB w s r v) (solB w s r m).1 v (mxB w s r v) (mxB_one h (by omega))
  have hmx := mxB_le w s r v
  have hH : ∀ i, (solB w s r (m + 1)).1 i = if i = v then csB w s r v j + (solB w s r m).1 (v + j) else (solB w s r m).1 i := fun i => by
   rw [solB]; simp only; rw [← hv, h4]; rfl
  have hE : ∀ i, (solB w s r (m + 1)).2 i = if i = v then (solB w s r m).2 (v + j) ++ [((v + j : Nat) : Int)] else (solB w s r m).2 i := fun i => by
   rw [solB]; simp only; rw [← hv, h3, Int.toNat_natCast]; rfl
  refine ⟨ht.1, ht.2, fun i a b => ?_, fun i k a b c d => ?_, fun i a b => ?_⟩
  ·by_cases e : i = v
   ·subst e
    refine ⟨j, h1, h2, ?_, ?_⟩
    ·rw [hE, if_pos rfl, hE, if_neg (by omega)]
    ·rw [hH, if_pos rfl, hH, if_neg (by omega)]
   ·obtain ⟨k, k1, k2, k3, k4⟩ := ih.step i (by omega) b
    refine ⟨k, k1, k2, ?_, ?_⟩
    ·rw [hE, if_neg e, hE, if_neg (by omega)]; exact k3
    ·rw [hH, if_neg e, hH, if_neg (by omega)]; exact k4
  ·by_cases e : i = v
   ·subst e
    rw [hH, if_pos rfl, hH, if_neg (by omega), ← h4]
    exact h5 k c d
   ·rw [hH, if_neg e, hH, if_neg (by omega)]
    exact ih.least i k (by omega) b c d
  ·by_cases e : i = v
   ·subst e
    rw [hH, if_pos rfl]
    have c1 := csB_in h h1 h2 (by omega)
    have c2 := ih.bound (i + j) (by omega) (by omega)
    omega
   ·rw [hH, if_neg e]
    exact ih.bound i (by omega) b
theorem solB_len {w : List Int} {s r : Int} (h : wOk w s r) (m : Nat) (hm : m ≤ w.length) (i : Nat) : ((solB w s r m).2 i).length ≤ 64 := by
 have key : ∀ d i, w.length - m ≤ i → i + d = w.length → ((solB w s r m).2 i).length ≤ d := by
  intro d
  induction d using Nat.strongRecOn with
  | _ d ih =>
   intro i hi hd
   cases d with
   | zero => rw [(solB_top w s r m i hm (by omega)).2]; exact Nat.le_refl _
   | succ d =>
    obtain ⟨k, k1, k2, k3, _⟩ := (solB_ok h m hm).step i hi (by omega)
    have k4 := mxB_le w s r i
    have := ih (d + 1 - k) (by omega) (i + k) (by omega) (by omega)
    rw [k3, List.length_append, List.length_singleton]; omega
 have h1 := h.1
 rcases Nat.lt_or_ge i (w.length - m) with h2 | h2
 ·rw [(solB_low w s r m i h2).2]; exact Nat.zero_le _
 ·rcases Nat.lt_or_ge i w.length with h3 | h3
  ·have := key (w.length - i) i h2 (by omega); omega
  ·rw [(solB_top w s r m i hm h3).2]; exact Nat.zero_le _
def costB (w : List Int) (s r : Int) (i : Nat) : Int := (solB w s r w.length).1 i
def endsB (w : List Int) (s r : Int) (i : Nat) : List Int := (solB w s r w.length).2 i
theorem solB_all {w : List Int} {s r : Int} (h : wOk w s r) : SolB w s r (costB w s r) (endsB w s r) 0 := by
 have := solB_ok h w.length (Nat.le_refl _)
 rwa [Nat.sub_self] at this
def solL (w : List Int) (s r : Int) : List RestZ := (List.range (w.length + 1)).map fun i => ⟨costB w s r i, endsB w s r i⟩
@[simp] theorem solL_len (w : List Int) (s r : Int) : (solL w s r).length = w.length + 1 := by simp [solL]
theorem nth_solL {w : List Int} {s r : Int} {i : Nat} (h : i ≤ w.length) : nth (solL w s r) i = ⟨costB w s r i, endsB w s r i⟩ := by
 rw [nth_eq (by simp; omega)]; simp [solL]
def pathB (w : List Int) (s r : Int) : List Int := (endsB w s r 0).reverse
def prfB (w : List Int) (s r : Int) : List Int := rowF (w.length + 1) (costB w s r)
def tcB (H : Nat → Int) (E : Nat → V) : Nat → V := fun j => if j % 2 = 0 then .int .i64 (H (j / 2)) else E (j / 2)
theorem tcB_0 (H : Nat → Int) (E : Nat → V) (i : Nat) : tcB H E (i * 2) = .int .i64 (H i) := by unfold tcB; rw [if_pos (by omega), show i * 2 / 2 = i by omega]
theorem tcB_1 (H : Nat → Int) (E : Nat → V) (i : Nat) : tcB H E (i * 2 + 1) = E i := by unfold tcB; rw [if_neg (by omega), show (i * 2 + 1) / 2 = i by omega]
theorem tcB_u0 (H : Nat → Int) (E : Nat → V) (i : Nat) (x : Int) : upd (tcB H E) (i * 2) (.int .i64 x) = tcB (updI H i x) E := by
 funext j
 unfold upd tcB updI
 by_cases e : j = i * 2
 ·subst e; rw [if_pos rfl, if_pos (by omega), if_pos (by omega)]
 ·rw [if_neg e]
  split
  ·rw [if_neg (by omega)]
  ·rfl
def updV (E : Nat → V) (i : Nat) (v : V) : Nat → V := fun j => if j = i then v else E j
theorem tcB_u1 (H : Nat → Int) (E : Nat → V) (i : Nat) (v : V) : upd (tcB H E) (i * 2 + 1) v = tcB H (updV E i v) := by
 funext j
 unfold upd tcB updV
 by_cases e : j = i * 2 + 1
 ·subst e; rw [if_pos rfl, if_neg (by omega), if_pos (by omega)]
 ·rw [if_neg e]
  split
  ·rfl
  ·rw [if_neg (by omega)]
end Go.Ab
namespace Go.Ab
open Go.Proofs
set_option maxRecDepth 100000
set_option maxHeartbeats 4000000
theorem C34 (l : List Int) (hs : l.length < 1099511627776) (hl : 0 < l.length) : Kc cfg 34 [R fl0 eI l] (.ret (.int .i64 (l.foldl min (nth l 0)))) := by
 refine outS_of_wp cfg (fn := Tryz.f34) Tryz.func34 rfl (by simp [Tryz.f34]) ?_
 simp (disch := first|exact DD|fail) [-getElem?_pos, gZ, gS, Tryz.f34]
 repeat' (first|((first|refine wA ?_ ?_|refine wB ?_ ?_)<;>intro hc<;>try simp at hc)|refine wF ?_|refine wY ?_|refine wL ?_|refine owe ?_ fun ho=>?_|(simp (disch := first|exact DD|fail) [eI, -getElem?_pos, gZ, gS]))
 all_goals first
  | (exfalso; omega)
  | skip
 refine wp_loopE cfg rfl (fun f0 h0 m fr h => ∃ i : Nat, fr 0 = f0 0 ∧ fr 3 = .int .i64 ((l.take i).foldl min (nth l 0)) ∧ fr 4 = .int .i64 i ∧ (i + m = l.length + 0)) (l.length - 1) _ _ ⟨1, rfl, by cases l with | nil => simp at hl | cons x r => simp, by first | rfl | (simp; done) | (simp [R]; done) | simp [R], by omega⟩ ?_
 rintro Am Af Ah ⟨i, A0, A3, A4, hm⟩ Aih
 try simp at A0
 by_cases hi : i < l.length
 ·have h1 : (l.take (i + 1)).foldl min (nth l 0) = min ((l.take i).foldl min (nth l 0)) (nth l i) := by rw [nth_take hi, List.foldl_append]; rfl
  repeat' (first|((first|refine wA ?_ ?_|refine wB ?_ ?_)<;>intro hc<;>try simp at hc)|refine wF ?_|refine wY ?_|refine wL ?_|refine owe ?_ fun ho=>?_|(simp (disch := first|exact DD|fail) [A0, A3, A4, eI, -getElem?_pos, gZ, gS]))
  exact Aih (Am - 1) _ _ (by omega) ⟨i + 1, by simp [A0, A3, A4, h1], by simp [A0, A3, A4, h1], by simp [A0, A3, A4, h1], by omega⟩
 ·have h1 : l.take i = l := List.take_of_length_le (by omega)
  rw [h1] at A3
  repeat' (first|((first|refine wA ?_ ?_|refine wB ?_ ?_)<;>intro hc<;>try simp at hc)|refine wF ?_|refine wY ?_|refine wL ?_|refine owe ?_ fun ho=>?_|(simp (disch := first|exact DD|fail) [A0, A3, A4, -getElem?_pos, gZ, gS]))
@[simp] theorem S34 (l : List Int) (hs : l.length < 1099511627776) (hl : 0 < l.length) (q1 : Fl) (hh : Heap) : Ci cfg (.func (.func 34) [] []) [R  q1 eI l] hh = some (.ret (.int .i64 (l.foldl min (nth l 0))), hh) :=
 Ci_K cfg rfl rfl (by simp) (by simp) (C34 l hs hl)
theorem C35 (l : List Int) (hs : l.length < 1099511627776) (hl : 0 < l.length) : Kc cfg 35 [R fl0 eI l] (.ret (.int .i64 (l.foldl max (nth l 0)))) := by
 refine outS_of_wp cfg (fn := Tryz.f35) Tryz.func35 rfl (by simp [Tryz.f35]) ?_
 simp (disch := first|exact DD|fail) [-getElem?_pos, gZ, gS, Tryz.f35]
 repeat' (first|((first|refine wA ?_ ?_|refine wB ?_ ?_)<;>intro hc<;>try simp at hc)|refine wF ?_|refine wY ?_|refine wL ?_|refine owe ?_ fun ho=>?_|(simp (disch := first|exact DD|fail) [eI, -getElem?_pos, gZ, gS]))
 all_goals first
  | (exfalso; omega)
  | skip
 refine wp_loopE cfg rfl (fun f0 h0 m fr h => ∃ i : Nat, fr 0 = f0 0 ∧ fr 3 = .int .i64 ((l.take i).foldl max (nth l 0)) ∧ fr 4 = .int .i64 i ∧ (i + m = l.length + 0)) (l.length - 1) _ _ ⟨1, rfl, by cases l with | nil => simp at hl | cons x r => simp, by first | rfl | (simp; done) | (simp [R]; done) | simp [R], by omega⟩ ?_
 rintro Am Af Ah ⟨i, A0, A3, A4, hm⟩ Aih
 try simp at A0
 by_cases hi : i < l.length
 ·have h1 : (l.take (i + 1)).foldl max (nth l 0) = max ((l.take i).foldl max (nth l 0)) (nth l i) := by rw [nth_take hi, List.foldl_append]; rfl
  repeat' (first|((first|refine wA ?_ ?_|refine wB ?_ ?_)<;>intro hc<;>try simp at hc)|refine wF ?_|refine wY ?_|refine wL ?_|refine owe ?_ fun ho=>?_|(simp (disch := first|exact DD|fail) [A0, A3, A4, eI, -getElem?_pos, gZ, gS]))
  exact Aih (Am - 1) _ _ (by omega) ⟨i + 1, by simp [A0, A3, A4, h1], by simp [A0, A3, A4, h1], by simp [A0, A3, A4, h1], by omega⟩
 ·have h1 : l.take i = l := List.take_of_length_le (by omega)
  rw [h1] at A3
  repeat' (first|((first|refine wA ?_ ?_|refine wB ?_ ?_)<;>intro hc<;>try simp at hc)|refine wF ?_|refine wY ?_|refine wL ?_|refine owe ?_ fun ho=>?_|(simp (disch := first|exact DD|fail) [A0, A3, A4, -getElem?_pos, gZ, gS]))
@[simp] theorem S35 (l : List Int) (hs : l.length < 1099511627776) (hl : 0 < l.length) (q1 : Fl) (hh : Heap) : Ci cfg (.func (.func 35) [] []) [R  q1 eI l] hh = some (.ret (.int .i64 (l.foldl max (nth l 0))), hh) :=
 Ci_K cfg rfl rfl (by simp) (by simp) (C35 l hs hl)
theorem foldl_max_le {r : Int} : ∀ {l : List Int} {a : Int}, a ≤ r → (∀ x ∈ l, x ≤ r) → l.foldl max a ≤ r
 | [], _, h, _ => h
 | x :: l, a, h, k => foldl_max_le (l := l) (by have := k x (by simp); omega) (fun y hy => k y (List.mem_cons_of_mem _ hy))
theorem le_foldl_min {r : Int} : ∀ {l : List Int} {a : Int}, r ≤ a → (∀ x ∈ l, r ≤ x) → r ≤ l.foldl min a
 | [], _, h, _ => h
 | x :: l, a, h, k => le_foldl_min (l := l) (by have := k x (by simp); omega) (fun y hy => k y (List.mem_cons_of_mem _ hy))
theorem max_nth {l : List Int} {r : Int} (hl : 0 < l.length) (h : ∀ i, i < l.length → nth l i ≤ r) : l.foldl max (nth l 0) ≤ r := by
 refine foldl_max_le (h 0 hl) (fun x hx => ?_)
 obtain ⟨j, hj, rfl⟩ := List.getElem_of_mem hx
 rw [← nth_eq hj]; exact h j hj
theorem min_nth {l : List Int} {r : Int} (hl : 0 < l.length) (h : ∀ i, i < l.length → r ≤ nth l i) : r ≤ l.foldl min (nth l 0) := by
 refine le_foldl_min (h 0 hl) (fun x hx => ?_)
 obtain ⟨j, hj, rfl⟩ := List.getElem_of_mem hx
 rw [← nth_eq hj]; exact h j hj
theorem C30 (w : List Int) (s r : Int) (hw : wOk w s r) : Kc cfg 30 [R fl0 eI w, .int .i64 s, .int .i64 r] (.ret (.tuple [.agg [R fl0 eI w, .int .i64 s, .int .i64 r], .int .i64 0])) := by
 obtain ⟨h1, h2, h3, h4, h5, h6⟩ := hw
 refine outS_of_wp cfg (fn := Tryz.f30) Tryz.func30 rfl (by simp [Tryz.f30]) ?_
 simp (disch := first|exact DD|fail) [-getElem?_pos, gZ, gS, Tryz.f30, emptyH]
 repeat' (first|((first|refine wA ?_ ?_|refine wB ?_ ?_)<;>intro hc<;>try simp at hc)|refine wF ?_|refine wY ?_|refine wL ?_|refine owe ?_ fun ho=>?_|(simp (disch := first|exact DD|fail) [emptyH, Tryz.f59, Tryz.f87, Tryz.f60, -getElem?_pos, gZ, gS]))
 refine wp_loopE cfg rfl (fun f0 h0 m fr h => ∃ i : Nat, fr 0 = f0 0 ∧ fr 1 = f0 1 ∧ fr 6 = f0 6 ∧ fr 7 = f0 7 ∧ fr 8 = .int .i64 i ∧ h.bs = h0.bs ∧ (i + m = w.length)) (w.length) _ _ ⟨0, rfl, rfl, rfl, rfl, by first | rfl | (simp; done) | (simp [R]; done) | simp [R], rfl, by first | rfl | (simp; done) | omega⟩ ?_
 rintro Am Af Ah ⟨i, A0, A1, A6, A7, A8, Abs, hm⟩ Aih
 try simp at A0 A1 A6 A7 Abs
 by_cases hi : i < w.length
 ·have h7 := h6 i hi
  repeat' (first|((first|refine wA ?_ ?_|refine wB ?_ ?_)<;>intro hc<;>try simp at hc)|refine wF ?_|refine wY ?_|refine wL ?_|refine owe ?_ fun ho=>?_|(simp (disch := first|exact DD|fail) [A0, A1, A6, A7, A8, Abs, eI, h7.1, Abs, Tryz.f60, -getElem?_pos, gZ, gS]))
  all_goals try (exfalso; omega)
  exact Aih (Am - 1) _ _ (by omega) ⟨i + 1, by simp [A0, A1, A6, A7, A8, Abs], by simp [A0, A1, A6, A7, A8, Abs], by simp [A0, A1, A6, A7, A8, Abs], by simp [A0, A1, A6, A7, A8, Abs], by simp [A0, A1, A6, A7, A8, Abs], by simp [A0, A1, A6, A7, A8, Abs], by omega⟩
 ·repeat' (first|((first|refine wA ?_ ?_|refine wB ?_ ?_)<;>intro hc<;>try simp at hc)|refine wF ?_|refine wY ?_|refine wL ?_|refine owe ?_ fun ho=>?_|(simp (disch := first|exact DD|fail) [A0, A1, A6, A7, A8, Abs, Abs, -getElem?_pos, gZ, gS]))
  all_goals try (exfalso; omega)
@[simp] theorem S30 (w : List Int) (s r : Int) (hw : wOk w s r) (q1 : Fl) (hh : Heap) : Ci cfg (.func (.func 30) [] []) [R  q1 eI w, .int .i64 s, .int .i64 r] hh = some (.ret (.tuple [.agg [R fl0 eI w, .int .i64 s, .int .i64 r], .int .i64 0]), hh) :=
 Ci_K cfg rfl rfl (by simp) (by simp) (C30 w s r hw)
theorem C31 (w : List Int) (s r : Int) (hw : wOk w s r) : Kc cfg 31 [.agg [R fl0 eI w, .int .i64 s, .int .i64 r]] (.ret (.bool true)) := by
 obtain ⟨h1, h2, h3, h4, h5, h6⟩ := hw
 by_cases h0 : w.length = 0
 ·obtain rfl := List.eq_nil_of_length_eq_zero h0
  refine outS_of_wp cfg (fn := Tryz.f31) Tryz.func31 rfl (by simp [Tryz.f31]) ?_
  simp (disch := first|exact DD|fail) [-getElem?_pos, gZ, gS, Tryz.f31, emptyH]
  repeat' (first|((first|refine wA ?_ ?_|refine wB ?_ ?_)<;>intro hc<;>try simp at hc)|refine wF ?_|refine wY ?_|refine wL ?_|refine owe ?_ fun ho=>?_|(simp (disch := first|exact DD|fail) [emptyH, -getElem?_pos, gZ, gS]))
 ·have h7 := max_nth (l := w) (r := r) (by omega) (fun i hi => (h6 i hi).2)
  have hs : w.length < 1099511627776 := by omega
  refine outS_of_wp cfg (fn := Tryz.f31) Tryz.func31 rfl (by simp [Tryz.f31]) ?_
  simp (disch := first|exact DD|fail) [-getElem?_pos, gZ, gS, Tryz.f31, emptyH]
  repeat' (first|((first|refine wA ?_ ?_|refine wB ?_ ?_)<;>intro hc<;>try simp at hc)|refine wF ?_|refine wY ?_|refine wL ?_|refine owe ?_ fun ho=>?_|(simp (disch := first|exact DD|fail) [emptyH, h0, -getElem?_pos, gZ, gS]))
  all_goals first
   | exact h7
   | (exfalso; subst_vars; exact h0 rfl)
@[simp] theorem S31 (w : List Int) (s r : Int) (hw : wOk w s r) (q1 : Fl) (hh : Heap) : Ci cfg (.func (.func 31) [] []) [.agg [R  q1 eI w, .int .i64 s, .int .i64 r]] hh = some (.ret (.bool true), hh) :=
 Ci_K cfg rfl rfl (by simp) (by simp) (C31 w s r hw)
end Go.Ab
namespace Go.Ab
open Go.Proofs
set_option maxRecDepth 100000
set_option maxHeartbeats 4000000
theorem rep2_tab (a : V) (b : V) : ∀ n : Nat, (List.replicate n [a, b]).flatten = tab (n * 2) (fun j => if j % 2 = 0 then a else b)
 | 0 => rfl
 | n + 1 => by
  rw [List.replicate_succ', List.flatten_append, rep2_tab a b n]
  unfold tab
  rw [show (n + 1) * 2 = n * 2 + 1 + 1 by omega, List.range_succ, List.range_succ]
  simp only [List.map_append, List.map_cons, List.map_nil, List.flatten_cons, List.flatten_nil, List.append_nil, List.append_assoc]
  rw [if_pos (by omega), if_neg (by omega)]; rfl
theorem rep2_tcB (n : Nat) : (List.replicate n [V.int .i64 0, V.row true true [] 0 none]).flatten = tab (n * 2) (tcB (fun _ => 0) (fun _ => R (true, true, none) eI [])) := rep2_tab _ _ n
theorem bstB_e {w : List Int} {s r : Int} {H : Nat → Int} {v j : Nat} {p : Int × Int} (hp : bstB (csB w s r v) H v j = p) (he : v + (j + 1) = w.length) :
  (p.1 < 0 ∨ H (v + (j + 1)) < p.2 → bstB (csB w s r v) H v (j + 1) = ((v : Int) + j + 1, H (v + (j + 1)))) ∧ (0 ≤ p.1 ∧ p.2 ≤ H (v + (j + 1)) → bstB (csB w s r v) H v (j + 1) = p) := by
 have hc : csB w s r v (j + 1) + H (v + (j + 1)) = H (v + (j + 1)) := by rw [show csB w s r v (j + 1) = 0 from if_pos he]; omega
 rw [bstB, hp, hc]
 exact ⟨fun h => by rw [if_pos h]; congr 1, fun h => by rw [if_neg (by omega)]⟩
theorem bstB_m {w : List Int} {s r : Int} {H : Nat → Int} {v j : Nat} {p : Int × Int} (hp : bstB (csB w s r v) H v j = p) (he : ¬ v + (j + 1) = w.length) :
  (p.1 < 0 ∨ lfB w s r v (j + 1) * lfB w s r v (j + 1) + H (v + (j + 1)) < p.2 → bstB (csB w s r v) H v (j + 1) = ((v : Int) + j + 1, lfB w s r v (j + 1) * lfB w s r v (j + 1) + H (v + (j + 1)))) ∧
  (0 ≤ p.1 ∧ p.2 ≤ lfB w s r v (j + 1) * lfB w s r v (j + 1) + H (v + (j + 1)) → bstB (csB w s r v) H v (j + 1) = p) := by
 rw [bstB, hp, show csB w s r v (j + 1) = _ from if_neg he]
 exact ⟨fun h => by rw [if_pos h]; congr 1, fun h => by rw [if_neg (by omega)]⟩
theorem slice3_full {P : Program} {α : Type} {E : α → List V} {sz : Nat} [hE : EncC E sz] {t : TypeId} {h : Heap} {fl : Fl} {l : List α} {k k' : IntKind} (he : esz P t = some sz) (hf : l ≠ [] ∨ fl = (true, true, none)) :
  sliceV P t h (R fl E l) none (some (.int k (l.length : Nat))) (some (.int k' (l.length : Nat))) = some (R (fl.1, true, none) E l) := by
 rw [slice3_R (a := 0) (b := l.length) (m := l.length) he rfl rfl (by simp [bound, intOf?]) (by simp [bound, intOf?]) rfl, List.take_length, List.drop_zero]
 congr 3
 rcases hf with h | h
 ·have : rows E l ≠ [] := fun e => h (List.eq_nil_of_length_eq_zero (by have := rows_length (E := E) l; rw [e] at this; simp only [List.length_nil] at this; exact (Nat.mul_eq_zero.1 this.symm).resolve_right (by have := hE.pos; omega)))
  cases hr : rows E l with
  | nil => exact absurd hr this
  | cons x r => simp
 ·subst h; simp
def updQ (q : Nat → Fl) (v : Nat) (f : Fl) : Nat → Fl := fun i => if i = v then f else q i
theorem updV_R (q : Nat → Fl) (E : Nat → List Int) (v : Nat) (f : Fl) (l : List Int) : updV (fun i => R (q i) eI (E i)) v (R f eI l) = fun i => R (updQ q v f i) eI (updE E v l i) := by
 funext i; unfold updV updQ updE; split <;> rfl
theorem mapO_map (f : V → Option V) (g g' : Nat → V) (l : List Nat) (h : ∀ i, f (g i) = some (g' i)) : pure1.mapO f (l.map g) = some (l.map g') := by
 induction l with
 | nil => rfl
 | cons x l ih => simp only [List.map_cons, pure1.mapO, h, ih]
theorem rows_eT (H : Nat → Int) (E : Nat → List Int) : ∀ m, rows eT ((List.range m).map fun i => (⟨H i, E i⟩ : RestZ)) = tab (m * 2) (tcB H (fun i => R fl0 eI (E i)))
 | 0 => rfl
 | m + 1 => by
  rw [List.range_succ, List.map_append, rows_append, rows_eT H E m]
  unfold tab
  rw [show (m + 1) * 2 = m * 2 + 1 + 1 by omega, List.range_succ, List.range_succ]
  simp only [List.map_append, List.map_cons, List.map_nil, List.append_assoc]
  rw [tcB_0, tcB_1]; rfl
theorem outS_eT {h : Heap} {a m : Nat} {H : Nat → Int} {q : Nat → Fl} {E : Nat → List Int} (hb : h.bs[a]? = some (.cells (tab (m * 2) (tcB H (fun i => R (q i) eI (E i)))))) :
  outS (some (.ret (.slice a 0 m 2), h)) = some (.ret (R fl0 eT ((List.range m).map fun i => (⟨H i, E i⟩ : RestZ)))) := by
 have hr : (tab (m * 2) (tcB H (fun i => R (q i) eI (E i)))).flatMap (reachN h 7) = [] := by
  rw [List.flatMap_eq_nil_iff]
  intro x hx
  simp only [tab, List.mem_map] at hx
  obtain ⟨i, _, rfl⟩ := hx
  unfold tcB
  split
  ·rfl
  ·exact R_reach _ _ _
 have h1 : [V.slice a 0 m 2].flatMap (reachN h 8) = [a] := by
  rw [List.flatMap_cons, List.flatMap_nil, List.append_nil]
  show a :: (match h.bs[a]? with | some (.cells cs) | some (.frozen cs) => cs.flatMap (reachN h 7) | _ => []) = [a]
  rw [hb]; simp only; rw [hr]
 have hf := frz_all (h := h) (show a ∈ [a] by simp) hb
 have h2 : pureN (freezeAll h [a]) 8 (V.slice a 0 m 2) = some (R fl0 eT ((List.range m).map fun i => (⟨H i, E i⟩ : RestZ))) := by
  show pure1 (pureN (freezeAll h [a]) 7) (freezeAll h [a]) (V.slice a 0 m 2) = _
  rw [pure1, hf]
  simp only [frz, Nat.zero_add, List.drop_zero]
  rw [if_pos (by simp), List.take_of_length_le (by simp)]
  have h3 := mapO_map (pureN (freezeAll h [a]) 7) (tcB H (fun i => R (q i) eI (E i))) (tcB H (fun i => R fl0 eI (E i))) (List.range (m * 2)) (fun i => by
   unfold tcB
   split
   ·rfl
   ·exact R_pure _ _ _ _)
  show Option.map _ (pure1.mapO _ (tab (m * 2) _)) = _
  unfold tab
  rw [h3, ← show tab (m * 2) (tcB H (fun i => R fl0 eI (E i))) = (List.range (m * 2)).map _ from rfl, ← rows_eT]
  simp [R]
 show (match handV h [V.slice a 0 m 2] with | some ([v], _) => some (CRes.ret v) | _ => none) = _
 unfold handV
 rw [if_neg (by simp [V.closed.closedL, V.closed])]
 simp only [h1]
 simp [pure1.mapO, h2]
theorem bk36 {a b c b1 b2 b3 b4 b5 b6 z : Blk} {X : List Blk} : a :: b :: c :: (X ++ [b1, b2, b3, b4, b5, b6, z]) = a :: b :: c :: ((X ++ [b1, b2, b3, b4, b5, b6]) ++ [z]) := by simp
theorem updI_id {f : Nat → Int} {v : Nat} {x : Int} (h : f v = x) : updI f v x = f := by
 funext j; unfold updI; split
 ·rename_i e; subst e; exact h.symm
 ·rfl
theorem C32 (w : List Int) (s r : Int) (hw : wOk w s r) : Kc cfg 32 [.agg [R fl0 eI w, .int .i64 s, .int .i64 r]] (.ret (R fl0 eT (solL w s r))) := by
 have hw2 := hw
 obtain ⟨h1, h2, h3, h4, h5, h6⟩ := hw2
 have hwl : w.length < 1099511627776 := by omega
 generalize hRR : solL w s r = RR
 refine outS_of_wp cfg (fn := Tryz.f32) Tryz.func32 rfl (by simp [Tryz.f32]) ?_
 simp (disch := first|exact DD|fail) [-getElem?_pos, gZ, gS, Tryz.f32, emptyH]
 repeat' (first|((first|refine wA ?_ ?_|refine wB ?_ ?_)<;>intro hc<;>try simp at hc)|refine wF ?_|refine wY ?_|refine wL ?_|refine owe ?_ fun ho=>?_|(simp (disch := first|exact DD|fail) [emptyH, -getElem?_pos, gZ, gS]))
 refine wp_loopD (c := cfg) rfl (fun f0 h0 d0 m fr h dd => ∃ k : Nat, ∃ X : List Blk, ∃ ms : List Nat, ∃ q : Nat → Fl, fr 1 = f0 1 ∧ fr 2 = f0 2 ∧ fr 3 = f0 3 ∧ fr 4 = f0 4 ∧ fr 5 = .ptr (X.length + 3) 0 ∧ (h.bs = .cells [R fl0 eI w, .int .i64 s, .int .i64 r] :: .cells (tab ((w.length + 1) * 2) (tcB (solB w s r k).1 (fun i => R (q i) eI ((solB w s r k).2 i)))) :: .cells [.slice 1 0 (w.length + 1) 2] :: (X ++ [.cells [.int .i64 ((w.length : Int) - 1 - k)]])) ∧ (k + m = w.length) ∧ (∀ i, q i = (true, true, none) ∨ (solB w s r k).2 i ≠ []) ∧ (Mk ms X) ∧ dd = mkD 3 ms) (w.length) _ _ _ ⟨0, [], [], fun _ => (true, true, none), rfl, rfl, rfl, rfl, by first | rfl | (simp; done) | (simp [R]; done) | simp [R], by simp [rep2_tcB, solB], by first | rfl | (simp; done) | omega, fun _ => .inl rfl, Mk.nil _, by first | rfl | simp⟩ ?_
 rintro Am Af Ah _ ⟨k, X, ms, q, A1, A2, A3, A4, A5, hb, hm, hq, hmk, rfl⟩ Aih
 try simp at A1 A2 A3 A4
 by_cases hk : k < w.length
 ·obtain ⟨v, hv⟩ : ∃ v, v = w.length - 1 - k := ⟨_, rfl⟩
  have hvi : (w.length : Int) - 1 - k = v := by omega
  have g1 : v < w.length := by omega
  have hlow := solB_low w s r k v (by omega)
  rw [hvi] at hb
  repeat' (first|((first|refine wA ?_ ?_|refine wB ?_ ?_)<;>intro hc<;>try simp at hc)|refine wF ?_|refine wY ?_|refine wL ?_|refine owe ?_ fun ho=>?_|(simp (disch := first|exact DD|fail) [A1, A2, A3, A4, A5, hb, app_at, app_at0, Tryz.f36, Tryz.f62, -getElem?_pos, gZ, gS]))
  refine wp_loopE cfg rfl (fun f0 h0 m fr h => ∃ j : Nat, fr 0 = f0 0 ∧ fr 1 = f0 1 ∧ fr 2 = f0 2 ∧ fr 4 = .int .i64 (lfB w s r v j) ∧ fr 5 = .int .i64 ((v : Int) + j) ∧ (h.bs = (h0.bs.set 1 (.cells (tab ((w.length + 1) * 2) (tcB (updI (solB w s r k).1 v (bstB (csB w s r v) (solB w s r k).1 v j).2) (fun i => R (q i) eI ((solB w s r k).2 i)))))).set (X.length + 4) (.cells [.int .i64 (bstB (csB w s r v) (solB w s r k).1 v j).1])) ∧ (mxF (fitB w s r v) (w.length - v - j) j = mxB w s r v) ∧ (0 ≤ lfB w s r v j) ∧ (v + j + m = w.length)) (w.length - v) _ _ ⟨0, rfl, rfl, rfl, by simp [lfB_zero], by first | rfl | (simp; done) | (simp [R]; done) | simp [R], by simp [bstB, updI_id hlow.1, app_set, app_set0], by first | rfl | (simp; done) | omega, by rw [lfB_zero]; omega, by first | rfl | (simp; done) | omega⟩ ?_
  rintro Bm Bf Bh ⟨j, B0, B1, B2, B4, B5, hb3, hmx, h0, hm3⟩ Bih
  try simp [A1, A2, A3, A4, A5] at B0 B1 B2
  simp [app_set, app_set0] at hb3
  generalize hbs : bstB (csB w s r v) (solB w s r k).1 v j = pj at *
  have hB0 := (solB_ok hw k (by omega)).bound
  have hE0 := solB_len hw k (by omega)
  by_cases hgo : v + j < w.length ∧ 0 ≤ lfB w s r v (j + 1)
  ·obtain ⟨hj, hfit⟩ := hgo
   have hL : lfB w s r v j - (s + nth w (v + j)) = lfB w s r v (j + 1) := (lfB_succ w s r v j).symm
   have hx : ((v : Int) + j).toNat = v + j := by omega
   have hx1 : ((v : Int) + j + 1).toNat = v + (j + 1) := by omega
   have h7 := h6 (v + j) hj
   have h8 := (lfB_in hw (i := v) (k := j + 1) (by omega)).2 (by omega)
   have h9 := sq_in hfit h8
   have h10 := hB0 (v + (j + 1)) (by omega) (by omega)
   have h11 : (lfB w s r v (j + 1) < 0) = False := eq_false (by omega)
   have hne : updI (solB w s r k).1 v pj.2 (v + (j + 1)) = (solB w s r k).1 (v + (j + 1)) := updI_ne (by omega)
   have hgo2 := mxB_go hmx hj hfit
   repeat' (first|((first|refine wA ?_ ?_|refine wB ?_ ?_)<;>intro hc<;>try simp at hc)|refine wF ?_|refine wY ?_|refine wL ?_|refine owe ?_ fun ho=>?_|(simp (disch := first|exact DD|fail) [B0, B1, B2, B4, B5, A1, A2, A3, A4, A5, hb3, app_at, app_at0, eI, hx, hx1, hj, hL, h11, tab_get1, tcB_0, hne, -getElem?_pos, gZ, gS]))
   all_goals first
    | (exfalso; omega)
    | (have hq := (bstB_e hbs (by omega)).1 (by omega); exact Bih (Bm - 1) _ _ (by omega) ⟨j + 1, by simp [B0, B1, B2, B4, B5, A1, A2, A3, A4, A5, hb3, hq, tcB_u0, updI_updI, Int.add_assoc], by simp [B0, B1, B2, B4, B5, A1, A2, A3, A4, A5, hb3, hq, tcB_u0, updI_updI, Int.add_assoc], by simp [B0, B1, B2, B4, B5, A1, A2, A3, A4, A5, hb3, hq, tcB_u0, updI_updI, Int.add_assoc], by simp [B0, B1, B2, B4, B5, A1, A2, A3, A4, A5, hb3, hq, tcB_u0, updI_updI, Int.add_assoc], by simp [B0, B1, B2, B4, B5, A1, A2, A3, A4, A5, hb3, hq, tcB_u0, updI_updI, Int.add_assoc], (by simp [hb3, hq, tcB_u0, updI_updI, app_set, app_set0]), hgo2, hfit, by omega⟩)
    | (have hq := (bstB_e hbs (by omega)).2 (by omega); exact Bih (Bm - 1) _ _ (by omega) ⟨j + 1, by simp [B0, B1, B2, B4, B5, A1, A2, A3, A4, A5, hb3, hq, tcB_u0, updI_updI, Int.add_assoc], by simp [B0, B1, B2, B4, B5, A1, A2, A3, A4, A5, hb3, hq, tcB_u0, updI_updI, Int.add_assoc], by simp [B0, B1, B2, B4, B5, A1, A2, A3, A4, A5, hb3, hq, tcB_u0, updI_updI, Int.add_assoc], by simp [B0, B1, B2, B4, B5, A1, A2, A3, A4, A5, hb3, hq, tcB_u0, updI_updI, Int.add_assoc], by simp [B0, B1, B2, B4, B5, A1, A2, A3, A4, A5, hb3, hq, tcB_u0, updI_updI, Int.add_assoc], (by simp [hb3, hq, tcB_u0, updI_updI, app_set, app_set0]), hgo2, hfit, by omega⟩)
    | (have hq := (bstB_m hbs (by omega)).1 (by omega); exact Bih (Bm - 1) _ _ (by omega) ⟨j + 1, by simp [B0, B1, B2, B4, B5, A1, A2, A3, A4, A5, hb3, hq, tcB_u0, updI_updI, Int.add_assoc], by simp [B0, B1, B2, B4, B5, A1, A2, A3, A4, A5, hb3, hq, tcB_u0, updI_updI, Int.add_assoc], by simp [B0, B1, B2, B4, B5, A1, A2, A3, A4, A5, hb3, hq, tcB_u0, updI_updI, Int.add_assoc], by simp [B0, B1, B2, B4, B5, A1, A2, A3, A4, A5, hb3, hq, tcB_u0, updI_updI, Int.add_assoc], by simp [B0, B1, B2, B4, B5, A1, A2, A3, A4, A5, hb3, hq, tcB_u0, updI_updI, Int.add_assoc], (by simp [hb3, hq, tcB_u0, updI_updI, app_set, app_set0]), hgo2, hfit, by omega⟩)
    | (have hq := (bstB_m hbs (by omega)).2 (by omega); exact Bih (Bm - 1) _ _ (by omega) ⟨j + 1, by simp [B0, B1, B2, B4, B5, A1, A2, A3, A4, A5, hb3, hq, tcB_u0, updI_updI, Int.add_assoc], by simp [B0, B1, B2, B4, B5, A1, A2, A3, A4, A5, hb3, hq, tcB_u0, updI_updI, Int.add_assoc], by simp [B0, B1, B2, B4, B5, A1, A2, A3, A4, A5, hb3, hq, tcB_u0, updI_updI, Int.add_assoc], by simp [B0, B1, B2, B4, B5, A1, A2, A3, A4, A5, hb3, hq, tcB_u0, updI_updI, Int.add_assoc], by simp [B0, B1, B2, B4, B5, A1, A2, A3, A4, A5, hb3, hq, tcB_u0, updI_updI, Int.add_assoc], (by simp [hb3, hq, tcB_u0, updI_updI, app_set, app_set0]), hgo2, hfit, by omega⟩)
    | skip
  ·have hmj : mxB w s r v = j := by
    by_cases hj : v + j < w.length
    ·exact mxB_off hmx (fun h => hgo ⟨hj, h⟩)
    ·exact mxB_end hmx (by omega)
   have hL : lfB w s r v j - (s + nth w (v + j)) = lfB w s r v (j + 1) := (lfB_succ w s r v j).symm
   have hx : ((v : Int) + j).toNat = v + j := by omega
   have h7 : v + j < w.length → 1 ≤ nth w (v + j) ∧ nth w (v + j) ≤ r ∧ lfB w s r v (j + 1) < 0 ∧ -2097152 ≤ lfB w s r v (j + 1) := fun h =>
    ⟨(h6 _ h).1, (h6 _ h).2, (by have : ¬ 0 ≤ lfB w s r v (j + 1) := (fun x => hgo ⟨h, x⟩); omega), lfB_low hw h h0⟩
   have h8 := (lfB_in hw (i := v) (k := j) (by omega)).1
   have h11 : v + j < w.length → (lfB w s r v (j + 1) < 0) = True := fun h => eq_true (h7 h).2.2.1
   obtain ⟨e, e1, e2, e3, e4, e5⟩ := bstB_ok (csB w s r v) (solB w s r k).1 v j (by have := mxB_one hw g1; omega)
   rw [hbs] at e3 e4
   obtain ⟨p1, p2⟩ := pj
   simp only at e3 e4
   subst e3 e4
   have hve : ((v : Int) + e).toNat = v + e := by omega
   have hsl : ∀ h, sliceV Tryz.prog 36 h (R (q (v + e)) eI ((solB w s r k).2 (v + e))) none (some (.int .i64 (((solB w s r k).2 (v + e)).length : Nat))) (some (.int .i64 (((solB w s r k).2 (v + e)).length : Nat))) = some (R ((q (v + e)).1, true, none) eI ((solB w s r k).2 (v + e))) := fun h =>
    slice3_full (by simp) (by rcases hq (v + e) with x | x; exact .inr x; exact .inl x)
   have hap : App Bh.ts 1 ((q (v + e)).1, true, none) := App.full _ _ _
   have hel : ((solB w s r k).2 (v + e)).length ≤ 64 := hE0 _
   repeat' (first|((first|refine wA ?_ ?_|refine wB ?_ ?_)<;>intro hc<;>try simp at hc)|refine wF ?_|refine wY ?_|refine wL ?_|refine owe ?_ fun ho=>?_|(simp (disch := first|exact DD|fail) [B0, B1, B2, B4, B5, A1, A2, A3, A4, A5, hb3, app_at, app_at0, eI, hx, hL, h11, hve, hsl, fold_I1, tab_get1, tab_set, tcB_0, tcB_1, tcB_u1, -getElem?_pos, gZ, gS]))
   all_goals try (exfalso; omega)
   all_goals
    have hS1 : (solB w s r (k + 1)).1 = updI (solB w s r k).1 v (csB w s r v e + (solB w s r k).1 (v + e)) := by rw [solB]; simp only; rw [← hv, hmj, hbs]
    have hS2 : (solB w s r (k + 1)).2 = updE (solB w s r k).2 v ((solB w s r k).2 (v + e) ++ [(v : Int) + e]) := by rw [solB]; simp only; rw [← hv, hmj, hbs]; simp only [Int.toNat_natCast]; rw [Int.natCast_add]
    have hvk : (w.length : Int) - 1 - ((k + 1 : Nat) : Int) = (v : Int) - 1 := by omega
    refine Aih (Am - 1) _ _ _ (by omega) ⟨k + 1, X ++ [?_, ?_, ?_, ?_, Blk.dfr true, ?_], (X.length + 4) :: ms, updQ q v (false, false, some Bh.ts.length), by simp [A1, A2, A3, A4, A5, B0, B1, B2, B4, B5], by simp [A1, A2, A3, A4, A5, B0, B1, B2, B4, B5], by simp [A1, A2, A3, A4, A5, B0, B1, B2, B4, B5], by simp [A1, A2, A3, A4, A5, B0, B1, B2, B4, B5], by simp, ?_, by omega, fun i => ?_, hmk.new rfl, rfl⟩
    rotate_left 5
    ·rw [hS1, hS2, ← updV_R, hvk]; exact bk36
    ·rw [hS2]
     unfold updQ
     by_cases ei : i = v
     ·subst ei; rw [updE_same]; exact .inr (by simp)
     ·rw [if_neg ei, updE_ne ei]; exact hq i
 ·obtain rfl : k = w.length := by omega
  repeat' (first|((first|refine wA ?_ ?_|refine wB ?_ ?_)<;>intro hc<;>try simp at hc)|refine wF ?_|refine wY ?_|refine wL ?_|refine owe ?_ fun ho=>?_|(simp (disch := first|exact DD|fail) [A1, A2, A3, A4, A5, hb, app_at, app_at0, -getElem?_pos, gZ, gS]))
  obtain ⟨bs', l1, l2⟩ := hmk.leave (D := Di cfg) (m := .ret) (ts := Ah.ts) (L := [.cells [R fl0 eI w, .int .i64 s, .int .i64 r], .cells (tab ((w.length + 1) * 2) (tcB (solB w s r w.length).1 (fun i => R (q i) eI ((solB w s r w.length).2 i)))), .cells [.slice 1 0 (w.length + 1) 2]]) (R := [.cells [.int .i64 ((w.length : Int) - 1 - w.length)]]) (k := 3) rfl
  have l3 := l2 1 _ rfl
  simp only [List.cons_append, List.nil_append] at l1
  have l4 := outS_eT (h := ⟨bs', Ah.ts⟩) l3
  rw [show Ah = ⟨Ah.bs, Ah.ts⟩ from rfl, hb, l1, ← hRR]
  exact l4
@[simp] theorem S32 (w : List Int) (s r : Int) (hw : wOk w s r) (q1 : Fl) (hh : Heap) : Ci cfg (.func (.func 32) [] []) [.agg [R  q1 eI w, .int .i64 s, .int .i64 r]] hh = some (.ret (R fl0 eT (solL w s r)), hh) :=
 Ci_K cfg rfl rfl (by simp) (by simp) (C32 w s r hw)
end Go.Ab
namespace Go.Ab
open Go.Proofs
set_option maxRecDepth 100000
set_option maxHeartbeats 4000000
theorem rev_take {l : List Int} {j : Nat} (h : j < l.length) : l.reverse.take (j + 1) = l.reverse.take j ++ [nth l (l.length - 1 - j)] := by
 rw [List.take_add_one, List.getElem?_reverse h, nth_some (by omega)]; rfl
theorem endsB_len {w : List Int} {s r : Int} (h : wOk w s r) (i : Nat) : (endsB w s r i).length ≤ 64 := solB_len h _ (Nat.le_refl _) i
theorem C9 (w : List Int) (s r : Int) (hw : wOk w s r) : Kc cfg 9 [R fl0 eI w, .int .i64 s, .int .i64 r] (.ret (.tuple [R fl0 eI (pathB w s r), .int .i64 (costB w s r 0), .bool true, .int .i64 0])) := by
 have hwl : w.length < 1099511627776 := by have := hw.1; omega
 have hn0 := nth_solL (w := w) (s := s) (r := r) (i := 0) (Nat.zero_le _)
 have hel := endsB_len hw 0
 unfold pathB
 generalize endsB w s r 0 = L at *
 refine outS_of_wp cfg (fn := Tryz.f9) Tryz.func9 rfl (by simp [Tryz.f9]) ?_
 simp (disch := first|exact DD|fail) [-getElem?_pos, gZ, gS, Tryz.f9, emptyH]
 repeat' (first|((first|refine wA ?_ ?_|refine wB ?_ ?_)<;>intro hc<;>try simp at hc)|refine wF ?_|refine wY ?_|refine wL ?_|refine owe ?_ fun ho=>?_|(simp (disch := first|exact DD|fail) [emptyH, hn0, eT, Tryz.f33, Tryz.f61, -getElem?_pos, gZ, gS]))
 refine wp_loopE cfg rfl (fun f0 h0 m fr h => ∃ j : Nat, ∃ q : Fl, fr 0 = f0 0 ∧ fr 1 = f0 1 ∧ fr 3 = .int .i64 ((L.length : Int) - 1 - j) ∧ (h.bs = h0.bs.set 0 (.cells [R q eI (L.reverse.take j)])) ∧ (App h.ts 1 q) ∧ (j + m = L.length)) (L.length) _ _ ⟨0, (true, true, none), rfl, rfl, by first | rfl | (simp; done) | (simp [R]; done) | simp [R], by simp [R], App.nil _ _ _, by first | rfl | (simp; done) | omega⟩ ?_
 rintro Am Af Ah ⟨j, q, A0, A1, A3, hb, hap, hm⟩ Aih
 try simp at A0 A1
 simp at hb
 by_cases hj : j < L.length
 ·have hx : ((L.length : Int) - 1 - j).toNat = L.length - 1 - j := by omega
  have hr := rev_take hj
  have hl : (L.reverse.take j).length ≤ 64 := by simp; omega
  repeat' (first|((first|refine wA ?_ ?_|refine wB ?_ ?_)<;>intro hc<;>try simp at hc)|refine wF ?_|refine wY ?_|refine wL ?_|refine owe ?_ fun ho=>?_|(simp (disch := first|exact DD|fail) [A0, A1, A3, hb, eI, hx, fold_I1, -getElem?_pos, gZ, gS]))
  all_goals try (exfalso; omega)
  exact Aih (Am - 1) _ _ (by omega) ⟨j + 1, (false, false, some Ah.ts.length), by simp [A0, A1, A3, hb, hr, Int.sub_sub, Int.add_assoc], by simp [A0, A1, A3, hb, hr, Int.sub_sub, Int.add_assoc], by simp [A0, A1, A3, hb, hr, Int.sub_sub, Int.add_assoc], (by simp [hb, hr]), App.new _ _ _, by omega⟩
 ·have hr : L.reverse.take j = L.reverse := List.take_of_length_le (by simp; omega)
  rw [hr] at hb
  repeat' (first | ((first | refine wA ?_ ?_ | refine wB ?_ ?_) <;> intro hc <;> try simp at hc) | (refine wp_drawT _ (by kernel_rfl) ?_) | refine wY ?_ | refine wL ?_ | refine owe ?_ fun ho => ?_ | (simp (disch := first|exact DD|fail) [A0, A1, A3, hb, -getElem?_pos, gZ, gS]))
  all_goals try (exfalso; omega)
@[simp] theorem S9 (w : List Int) (s r : Int) (hw : wOk w s r) (q1 : Fl) (hh : Heap) : Ci cfg (.func (.func 9) [] []) [R  q1 eI w, .int .i64 s, .int .i64 r] hh = some (.ret (.tuple [R fl0 eI (pathB w s r), .int .i64 (costB w s r 0), .bool true, .int .i64 0]), hh) :=
 Ci_K cfg rfl rfl (by simp) (by simp) (C9 w s r hw)
theorem C10 (w : List Int) (s r : Int) (hw : wOk w s r) : Kc cfg 10 [R fl0 eI w, .int .i64 s, .int .i64 r] (.ret (.tuple [R fl0 eI (prfB w s r), .bool true, .int .i64 0])) := by
 have hwl : w.length < 1099511627776 := by have := hw.1; omega
 have hsl : (solL w s r).length = w.length + 1 := solL_len w s r
 have hpl : (prfB w s r).length = w.length + 1 := rowF_len _ _
 have hnp := fun i hi => nth_solL (w := w) (s := s) (r := r) (i := i) hi
 have hnq : ∀ i, i ≤ w.length → nth (prfB w s r) i = costB w s r i := fun i hi => nth_rowF (by omega)
 generalize prfB w s r = P at *
 refine outS_of_wp cfg (fn := Tryz.f10) Tryz.func10 rfl (by simp [Tryz.f10]) ?_
 simp (disch := first|exact DD|fail) [-getElem?_pos, gZ, gS, Tryz.f10, emptyH]
 repeat' (first|((first|refine wA ?_ ?_|refine wB ?_ ?_)<;>intro hc<;>try simp at hc)|refine wF ?_|refine wY ?_|refine wL ?_|refine owe ?_ fun ho=>?_|(simp (disch := first|exact DD|fail) [emptyH, -getElem?_pos, gZ, gS]))
 refine wp_loopE cfg rfl (fun f0 h0 m fr h => ∃ i : Nat, ∃ q : Fl, ∃ AX : List Blk, fr 28 = f0 28 ∧ fr 29 = f0 29 ∧ fr 30 = .int .i64 i ∧ fr 6 = R q eI (P.take i) ∧ h.bs = h0.bs ++ AX ∧ (App h.ts 1 q) ∧ (i + m = w.length + 1)) (w.length + 1) _ _ ⟨0, (true, true, none), [], rfl, rfl, by first | rfl | (simp; done) | (simp [R]; done) | simp [R], by first | rfl | (simp; done) | (simp [R]; done) | simp [R], by simp, App.nil _ _ _, by first | rfl | (simp; done) | omega⟩ ?_
 rintro Am Af Ah ⟨i, q, AX, A28, A29, A30, A6, Abs, hap, hm⟩ Aih
 try simp at A28 A29 Abs
 by_cases hi : i < w.length + 1
 ·have h1 := hnp i (by omega)
  have h2 := hnq i (by omega)
  have hr : P.take (i + 1) = P.take i ++ [costB w s r i] := by rw [nth_take (by omega), h2]
  have hl : (P.take i).length ≤ 65 := by have := hw.1; simp; omega
  repeat' (first|((first|refine wA ?_ ?_|refine wB ?_ ?_)<;>intro hc<;>try simp at hc)|refine wF ?_|refine wY ?_|refine wL ?_|refine owe ?_ fun ho=>?_|(simp (disch := first|exact DD|fail) [A28, A29, A30, A6, Abs, hsl, h1, eT, fold_I1, app_at, app_at0, -getElem?_pos, gZ, gS]))
  all_goals try (exfalso; omega)
  exact Aih (Am - 1) _ _ (by omega) ⟨i + 1, (false, false, some Ah.ts.length), AX ++ [.cells [.int .i64 (costB w s r i), R fl0 eI (endsB w s r i)]], by simp [A28, A29, A30, A6, Abs, hr], by simp [A28, A29, A30, A6, Abs, hr], by simp [A28, A29, A30, A6, Abs, hr], by simp [A28, A29, A30, A6, Abs, hr], by simp [A28, A29, A30, A6, Abs, hr], App.new _ _ _, by omega⟩
 ·have hr : P.take i = P := List.take_of_length_le (by omega)
  rw [hr] at A6
  repeat' (first|((first|refine wA ?_ ?_|refine wB ?_ ?_)<;>intro hc<;>try simp at hc)|refine wF ?_|refine wY ?_|refine wL ?_|refine owe ?_ fun ho=>?_|(simp (disch := first|exact DD|fail) [A28, A29, A30, A6, Abs, hsl, -getElem?_pos, gZ, gS]))
  all_goals try (exfalso; omega)
@[simp] theorem S10 (w : List Int) (s r : Int) (hw : wOk w s r) (q1 : Fl) (hh : Heap) : Ci cfg (.func (.func 10) [] []) [R  q1 eI w, .int .i64 s, .int .i64 r] hh = some (.ret (.tuple [R fl0 eI (prfB w s r), .bool true, .int .i64 0]), hh) :=
 Ci_K cfg rfl rfl (by simp) (by simp) (C10 w s r hw)
end Go.Ab
namespace Go.Ab
open Go.Proofs
set_option maxRecDepth 100000
set_option maxHeartbeats 4000000
theorem mxB_ge {w : List Int} {s r : Int} {i k : Nat} (hk : mxF (fitB w s r i) (w.length - i - k) k = mxB w s r i) : k ≤ mxB w s r i := by rw [← hk]; exact (mxF_in _ _ _).1
theorem Mk.turn {ns : List Nat} {X Z : List Blk} {a b a' b' : List V} (h : Mk ns (X ++ .cells a :: .cells b :: Z)) : Mk ns (X ++ .cells a' :: .cells b' :: Z) := by
 refine ⟨h.nd, fun p hp => ?_⟩
 have h1 := h.at' p hp
 rcases Nat.lt_or_ge p X.length with h2 | h2
 ·rw [List.getElem?_append_left h2] at h1 ⊢; exact h1
 ·rw [List.getElem?_append_right h2] at h1 ⊢
  obtain ⟨d, hd⟩ : ∃ d, p - X.length = d := ⟨_, rfl⟩
  rw [hd] at h1 ⊢
  match d with
  | 0 => cases h1
  | 1 => cases h1
  | d + 2 => exact h1
theorem Mk.turnNew {ns : List Nat} {X Z : List Blk} {a b a' b' : List V} {b1 b2 b3 b5 : Blk} (h : Mk ns (X ++ .cells a :: .cells b :: Z)) :
  Mk ((X.length + (Z.length + 5)) :: ns) (X ++ .cells a' :: .cells b' :: (Z ++ [b1, b2, b3, Blk.dfr true, b5])) := by
 have h1 := (h.turn (a' := a') (b' := b')).new (Y := [b1, b2, b3, Blk.dfr true, b5]) (k := 3) rfl
 have e : (X ++ .cells a' :: .cells b' :: Z).length + 3 = X.length + (Z.length + 5) := by simp; omega
 rw [e] at h1
 simpa using h1
theorem gbF {p0 p1 p2 p3 a b : Blk} {X Z L : List Blk} {j : Nat} : (p0 :: p1 :: p2 :: p3 :: (X ++ a :: b :: (Z ++ L)))[X.length + (Z.length + (j + 6))]? = L[j]? := by
 rw [show X.length + (Z.length + (j + 6)) = X.length + (Z.length + j + 2) + 1 + 1 + 1 + 1 by omega]
 simp only [List.getElem?_cons_succ, app_at]
theorem gsF {p0 p1 p2 p3 a b x : Blk} {X Z L : List Blk} {j : Nat} : (p0 :: p1 :: p2 :: p3 :: (X ++ a :: b :: (Z ++ L))).set (X.length + (Z.length + (j + 6))) x = p0 :: p1 :: p2 :: p3 :: (X ++ a :: b :: (Z ++ L.set j x)) := by
 rw [show X.length + (Z.length + (j + 6)) = X.length + (Z.length + j + 2) + 1 + 1 + 1 + 1 by omega]
 simp only [List.set_cons_succ, app_set]
theorem bk45 {a b c d b1 b2 b3 b4 b5 : Blk} {X : List Blk} : a :: b :: c :: d :: (X ++ [b1, b2, b3, b4, b5]) = [a, b, c, d] ++ (X ++ [b1, b2, b3, b4, b5]) := rfl
theorem C11 (w : List Int) (s r : Int) (hw : wOk w s r) : Kc cfg 11 [R fl0 eI w, .int .i64 s, .int .i64 r, R fl0 eI (pathB w s r), R fl0 eI (prfB w s r)] (.ret (.tuple [.bool true, .int .i64 0])) := by
 have hS := solB_all hw
 have hwl : w.length < 1099511627776 := by have := hw.1; omega
 obtain ⟨w1, w2, w3, w4, w5, w6⟩ := hw
 have hpl : (prfB w s r).length = w.length + 1 := rowF_len _ _
 have hnq : ∀ i, i ≤ w.length → nth (prfB w s r) i = costB w s r i := fun i hi => nth_rowF (by omega)
 have hnn : nth (prfB w s r) w.length = 0 := by rw [hnq _ (Nat.le_refl _)]; exact hS.hn
 have hmin := min_nth (l := prfB w s r) (r := 0) (by omega) (fun i hi => by rw [hnq i (by omega)]; exact (hS.bound i (by omega) (by omega)).1)
 have hmax := max_nth (l := prfB w s r) (r := 1125899906842624) (by omega) (fun i hi => by rw [hnq i (by omega)]; have := (hS.bound i (by omega) (by omega)).2; omega)
 have hpt : (pathB w s r).length ≤ 64 := by unfold pathB; rw [List.length_reverse]; exact endsB_len ⟨w1, w2, w3, w4, w5, w6⟩ 0
 have hw : wOk w s r := ⟨w1, w2, w3, w4, w5, w6⟩
 have hp0 : (pathB w s r).drop 0 = (endsB w s r 0).reverse := rfl
 have hq0 := hnq 0 (Nat.zero_le _)
 generalize pathB w s r = L at *
 generalize prfB w s r = P at *
 have hmin1 : (List.foldl min (nth P 0) P < 0) = False := eq_false (by omega)
 have hmax1 : (1125899906842624 < List.foldl max (nth P 0) P) = False := eq_false (by omega)
 have hP0 : 0 < P.length := by omega
 have hPs : P.length < 1099511627776 := by omega
 refine outS_of_wp cfg (fn := Tryz.f11) Tryz.func11 rfl (by simp [Tryz.f11]) ?_
 simp (disch := first|exact DD|fail) [-getElem?_pos, gZ, gS, Tryz.f11, emptyH]
 repeat' (first|((first|refine wA ?_ ?_|refine wB ?_ ?_)<;>intro hc<;>try simp at hc)|refine wF ?_|refine wY ?_|refine wL ?_|refine owe ?_ fun ho=>?_|(simp (disch := first|exact DD|fail) [emptyH, hpl, hnn, eI, hmin1, hmax1, -getElem?_pos, gZ, gS]))
 all_goals try (exfalso; omega)
 refine wp_loopD (c := cfg) rfl (fun f0 h0 d0 m fr h dd => ∃ i : Nat, ∃ X : List Blk, ∃ ms : List Nat, fr 3 = f0 3 ∧ fr 9 = f0 9 ∧ fr 10 = f0 10 ∧ fr 11 = f0 11 ∧ fr 12 = f0 12 ∧ fr 13 = f0 13 ∧ fr 57 = f0 57 ∧ fr 58 = .int .i64 i ∧ (h.bs = h0.bs ++ X) ∧ (i + m = w.length) ∧ (Mk ms X) ∧ dd = mkD 4 ms) (w.length) _ _ _ ⟨0, [], [], rfl, rfl, rfl, rfl, rfl, rfl, rfl, by first | rfl | (simp; done) | (simp [R]; done) | simp [R], by simp, by first | rfl | (simp; done) | omega, Mk.nil _, by first | rfl | simp⟩ ?_
 rintro Am Af Ah _ ⟨i, X, ms, A3, A9, A10, A11, A12, A13, A57, A58, hb, hm, hmk, rfl⟩ Aih
 try simp at A3 A9 A10 A11 A12 A13 A57
 simp at hb
 by_cases hi : i < w.length
 ·have hni := hnq i (by omega)
  repeat' (first|((first|refine wA ?_ ?_|refine wB ?_ ?_)<;>intro hc<;>try simp at hc)|refine wF ?_|refine wY ?_|refine wL ?_|refine owe ?_ fun ho=>?_|(simp (disch := first|exact DD|fail) [A3, A9, A10, A11, A12, A13, A57, A58, hb, app_at, app_at0, Tryz.f36, Tryz.f62, -getElem?_pos, gZ, gS]))
  refine wp_loopE cfg rfl (fun f0 h0 m fr h => ∃ j : Nat, fr 0 = f0 0 ∧ fr 1 = f0 1 ∧ fr 2 = f0 2 ∧ fr 4 = .int .i64 (lfB w s r i j) ∧ fr 5 = .int .i64 ((i : Int) + j) ∧ h.bs = h0.bs ∧ (mxF (fitB w s r i) (w.length - i - j) j = mxB w s r i) ∧ (0 ≤ lfB w s r i j) ∧ (i + j + m = w.length)) (w.length - i) _ _ ⟨0, rfl, rfl, rfl, by simp [lfB_zero], by first | rfl | (simp; done) | (simp [R]; done) | simp [R], rfl, by first | rfl | (simp; done) | omega, by rw [lfB_zero]; omega, by first | rfl | (simp; done) | omega⟩ ?_
  rintro Bm Bf Bh ⟨j, B0, B1, B2, B4, B5, Bbs, hmx, h0, hm3⟩ Bih
  try simp [A3, A9, A10, A11, A12, A13, A57, A58] at B0 B1 B2 Bbs
  have hx : ((i : Int) + j).toNat = i + j := by omega
  have hL : lfB w s r i j - (s + nth w (i + j)) = lfB w s r i (j + 1) := (lfB_succ w s r i j).symm
  by_cases hgo : i + j < w.length ∧ 0 ≤ lfB w s r i (j + 1)
  ·obtain ⟨hj, hfit⟩ := hgo
   have hx1 : ((i : Int) + j + 1).toNat = i + (j + 1) := by omega
   have h7 := w6 (i + j) hj
   have h8 := (lfB_in hw (i := i) (k := j + 1) (by omega)).2 (by omega)
   have h9 := sq_in hfit h8
   have h10 := hS.bound (i + (j + 1)) (by omega) (by omega)
   have h11 : (lfB w s r i (j + 1) < 0) = False := eq_false (by omega)
   have hgo2 := mxB_go hmx hj hfit
   have hne := hnq (i + (j + 1)) (by omega)
   have hle := hS.least i (j + 1) (by omega) hi (by omega) (mxB_ge hgo2)
   have hl1 : i + (j + 1) = w.length → (costB w s r (i + (j + 1)) < costB w s r i) = False := fun e => eq_false (by
    rw [show csB w s r i (j + 1) = 0 from if_pos e] at hle; omega)
   have hl2 : ¬ i + (j + 1) = w.length → (lfB w s r i (j + 1) * lfB w s r i (j + 1) + costB w s r (i + (j + 1)) < costB w s r i) = False := fun e => eq_false (by
    rw [show csB w s r i (j + 1) = _ from if_neg e] at hle; omega)
   have hjp : i + (j + 1) < P.length := by omega
   repeat' (first|((first|refine wA ?_ ?_|refine wB ?_ ?_)<;>intro hc<;>try simp at hc)|refine wF ?_|refine wY ?_|refine wL ?_|refine owe ?_ fun ho=>?_|(simp (disch := first|exact DD|fail) [B0, B1, B2, B4, B5, Bbs, A3, A9, A10, A11, A12, A13, A57, A58, Bbs, app_at, app_at0, eI, hx, hx1, hj, hL, h11, hni, hne, hl1, hl2, -getElem?_pos, gZ, gS]))
   all_goals try (exfalso; omega)
   all_goals exact Bih (Bm - 1) _ _ (by omega) ⟨j + 1, by simp [B0, B1, B2, B4, B5, Bbs, A3, A9, A10, A11, A12, A13, A57, A58, Bbs, Int.add_assoc], by simp [B0, B1, B2, B4, B5, Bbs, A3, A9, A10, A11, A12, A13, A57, A58, Bbs, Int.add_assoc], by simp [B0, B1, B2, B4, B5, Bbs, A3, A9, A10, A11, A12, A13, A57, A58, Bbs, Int.add_assoc], by simp [B0, B1, B2, B4, B5, Bbs, A3, A9, A10, A11, A12, A13, A57, A58, Bbs, Int.add_assoc], by simp [B0, B1, B2, B4, B5, Bbs, A3, A9, A10, A11, A12, A13, A57, A58, Bbs, Int.add_assoc], by simp [B0, B1, B2, B4, B5, Bbs, A3, A9, A10, A11, A12, A13, A57, A58, Bbs, Int.add_assoc], hgo2, hfit, by omega⟩
  ·have h7 : i + j < w.length → 1 ≤ nth w (i + j) ∧ nth w (i + j) ≤ r ∧ lfB w s r i (j + 1) < 0 ∧ -2097152 ≤ lfB w s r i (j + 1) := fun h =>
    ⟨(w6 _ h).1, (w6 _ h).2, (by have : ¬ 0 ≤ lfB w s r i (j + 1) := (fun x => hgo ⟨h, x⟩); omega), lfB_low hw h h0⟩
   have h8 := (lfB_in hw (i := i) (k := j) (by omega)).1
   have h11 : i + j < w.length → (lfB w s r i (j + 1) < 0) = True := fun h => eq_true (h7 h).2.2.1
   repeat' (first|((first|refine wA ?_ ?_|refine wB ?_ ?_)<;>intro hc<;>try simp at hc)|refine wF ?_|refine wY ?_|refine wL ?_|refine owe ?_ fun ho=>?_|(simp (disch := first|exact DD|fail) [B0, B1, B2, B4, B5, Bbs, A3, A9, A10, A11, A12, A13, A57, A58, Bbs, app_at, app_at0, eI, hx, hL, h11, -getElem?_pos, gZ, gS]))
   all_goals try (exfalso; omega)
   all_goals
    refine Aih (Am - 1) _ _ _ (by omega) ⟨i + 1, X ++ [?_, ?_, ?_, Blk.dfr true, ?_], (X.length + 3) :: ms, by simp [A3, A9, A10, A11, A12, A13, A57, A58, B0, B1, B2, B4, B5, Bbs], by simp [A3, A9, A10, A11, A12, A13, A57, A58, B0, B1, B2, B4, B5, Bbs], by simp [A3, A9, A10, A11, A12, A13, A57, A58, B0, B1, B2, B4, B5, Bbs], by simp [A3, A9, A10, A11, A12, A13, A57, A58, B0, B1, B2, B4, B5, Bbs], by simp [A3, A9, A10, A11, A12, A13, A57, A58, B0, B1, B2, B4, B5, Bbs], by simp [A3, A9, A10, A11, A12, A13, A57, A58, B0, B1, B2, B4, B5, Bbs], by simp [A3, A9, A10, A11, A12, A13, A57, A58, B0, B1, B2, B4, B5, Bbs], by simp, ?_, by omega, hmk.new rfl, rfl⟩
    rotate_left 4
    exact bk45
 ·obtain rfl : i = w.length := by omega
  repeat' (first|((first|refine wA ?_ ?_|refine wB ?_ ?_)<;>intro hc<;>try simp at hc)|refine wF ?_|refine wY ?_|refine wL ?_|refine owe ?_ fun ho=>?_|(simp (disch := first|exact DD|fail) [A3, A9, A10, A11, A12, A13, A57, A58, hb, app_at, app_at0, -getElem?_pos, gZ, gS]))
  refine wp_loopD (c := cfg) rfl (fun f0 h0 d0 m fr h dd => ∃ jj : Nat, ∃ a : Nat, ∃ sm : Int, ∃ Z : List Blk, ∃ ns : List Nat, fr 3 = f0 3 ∧ fr 9 = f0 9 ∧ fr 10 = f0 10 ∧ fr 11 = f0 11 ∧ fr 12 = f0 12 ∧ fr 13 = f0 13 ∧ fr 17 = f0 17 ∧ fr 18 = f0 18 ∧ fr 78 = f0 78 ∧ fr 79 = f0 79 ∧ fr 80 = .int .i64 jj ∧ (h.bs = .cells [R fl0 eI P] :: .cells [.bool false] :: .cells [.int .i64 0] :: .cells [R fl0 eI w, .int .i64 s, .int .i64 r] :: (X ++ .cells [.int .i64 a] :: .cells [.int .i64 sm] :: Z)) ∧ (L.drop jj = (endsB w s r a).reverse) ∧ (a ≤ w.length) ∧ (0 ≤ sm) ∧ (sm + costB w s r a = costB w s r 0) ∧ (jj + m = L.length) ∧ (Mk ns (X ++ .cells [.int .i64 a] :: .cells [.int .i64 sm] :: Z)) ∧ dd = mkD 4 ns) (L.length) _ _ _ ⟨0, 0, 0, [], ms, rfl, rfl, rfl, rfl, rfl, rfl, rfl, rfl, rfl, rfl, by first | rfl | (simp; done) | (simp [R]; done) | simp [R], by first | rfl | (simp; done) | omega, hp0, Nat.zero_le _, by first | rfl | (simp; done) | omega, by first | rfl | (simp; done) | omega, by first | rfl | (simp; done) | omega, hmk.app _, by first | rfl | simp⟩ ?_
  rintro Cm Cf Ch _ ⟨jj, a, sm, Z, ns, C3, C9, C10, C11, C12, C13, C17, C18, C78, C79, C80, hb4, hdr, ha, hs0, hsum, hm4, hmk2, rfl⟩ Cih
  try simp [A3, A9, A10, A11, A12, A13, A57, A58] at C3 C9 C10 C11 C12 C13 C17 C18 C78 C79
  have hba := hS.bound a (Nat.zero_le _) ha
  have hb0 := hS.bound 0 (Nat.zero_le _) (Nat.zero_le _)
  by_cases hjl : jj < L.length
  ·have han : a < w.length := by
    rcases Nat.lt_or_ge a w.length with h | h
    ·exact h
    ·have e : a = w.length := by omega
     have := congrArg List.length hdr
     rw [e, hS.en] at this
     simp at this; omega
   obtain ⟨k, k1, k2, k3, k4⟩ := hS.step a (Nat.zero_le _) han
   have kmx := mxB_le w s r a
   have hdr2 : L.drop jj = ((a + k : Nat) : Int) :: (endsB w s r (a + k)).reverse := by rw [hdr, k3, List.reverse_append]; rfl
   have hnl : nth L jj = ((a : Int) + k) := by
    rw [nth_drop hjl, List.cons.injEq] at hdr2
    rw [hdr2.1]; omega
   have hdr3 : L.drop (jj + 1) = (endsB w s r (a + k)).reverse := by
    rw [nth_drop hjl, List.cons.injEq] at hdr2
    exact hdr2.2
   have hmi : min (a : Int) (w.length : Int) = a := by omega
   have hbk := hS.bound (a + k) (Nat.zero_le _) (by omega)
   have hck := csB_in hw k1 k2 han
   repeat' (first|((first|refine wA ?_ ?_|refine wB ?_ ?_)<;>intro hc<;>try simp at hc)|refine wF ?_|refine wY ?_|refine wL ?_|refine owe ?_ fun ho=>?_|(simp (disch := first|exact DD|fail) [C3, C9, C10, C11, C12, C13, C17, C18, C78, C79, C80, A3, A9, A10, A11, A12, A13, A57, A58, hb4, hnl, hmi, eI, app_at, app_at0, gbF, gsF, Nat.add_assoc, Tryz.f36, Tryz.f62, -getElem?_pos, gZ, gS]))
   refine wp_loopE cfg rfl (fun f0 h0 m fr h => ∃ j : Nat, fr 0 = f0 0 ∧ fr 1 = f0 1 ∧ fr 2 = f0 2 ∧ fr 4 = .int .i64 (lfB w s r a j) ∧ fr 5 = .int .i64 ((a : Int) + j) ∧ h.bs = h0.bs ∧ (j < k) ∧ (0 ≤ lfB w s r a j) ∧ (j + m = k)) (k) _ _ ⟨0, rfl, rfl, rfl, by simp [lfB_zero], by first | rfl | (simp; done) | (simp [R]; done) | simp [R], rfl, by first | rfl | (simp; done) | omega, by rw [lfB_zero]; omega, by first | rfl | (simp; done) | omega⟩ ?_
   rintro Dm Df Dh ⟨j, D0, D1, D2, D4, D5, Dbs, hjk, h0, hm5⟩ Dih
   try simp [C3, C9, C10, C11, C12, C13, C17, C18, C78, C79, C80, A3, A9, A10, A11, A12, A13, A57, A58] at D0 D1 D2 Dbs
   have hx : ((a : Int) + j).toNat = a + j := by omega
   have hL : lfB w s r a j - (s + nth w (a + j)) = lfB w s r a (j + 1) := (lfB_succ w s r a j).symm
   have hfit : 0 ≤ lfB w s r a (j + 1) := mxB_fit (by omega) (by omega)
   have h7 := w6 (a + j) (by omega)
   have h8 := (lfB_in hw (i := a) (k := j + 1) (by omega)).2 (by omega)
   have h9 := sq_in hfit h8
   have h11 : (lfB w s r a (j + 1) < 0) = False := eq_false (by omega)
   have hj : a + j < w.length := by omega
   by_cases hjk2 : j + 1 = k
   ·subst hjk2
    have hc1 : a + (j + 1) = w.length → csB w s r a (j + 1) = 0 := fun e => if_pos e
    have hc2 : ¬ a + (j + 1) = w.length → csB w s r a (j + 1) = lfB w s r a (j + 1) * lfB w s r a (j + 1) := fun e => if_neg e
    repeat' (first | ((first | refine wA ?_ ?_ | refine wB ?_ ?_) <;> intro hc <;> try simp at hc) | (refine wp_drawF (by decide +kernel) ?_) | refine wY ?_ | refine wL ?_ | refine owe ?_ fun ho => ?_ | (simp (disch := first|exact DD|fail) [D0, D1, D2, D4, D5, Dbs, C3, C9, C10, C11, C12, C13, C17, C18, C78, C79, C80, A3, A9, A10, A11, A12, A13, A57, A58, Dbs, app_at, app_at0, app_set, app_set0, gbF, gsF, Nat.add_assoc, eI, hx, hj, hL, h11, Int.add_assoc, -getElem?_pos, gZ, gS]))
    all_goals
     refine wp_drawK [(17, .ptr (X.length + 4) 0), (18, .ptr (X.length + 5) 0)] (by simp [C17, C18]) (drawOkT_ex [(1, 4)] (by kernel_rfl) (by kernel_rfl) (fun p hp => ?_)) ?_
     ·simp only [List.mem_singleton] at hp
      subst hp
      refine ⟨_, _, rfl, rfl, ?_⟩
      refine apart_ls (bk := X.length + 4) rfl rfl (by kernel_rfl) (by kernel_rfl) (at_stay (by kernel_rfl) ?_) (far_stay (by kernel_rfl) ?_)
      ·show (X.length + 4 == X.length + 4) = true
       simp
      ·show (X.length + 5 != X.length + 4) = true
       simp
     repeat' (first | ((first | refine wA ?_ ?_ | refine wB ?_ ?_) <;> intro hc <;> try simp at hc) | (refine wp_drawF (by decide +kernel) ?_) | refine wY ?_ | refine wL ?_ | refine owe ?_ fun ho => ?_ | (simp (disch := first|exact DD|fail) [D0, D1, D2, D4, D5, Dbs, C3, C9, C10, C11, C12, C13, C17, C18, C78, C79, C80, A3, A9, A10, A11, A12, A13, A57, A58, Dbs, app_at, app_at0, app_set, app_set0, gbF, gsF, Nat.add_assoc, eI, hx, hj, hL, h11, Int.add_assoc, -getElem?_pos, gZ, gS]))
     have hcs : ((a + (j + 1) : Nat) : Int) = (a : Int) + ((j : Int) + 1) := by omega
     refine Cih (Cm - 1) _ _ _ (by omega) ⟨jj + 1, a + (j + 1), sm + csB w s r a (j + 1), Z ++ [?_, ?_, ?_, Blk.dfr true, ?_], (X.length + (Z.length + 5)) :: ns, by simp [C3, C9, C10, C11, C12, C13, C17, C18, C78, C79, C80, A3, A9, A10, A11, A12, A13, A57, A58], by simp [C3, C9, C10, C11, C12, C13, C17, C18, C78, C79, C80, A3, A9, A10, A11, A12, A13, A57, A58], by simp [C3, C9, C10, C11, C12, C13, C17, C18, C78, C79, C80, A3, A9, A10, A11, A12, A13, A57, A58], by simp [C3, C9, C10, C11, C12, C13, C17, C18, C78, C79, C80, A3, A9, A10, A11, A12, A13, A57, A58], by simp [C3, C9, C10, C11, C12, C13, C17, C18, C78, C79, C80, A3, A9, A10, A11, A12, A13, A57, A58], by simp [C3, C9, C10, C11, C12, C13, C17, C18, C78, C79, C80, A3, A9, A10, A11, A12, A13, A57, A58], by simp [C3, C9, C10, C11, C12, C13, C17, C18, C78, C79, C80, A3, A9, A10, A11, A12, A13, A57, A58], by simp [C3, C9, C10, C11, C12, C13, C17, C18, C78, C79, C80, A3, A9, A10, A11, A12, A13, A57, A58], by simp [C3, C9, C10, C11, C12, C13, C17, C18, C78, C79, C80, A3, A9, A10, A11, A12, A13, A57, A58], by simp [C3, C9, C10, C11, C12, C13, C17, C18, C78, C79, C80, A3, A9, A10, A11, A12, A13, A57, A58], by simp, ?_, hdr3, by omega, by omega, by omega, by omega, hmk2.turnNew, ?_⟩
     rotate_left 4
     ·rw [hcs]
      first
       | rw [hc1 (by omega), Int.add_zero]; done
       | rw [hc2 (by omega)]; done
       | (rw [hc1 (by omega), Int.add_zero]; exact rfl)
       | (rw [hc2 (by omega)]; exact rfl)
     ·rw [mkD_cons]; congr 2
   ·have hnk : ((a : Int) + j + 1 = a + k) = False := eq_false (by omega)
    repeat' (first|((first|refine wA ?_ ?_|refine wB ?_ ?_)<;>intro hc<;>try simp at hc)|refine wF ?_|refine wY ?_|refine wL ?_|refine owe ?_ fun ho=>?_|(simp (disch := first|exact DD|fail) [D0, D1, D2, D4, D5, Dbs, C3, C9, C10, C11, C12, C13, C17, C18, C78, C79, C80, A3, A9, A10, A11, A12, A13, A57, A58, Dbs, app_at, app_at0, gbF, gsF, Nat.add_assoc, eI, hx, hj, hL, h11, hnk, -getElem?_pos, gZ, gS]))
    all_goals exact Dih (Dm - 1) _ _ (by omega) ⟨j + 1, by simp [D0, D1, D2, D4, D5, Dbs, C3, C9, C10, C11, C12, C13, C17, C18, C78, C79, C80, A3, A9, A10, A11, A12, A13, A57, A58, Dbs, Int.add_assoc], by simp [D0, D1, D2, D4, D5, Dbs, C3, C9, C10, C11, C12, C13, C17, C18, C78, C79, C80, A3, A9, A10, A11, A12, A13, A57, A58, Dbs, Int.add_assoc], by simp [D0, D1, D2, D4, D5, Dbs, C3, C9, C10, C11, C12, C13, C17, C18, C78, C79, C80, A3, A9, A10, A11, A12, A13, A57, A58, Dbs, Int.add_assoc], by simp [D0, D1, D2, D4, D5, Dbs, C3, C9, C10, C11, C12, C13, C17, C18, C78, C79, C80, A3, A9, A10, A11, A12, A13, A57, A58, Dbs, Int.add_assoc], by simp [D0, D1, D2, D4, D5, Dbs, C3, C9, C10, C11, C12, C13, C17, C18, C78, C79, C80, A3, A9, A10, A11, A12, A13, A57, A58, Dbs, Int.add_assoc], by simp [D0, D1, D2, D4, D5, Dbs, C3, C9, C10, C11, C12, C13, C17, C18, C78, C79, C80, A3, A9, A10, A11, A12, A13, A57, A58, Dbs, Int.add_assoc], by omega, by omega, by omega⟩
  ·have hae : a = w.length := by
    rcases Nat.lt_or_ge a w.length with h | h
    ·obtain ⟨k, _, _, k3, _⟩ := hS.step a (Nat.zero_le _) h
     rw [List.drop_eq_nil_of_le (by omega), k3, List.reverse_append] at hdr
     cases hdr
    ·omega
   subst hae
   have hsm : sm = costB w s r 0 := by have := hS.hn; omega
   subst hsm
   repeat' (first | ((first | refine wA ?_ ?_ | refine wB ?_ ?_) <;> intro hc <;> try simp at hc) | (refine wp_drawT _ (by kernel_rfl) ?_) | refine wY ?_ | refine wL ?_ | refine owe ?_ fun ho => ?_ | (simp (disch := first|exact DD|fail) [C3, C9, C10, C11, C12, C13, C17, C18, C78, C79, C80, A3, A9, A10, A11, A12, A13, A57, A58, hb4, hq0, eI, app_at, app_at0, Nat.add_assoc, -getElem?_pos, gZ, gS]))
   obtain ⟨bs', l1, l2⟩ := hmk2.leave (D := Di cfg) (m := .ret) (ts := Ch.ts) (L := [.cells [R fl0 eI P], .cells [.bool true], .cells [.int .i64 0], .cells [R fl0 eI w, .int .i64 s, .int .i64 r]]) (R := []) (k := 4) rfl
   have l3 := l2 1 _ rfl
   have l4 := l2 2 _ rfl
   simp only [List.cons_append, List.append_assoc, List.append_nil, List.nil_append] at l1
   simp (disch := first|exact DD|fail) [-getElem?_pos, gZ, gS, l1, l3, l4]
@[simp] theorem S11 (w : List Int) (s r : Int) (hw : wOk w s r) (q1 q2 q3 : Fl) (hh : Heap) : Ci cfg (.func (.func 11) [] []) [R  q1 eI w, .int .i64 s, .int .i64 r, R  q2 eI (pathB w s r), R  q3 eI (prfB w s r)] hh = some (.ret (.tuple [.bool true, .int .i64 0]), hh) :=
 Ci_K cfg rfl rfl (by simp) (by simp) (C11 w s r hw)
end Go.Ab
