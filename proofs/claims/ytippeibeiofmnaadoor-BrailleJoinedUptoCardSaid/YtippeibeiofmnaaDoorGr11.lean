/- A part of the proof. -/
import Derived.Test.YtippeibeiofmnaaDoorGr10
set_option linter.unusedVariables false
set_option linter.unusedSimpArgs false
set_option linter.unusedSectionVars false
set_option linter.deprecated false
namespace Go.Ab
open Go.Proofs
set_option maxRecDepth 100000
theorem preI_iff {p s : List Int} : preI p s = true ↔ p <+: s := by simp [preI]
theorem preI_len {p s : List Int} {i : Nat} (h : preI p (s.drop i) = true) : p.length ≤ s.length - i := by
 have := (preI_iff.1 h).length_le
 rwa [List.length_drop] at this
def cntZ (t : List Sgn) (s : List Int) (L : List Int) (i : Nat) : Nat → Int × Nat
 | 0 => (0, 0)
 | k + 1 => if preI (nth t k).cells (s.drop i) = true ∧ 0 < nth L (i + cellZ t k) then (min 2 ((cntZ t s L i k).1 + nth L (i + cellZ t k)), k) else cntZ t s L i k
def manyL (t : List Sgn) : List Int → List Int
 | [] => [1]
 | c :: u => (cntZ t (c :: u) (0 :: manyL t u) 0 t.length).1 :: manyL t u
theorem manyL_len (t : List Sgn) : ∀ s : List Int, (manyL t s).length = s.length + 1
 | [] => rfl
 | b :: u => by rw [manyL, List.length_cons, manyL_len t u, List.length_cons]
theorem manyL_drop (t : List Sgn) : ∀ (s : List Int) (i : Nat), i ≤ s.length → (manyL t s).drop i = manyL t (s.drop i)
 | s, 0, _ => rfl
 | [], i + 1, h => by simp at h
 | b :: u, i + 1, h => by
  rw [manyL, List.drop_succ_cons, List.drop_succ_cons]
  exact manyL_drop t u i (by simpa using h)
theorem cntZ_congr {t : List Sgn} {s s2 : List Int} {L L2 : List Int} {i i2 : Nat} (hs : s.drop i = s2.drop i2) : ∀ k, (∀ j, j < k → 0 < cellZ t j) → (∀ d, 0 < d → nth L (i + d) = nth L2 (i2 + d)) → cntZ t s L i k = cntZ t s2 L2 i2 k
 | 0, _, _ => rfl
 | k + 1, h0, h => by
  rw [cntZ, cntZ, cntZ_congr hs k (fun j hj => h0 j (by omega)) h, hs, h _ (h0 k (by omega))]
theorem many_at {t : List Sgn} {s : List Int} (h0 : ∀ j, j < t.length → 0 < cellZ t j) {i : Nat} (hi : i < s.length) : nth (manyL t s) i = (cntZ t s (manyL t s) i t.length).1 := by
 have h1 : nth (manyL t s) i = nth ((manyL t s).drop i) 0 := by rw [nth_dropZ]; rfl
 rw [h1, manyL_drop t s i (by omega)]
 obtain ⟨b, u, hu⟩ : ∃ b u, s.drop i = b :: u := by
  cases h : s.drop i with
  | nil => have := congrArg List.length h; rw [List.length_drop] at this; simp at this; omega
  | cons b u => exact ⟨b, u, rfl⟩
 rw [hu, manyL]
 show (cntZ t (b :: u) (0 :: manyL t u) 0 t.length).1 = _
 congr 1
 refine cntZ_congr (by rw [List.drop_zero, hu]) _ h0 (fun d hd => ?_)
 have h2 : manyL t u = (manyL t s).drop (i + 1) := by
  rw [manyL_drop t s (i + 1) (by omega), ← List.drop_drop, hu]; rfl
 obtain ⟨e, rfl⟩ : ∃ e, d = e + 1 := ⟨d - 1, by omega⟩
 rw [Nat.zero_add]
 show nth (manyL t u) e = _
 rw [h2, nth_dropZ]
 congr 1; omega
theorem many_end (t : List Sgn) (s : List Int) : nth (manyL t s) s.length = 1 := by
 have h1 : nth (manyL t s) s.length = nth ((manyL t s).drop s.length) 0 := by rw [nth_dropZ]; rfl
 rw [h1, manyL_drop t s s.length (Nat.le_refl _), List.drop_length]; rfl
theorem cntZ_range {t : List Sgn} {s : List Int} {L : List Int} {i : Nat} : ∀ k, 0 ≤ (cntZ t s L i k).1 ∧ (cntZ t s L i k).1 ≤ 2
 | 0 => by simp [cntZ]
 | k + 1 => by
  have := cntZ_range (t := t) (s := s) (L := L) (i := i) k
  rw [cntZ]
  split
  ·rename_i h
   simp only
   rw [Int.min_def]
   split <;> omega
  ·exact this
theorem many_all (t : List Sgn) : ∀ (s : List Int) (j : Nat), 0 ≤ nth (manyL t s) j ∧ nth (manyL t s) j ≤ 2
 | [], 0 => by show (0 : Int) ≤ 1 ∧ (1 : Int) ≤ 2; omega
 | [], j + 1 => by show (0 : Int) ≤ 0 ∧ (0 : Int) ≤ 2; omega
 | b :: u, 0 => cntZ_range _
 | b :: u, j + 1 => many_all t u j
def Fac (t : List Sgn) (s : List Int) (l : List Nat) : Prop := (∀ k ∈ l, k < t.length) ∧ cellsZ t l = s
def Cnt (n : Int) (P : List Nat → Prop) : Prop := (n = 0 ∧ ∀ l, ¬ P l) ∨ (n = 1 ∧ ∃ l, P l ∧ ∀ l', P l' → l' = l) ∨ (n = 2 ∧ ∃ l l', l ≠ l' ∧ P l ∧ P l')
theorem Cnt.congr {n : Int} {P Q : List Nat → Prop} (h : Cnt n P) (e : ∀ l, P l ↔ Q l) : Cnt n Q := by
 have : P = Q := by funext l; exact propext (e l)
 rwa [this] at h
theorem Cnt.add {a b : Int} {P Q : List Nat → Prop} (ha : Cnt a P) (hb : Cnt b Q) (hd : ∀ l, P l → Q l → False) : Cnt (min 2 (a + b)) fun l => P l ∨ Q l := by
 rcases ha with ⟨rfl, h1⟩ | ⟨rfl, x, h1, h2⟩ | ⟨rfl, x, y, h1, h2, h3⟩
 ·rcases hb with ⟨rfl, k1⟩ | ⟨rfl, u, k1, k2⟩ | ⟨rfl, u, v, k1, k2, k3⟩
  ·exact .inl ⟨rfl, fun l h => h.elim (h1 l) (k1 l)⟩
  ·exact .inr (.inl ⟨rfl, u, .inr k1, fun l h => h.elim (fun e => absurd e (h1 l)) (k2 l)⟩)
  ·exact .inr (.inr ⟨rfl, u, v, k1, .inr k2, .inr k3⟩)
 ·rcases hb with ⟨rfl, k1⟩ | ⟨rfl, u, k1, k2⟩ | ⟨rfl, u, v, k1, k2, k3⟩
  ·exact .inr (.inl ⟨rfl, x, .inl h1, fun l h => h.elim (h2 l) (fun e => absurd e (k1 l))⟩)
  ·exact .inr (.inr ⟨rfl, x, u, fun e => hd x h1 (e ▸ k1), .inl h1, .inr k1⟩)
  ·exact .inr (.inr ⟨rfl, u, v, k1, .inr k2, .inr k3⟩)
 ·refine .inr (.inr ⟨?_, x, y, h1, .inl h2, .inl h3⟩)
  rcases hb with ⟨rfl, _⟩ | ⟨rfl, _⟩ | ⟨rfl, _⟩ <;> rfl
theorem fac_cons {t : List Sgn} {s : List Int} {i k : Nat} {r : List Nat} : Fac t (s.drop i) (k :: r) ↔ k < t.length ∧ preI (nth t k).cells (s.drop i) = true ∧ Fac t (s.drop (i + cellZ t k)) r := by
 unfold Fac
 rw [cellsZ_cons, preI_iff]
 constructor
 ·rintro ⟨h1, h2⟩
  refine ⟨h1 k List.mem_cons_self, ⟨_, h2⟩, fun x hx => h1 x (List.mem_cons_of_mem _ hx), ?_⟩
  rw [← List.drop_drop, ← h2]
  show _ = List.drop (nth t k).cells.length _
  rw [List.drop_left]
 ·rintro ⟨h1, ⟨z, hz⟩, h2, h3⟩
  refine ⟨fun x hx => ?_, ?_⟩
  ·rcases List.mem_cons.1 hx with rfl | hx
   ·exact h1
   ·exact h2 x hx
  ·rw [h3, ← List.drop_drop, ← hz]
   show _ ++ List.drop (nth t k).cells.length _ = _
   rw [List.drop_left]
theorem cnt_heads {t : List Sgn} {s : List Int} {i : Nat} (ih : ∀ k, k < t.length → preI (nth t k).cells (s.drop i) = true → Cnt (nth (manyL t s) (i + cellZ t k)) (Fac t (s.drop (i + cellZ t k)))) :
  ∀ m, m ≤ t.length → Cnt (cntZ t s (manyL t s) i m).1 (fun l => ∃ k r, l = k :: r ∧ k < m ∧ Fac t (s.drop i) l)
 | 0, _ => .inl ⟨rfl, fun l ⟨k, r, _, h, _⟩ => by omega⟩
 | m + 1, hm => by
  have h1 := cnt_heads ih m (by omega)
  have hr := many_all t s (i + cellZ t m)
  by_cases hp : preI (nth t m).cells (s.drop i) = true
  ·have h2 := ih m (by omega) hp
   have h3 : Cnt (nth (manyL t s) (i + cellZ t m)) (fun l => ∃ r, l = m :: r ∧ Fac t (s.drop i) l) := by
    rcases h2 with ⟨e, k1⟩ | ⟨e, u, k1, k2⟩ | ⟨e, u, v, k1, k2, k3⟩
    ·exact .inl ⟨e, fun l ⟨r, hl, hf⟩ => by subst hl; exact k1 r (fac_cons.1 hf).2.2⟩
    ·refine .inr (.inl ⟨e, m :: u, ⟨u, rfl, fac_cons.2 ⟨by omega, hp, k1⟩⟩, fun l ⟨r, hl, hf⟩ => ?_⟩)
     subst hl; rw [k2 r (fac_cons.1 hf).2.2]
    ·exact .inr (.inr ⟨e, m :: u, m :: v, fun e => k1 (List.cons.inj e).2, ⟨u, rfl, fac_cons.2 ⟨by omega, hp, k2⟩⟩, ⟨v, rfl, fac_cons.2 ⟨by omega, hp, k3⟩⟩⟩)
   have h4 := (h1.add h3 (fun l ⟨k, r, e1, e2, _⟩ ⟨r2, e3, _⟩ => by rw [e1] at e3; have := (List.cons.inj e3).1; omega)).congr (Q := fun l => ∃ k r, l = k :: r ∧ k < m + 1 ∧ Fac t (s.drop i) l) (fun l => by
    constructor
    ·rintro (⟨k, r, e1, e2, e3⟩ | ⟨r, e1, e2⟩)
     ·exact ⟨k, r, e1, by omega, e3⟩
     ·exact ⟨m, r, e1, by omega, e2⟩
    ·rintro ⟨k, r, e1, e2, e3⟩
     by_cases e : k = m
     ·subst e; exact .inr ⟨r, e1, e3⟩
     ·exact .inl ⟨k, r, e1, by omega, e3⟩)
   rw [cntZ]
   split
   ·exact h4
   ·rename_i hn
    have hz : nth (manyL t s) (i + cellZ t m) = 0 := by
     rcases Int.lt_or_le 0 (nth (manyL t s) (i + cellZ t m)) with h | h
     ·exact absurd ⟨hp, h⟩ hn
     ·omega
    have hc := cntZ_range (t := t) (s := s) (L := manyL t s) (i := i) m
    rw [hz, Int.add_zero, Int.min_def] at h4
    split at h4
    ·have : (cntZ t s (manyL t s) i m).1 = 2 := by omega
     rw [this]; exact h4
    ·exact h4
  ·rw [cntZ, if_neg (fun e => hp e.1)]
   refine h1.congr (fun l => ?_)
   constructor
   ·rintro ⟨k, r, e1, e2, e3⟩; exact ⟨k, r, e1, by omega, e3⟩
   ·rintro ⟨k, r, e1, e2, e3⟩
    refine ⟨k, r, e1, ?_, e3⟩
    have : k ≠ m := by
     rintro rfl
     rw [e1] at e3
     exact hp (fac_cons.1 e3).2.1
    omega
theorem many_fac {t : List Sgn} {s : List Int} (h0 : ∀ j, j < t.length → 0 < cellZ t j) : ∀ (n i : Nat), i ≤ s.length → s.length - i ≤ n → Cnt (nth (manyL t s) i) (Fac t (s.drop i))
 | n, i, hi, hn => by
  by_cases he : i = s.length
  ·subst he
   rw [many_end, List.drop_length]
   refine .inr (.inl ⟨rfl, [], ⟨fun k hk => (by cases hk), rfl⟩, fun l ⟨h1, h2⟩ => ?_⟩)
   cases l with
   | nil => rfl
   | cons k r =>
    have := congrArg List.length h2
    rw [cellsZ_cons, List.length_append] at this
    have h3 := h0 k (h1 k List.mem_cons_self)
    unfold cellZ at h3
    simp only [List.length_nil] at this; omega
  ·cases n with
   | zero => omega
   | succ n =>
    have h1 := cnt_heads (t := t) (s := s) (i := i) (fun k hk hp => by
     have h3 := h0 k hk
     have h4 : cellZ t k ≤ s.length - i := preI_len hp
     exact many_fac h0 n (i + cellZ t k) (by omega) (by omega)) t.length (Nat.le_refl _)
    rw [← many_at h0 (by omega)] at h1
    refine h1.congr (fun l => ?_)
    constructor
    ·rintro ⟨k, r, _, _, h⟩; exact h
    ·intro h
     cases l with
     | nil =>
      have := congrArg List.length h.2
      rw [List.length_drop] at this
      simp [cellsZ] at this; omega
     | cons k r => exact ⟨k, r, rfl, h.1 k List.mem_cons_self, h⟩
def nextZ (t : List Sgn) (s : List Int) (i : Nat) : Nat := (cntZ t s (manyL t s) i t.length).2
def pathD (t : List Sgn) (s : List Int) : Nat → Nat → List Nat
 | 0, _ => []
 | f + 1, i => if i < s.length then nextZ t s i :: pathD t s f (i + cellZ t (nextZ t s i)) else []
theorem cnt_none {t : List Sgn} {s L : List Int} {i : Nat} : ∀ m, (cntZ t s L i m).1 = 0 → ∀ j, j < m → preI (nth t j).cells (s.drop i) = true → ¬ 0 < nth L (i + cellZ t j)
 | 0, _, j, hj, _ => by omega
 | m + 1, h, j, hj, hp => by
  have hr := cntZ_range (t := t) (s := s) (L := L) (i := i) m
  rw [cntZ] at h
  split at h
  ·rename_i hc
   simp only at h
   rw [Int.min_def] at h
   split at h <;> omega
  ·rename_i hc
   by_cases e : j = m
   ·subst e; exact fun h2 => hc ⟨hp, h2⟩
   ·exact cnt_none m h j (by omega) hp
theorem cnt_one {t : List Sgn} {s L : List Int} {i : Nat} : ∀ m, (cntZ t s L i m).1 = 1 → (cntZ t s L i m).2 < m ∧ preI (nth t (cntZ t s L i m).2).cells (s.drop i) = true ∧ nth L (i + cellZ t (cntZ t s L i m).2) = 1 ∧
  ∀ j, j < m → preI (nth t j).cells (s.drop i) = true → 0 < nth L (i + cellZ t j) → j = (cntZ t s L i m).2
 | 0, h => by simp [cntZ] at h
 | m + 1, h => by
  have hr := cntZ_range (t := t) (s := s) (L := L) (i := i) m
  rw [cntZ] at h ⊢
  split at h
  ·rename_i hc
   rw [if_pos hc]
   simp only at h ⊢
   rw [Int.min_def] at h
   split at h
   ·omega
   ·have hz : (cntZ t s L i m).1 = 0 := by omega
    refine ⟨by omega, hc.1, by omega, fun j hj hp hn => ?_⟩
    by_cases e : j = m
    ·exact e
    ·exact absurd hn (cnt_none m hz j (by omega) hp)
  ·rename_i hc
   rw [if_neg hc]
   obtain ⟨h1, h2, h3, h4⟩ := cnt_one m h
   refine ⟨by omega, h2, h3, fun j hj hp hn => ?_⟩
   by_cases e : j = m
   ·subst e; exact absurd ⟨hp, hn⟩ hc
   ·exact h4 j (by omega) hp hn
theorem read_step {t : List Sgn} {s : List Int} (h0 : ∀ j, j < t.length → 0 < cellZ t j) {i : Nat} (hi : i < s.length) (hn : nth (manyL t s) i = 1) :
  nextZ t s i < t.length ∧ i + cellZ t (nextZ t s i) ≤ s.length ∧ 0 < cellZ t (nextZ t s i) ∧ nth (manyL t s) (i + cellZ t (nextZ t s i)) = 1 ∧ preI (nth t (nextZ t s i)).cells (s.drop i) = true ∧
  ∀ j, j < t.length → preI (nth t j).cells (s.drop i) = true → 0 < nth (manyL t s) (i + cellZ t j) → j = nextZ t s i := by
 rw [many_at h0 hi] at hn
 obtain ⟨h1, h2, h3, h4⟩ := cnt_one t.length hn
 have hl := preI_len h2
 refine ⟨h1, ?_, h0 _ h1, h3, h2, h4⟩
 show i + (nth t (cntZ t s (manyL t s) i t.length).2).cells.length ≤ s.length
 omega
theorem read_all {t : List Sgn} {s : List Int} (h0 : ∀ j, j < t.length → 0 < cellZ t j) : ∀ (f i : Nat), s.length ≤ i + f → i ≤ s.length → nth (manyL t s) i = 1 → Fac t (s.drop i) (pathD t s f i)
 | 0, i, hf, hi, _ => by
  obtain rfl : i = s.length := by omega
  exact ⟨fun k hk => (by cases hk), (by rw [List.drop_length]; rfl)⟩
 | f + 1, i, hf, hi, hn => by
  rw [pathD]
  by_cases h : i < s.length
  ·rw [if_pos h]
   obtain ⟨p1, p2, p3, p4, p5, p6⟩ := read_step h0 h hn
   exact fac_cons.2 ⟨p1, p5, read_all h0 f _ (by omega) p2 p4⟩
  ·rw [if_neg h]
   obtain rfl : i = s.length := by omega
   exact ⟨fun k hk => (by cases hk), (by rw [List.drop_length]; rfl)⟩
def decodeZ (t : List Sgn) (s : List Int) : Wd × Bool × Int :=
 if ¬ checkZ t = 0 then ([], false, checkZ t)
 else if 4096 < s.length then ([], false, 2)
 else if dotsL s = false then ([], false, 120)
 else if ¬ nth (manyL t s) 0 = 1 then ([], false, 0)
 else if 4096 < (textZ t (pathD t s s.length 0)).length then ([], false, 2)
 else (textZ t (pathD t s s.length 0), true, 0)
end Go.Ab
namespace Go.Ab
open Go.Proofs
set_option maxRecDepth 100000
set_option maxHeartbeats 4000000
theorem C15 (a b : List Int) (hs : a.length < 1099511627776) : Kc cfg 15 [R fl0 eI a, R fl0 eI b] (.ret (.bool (decide (a = b)))) := by
 refine outS_of_wp cfg (fn := Tryd.f15) Tryd.func15 rfl (by simp [Tryd.f15]) ?_
 simp (disch := first | assumption | omega | (simp; done) | (simp; omega)) [-getElem?_pos, gZ, gS, Tryd.f15]
 repeat' (first | ((first | refine wpc_split _ ?_ ?_ | refine ww_split _ ?_ ?_) <;> intro hc <;> try simp at hc) | (refine wp_drawF (by kernel_rfl) ?_) | refine wk_yldW _ ?_ | refine layOwe _ (by kernel_rfl) ?_ | refine owe ?_ (fun ho => ?_) | (simp (disch := first | assumption | omega | (simp; done) | (simp; omega)) [-getElem?_pos, gZ, gS]))
 ·intro h; rw [h] at hc; simp at hc
 refine wp_loopE cfg rfl (fun f0 h0 m fr h => ∃ i : Nat, fr 0 = f0 0 ∧ fr 1 = f0 1 ∧ fr 5 = .int .i64 i ∧ h.bs = h0.bs ∧ (i + m = a.length) ∧ (a.take i = b.take i)) (a.length) _ _ ⟨0, rfl, rfl, by first | rfl | (simp; done) | (simp [R]; done) | simp [R], rfl, by first | rfl | (simp; done) | omega, by simp⟩ ?_
 rintro Am Af Ah ⟨i, A0, A1, A5, Abs, hm, ht⟩ Aih
 try simp at A0 A1 Abs
 repeat' (first | ((first | refine wpc_split _ ?_ ?_ | refine ww_split _ ?_ ?_) <;> intro hc <;> try simp at hc) | (refine wp_drawF (by kernel_rfl) ?_) | refine wk_yldW _ ?_ | refine layOwe _ (by kernel_rfl) ?_ | refine owe ?_ (fun ho => ?_) | (simp (disch := first | assumption | omega | (simp; done) | (simp; omega)) [A0, A1, A5, Abs, eI, -getElem?_pos, gZ, gS]))
 ·intro h; rw [h] at hc; simp at hc
 ·exact Aih (Am - 1) _ _ (by omega) ⟨i + 1, by simp [A0, A1, A5, Abs], by simp [A0, A1, A5, Abs], by simp [A0, A1, A5, Abs], by simp [A0, A1, A5, Abs], by omega, take_next (by omega) (by omega) ht hc⟩
 ·have : i = a.length := by omega
  subst this
  rw [List.take_length, List.take_of_length_le (by omega)] at ht
  exact ht
@[simp] theorem S15 (a b : List Int) (hs : a.length < 1099511627776) (q1 q2 : Fl) (hh : Heap) : Ci cfg (.func (.func 15) [] []) [R  q1 eI a, R  q2 eI b] hh = some (.ret (.bool (decide (a = b))), hh) :=
 Ci_K cfg rfl rfl (by simp) (by simp) (C15 a b hs)
theorem C42 (l p : List Int) (hs : l.length < 1099511627776) (hp : p.length < 1099511627776) : Kc cfg 42 [R fl0 eI l, R fl0 eI p] (.ret (.bool (preI p l))) := by
 by_cases h : p.length ≤ l.length
 ·have hF : preI p l = decide (l.take p.length = p) := by
   unfold preI
   rw [decide_eq_decide]
   constructor
   ·rintro ⟨r, rfl⟩; simp
   ·intro e; rw [← e]; exact List.take_prefix _ _
  have hlt : (l.take p.length).length < 1099511627776 := by rw [List.length_take]; omega
  rw [hF]
  refine outS_of_wp cfg (fn := Tryd.f42) Tryd.func42 rfl (by simp [Tryd.f42]) ?_
  simp (disch := first | assumption | omega | (simp; done) | (simp; omega)) [-getElem?_pos, gZ, gS, Tryd.f42, h, hlt]
  repeat' (first | ((first | refine wpc_split _ ?_ ?_ | refine ww_split _ ?_ ?_) <;> intro hc <;> try simp at hc) | (refine wp_drawF (by kernel_rfl) ?_) | refine wk_yldW _ ?_ | refine layOwe _ (by kernel_rfl) ?_ | refine owe ?_ (fun ho => ?_) | (simp (disch := first | assumption | omega | (simp; done) | (simp; omega)) [h, hlt, -getElem?_pos, gZ, gS]))
  all_goals try (exfalso; omega)
 ·have hF : preI p l = false := by
   unfold preI
   rw [decide_eq_false_iff_not]
   intro e; exact h e.length_le
  rw [hF]
  refine outS_of_wp cfg (fn := Tryd.f42) Tryd.func42 rfl (by simp [Tryd.f42]) ?_
  simp (disch := first | assumption | omega | (simp; done) | (simp; omega)) [-getElem?_pos, gZ, gS, Tryd.f42, h]
  repeat' (first | ((first | refine wpc_split _ ?_ ?_ | refine ww_split _ ?_ ?_) <;> intro hc <;> try simp at hc) | (refine wp_drawF (by kernel_rfl) ?_) | refine wk_yldW _ ?_ | refine layOwe _ (by kernel_rfl) ?_ | refine owe ?_ (fun ho => ?_) | (simp (disch := first | assumption | omega | (simp; done) | (simp; omega)) [h, -getElem?_pos, gZ, gS]))
  all_goals try (exfalso; omega)
@[simp] theorem S42 (l p : List Int) (hs : l.length < 1099511627776) (hp : p.length < 1099511627776) (q1 q2 : Fl) (hh : Heap) : Ci cfg (.func (.func 42) [] []) [R  q1 eI l, R  q2 eI p] hh = some (.ret (.bool (preI p l)), hh) :=
 Ci_K cfg rfl rfl (by simp) (by simp) (C42 l p hs hp)
theorem befZ_at : ∀ {a b : List Int} {i : Nat}, a.take i = b.take i → i < a.length → i < b.length → nth a i ≠ nth b i → befZ a b = decide (nth a i < nth b i)
 | [], _, _, _, h, _, _ => by simp at h
 | _ :: _, [], _, _, _, h, _ => by simp at h
 | x :: a, y :: b, 0, _, _, _, h => by
  have h : ¬ x = y := h
  rw [befZ, if_neg h]; rfl
 | x :: a, y :: b, i + 1, ht, h1, h2, h => by
  simp only [List.take_succ_cons, List.cons.injEq] at ht
  rw [befZ, if_pos ht.1]
  exact befZ_at ht.2 (by simpa using h1) (by simpa using h2) h
theorem befZ_end : ∀ {a b : List Int} {i : Nat}, a.take i = b.take i → ¬ (i < a.length ∧ i < b.length) → i ≤ a.length → i ≤ b.length → befZ a b = decide (a.length < b.length)
 | [], [], _, _, _, _, _ => by simp [befZ]
 | [], _ :: _, _, _, _, _, _ => by simp [befZ]
 | _ :: _, [], _, _, _, _, _ => by simp [befZ]
 | x :: a, y :: b, 0, _, h, _, _ => by simp at h
 | x :: a, y :: b, i + 1, ht, h, h1, h2 => by
  simp only [List.take_succ_cons, List.cons.injEq] at ht
  rw [befZ, if_pos ht.1, befZ_end ht.2 (by simpa using h) (by simpa using h1) (by simpa using h2)]
  simp
theorem C25 (a b : List Int) (hs : a.length < 1099511627776) (hb : b.length < 1099511627776) : Kc cfg 25 [R fl0 eI a, R fl0 eI b] (.ret (.bool (befZ a b))) := by
 have kat := fun i => befZ_at (a := a) (b := b) (i := i)
 have kend := fun i => befZ_end (a := a) (b := b) (i := i)
 generalize hF : befZ a b = F at *
 refine outS_of_wp cfg (fn := Tryd.f25) Tryd.func25 rfl (by simp [Tryd.f25]) ?_
 simp (disch := first | assumption | omega | (simp; done) | (simp; omega)) [-getElem?_pos, gZ, gS, Tryd.f25]
 repeat' (first | ((first | refine wpc_split _ ?_ ?_ | refine ww_split _ ?_ ?_) <;> intro hc <;> try simp at hc) | (refine wp_drawF (by kernel_rfl) ?_) | refine wk_yldW _ ?_ | refine layOwe _ (by kernel_rfl) ?_ | refine owe ?_ (fun ho => ?_) | (simp (disch := first | assumption | omega | (simp; done) | (simp; omega)) [-getElem?_pos, gZ, gS]))
 refine wp_loopE cfg rfl (fun f0 h0 m fr h => ∃ i : Nat, fr 0 = f0 0 ∧ fr 1 = f0 1 ∧ fr 5 = .int .i64 i ∧ h.bs = h0.bs ∧ (i + m = a.length) ∧ (a.take i = b.take i) ∧ (i ≤ b.length)) (a.length) _ _ ⟨0, rfl, rfl, by first | rfl | (simp; done) | (simp [R]; done) | simp [R], rfl, by first | rfl | (simp; done) | omega, by simp, by first | rfl | (simp; done) | omega⟩ ?_
 rintro Am Af Ah ⟨i, A0, A1, A5, Abs, hm, ht, hib⟩ Aih
 try simp at A0 A1 Abs
 by_cases hi : i < a.length ∧ i < b.length
 ·obtain ⟨h1, h2⟩ := hi
  by_cases he : nth a i = nth b i
  ·repeat' (first | ((first | refine wpc_split _ ?_ ?_ | refine ww_split _ ?_ ?_) <;> intro hc <;> try simp at hc) | (refine wp_drawF (by kernel_rfl) ?_) | refine wk_yldW _ ?_ | refine layOwe _ (by kernel_rfl) ?_ | refine owe ?_ (fun ho => ?_) | (simp (disch := first | assumption | omega | (simp; done) | (simp; omega)) [A0, A1, A5, Abs, eI, h1, h2, he, -getElem?_pos, gZ, gS]))
   all_goals try (exfalso; omega)
   exact Aih (Am - 1) _ _ (by omega) ⟨i + 1, by simp [A0, A1, A5, Abs], by simp [A0, A1, A5, Abs], by simp [A0, A1, A5, Abs], by simp [A0, A1, A5, Abs], by omega, take_next h1 h2 ht he, by omega⟩
  ·rw [kat i ht h1 h2 he]
   repeat' (first | ((first | refine wpc_split _ ?_ ?_ | refine ww_split _ ?_ ?_) <;> intro hc <;> try simp at hc) | (refine wp_drawF (by kernel_rfl) ?_) | refine wk_yldW _ ?_ | refine layOwe _ (by kernel_rfl) ?_ | refine owe ?_ (fun ho => ?_) | (simp (disch := first | assumption | omega | (simp; done) | (simp; omega)) [A0, A1, A5, Abs, eI, h1, h2, he, -getElem?_pos, gZ, gS]))
   all_goals try (exfalso; omega)
 ·rw [kend i ht hi (by omega) hib]
  repeat' (first | ((first | refine wpc_split _ ?_ ?_ | refine ww_split _ ?_ ?_) <;> intro hc <;> try simp at hc) | (refine wp_drawF (by kernel_rfl) ?_) | refine wk_yldW _ ?_ | refine layOwe _ (by kernel_rfl) ?_ | refine owe ?_ (fun ho => ?_) | (simp (disch := first | assumption | omega | (simp; done) | (simp; omega)) [A0, A1, A5, Abs, eI, -getElem?_pos, gZ, gS]))
  all_goals try (exfalso; omega)
@[simp] theorem S25 (a b : List Int) (hs : a.length < 1099511627776) (hb : b.length < 1099511627776) (q1 q2 : Fl) (hh : Heap) : Ci cfg (.func (.func 25) [] []) [R  q1 eI a, R  q2 eI b] hh = some (.ret (.bool (befZ a b)), hh) :=
 Ci_K cfg rfl rfl (by simp) (by simp) (C25 a b hs hb)
theorem C16 (l : List Int) (hs : l.length < 1099511627776) : Kc cfg 16 [R fl0 eI l] (.ret (.bool (decide (l.length ≤ 40 ∨ 4096 < l.length ∧ l.length ≤ 5000)))) := by
 refine outS_of_wp cfg (fn := Tryd.f16) Tryd.func16 rfl (by simp [Tryd.f16]) ?_
 simp (disch := first | assumption | omega | (simp; done) | (simp; omega)) [-getElem?_pos, gZ, gS, Tryd.f16]
 repeat' (first | ((first | refine wpc_split _ ?_ ?_ | refine ww_split _ ?_ ?_) <;> intro hc <;> try simp at hc) | (refine wp_drawF (by kernel_rfl) ?_) | refine wk_yldW _ ?_ | refine layOwe _ (by kernel_rfl) ?_ | refine owe ?_ (fun ho => ?_) | (simp (disch := first | assumption | omega | (simp; done) | (simp; omega)) [-getElem?_pos, gZ, gS]))
 all_goals (first | omega | (simp; omega) | grind)
@[simp] theorem S16 (l : List Int) (hs : l.length < 1099511627776) (q1 : Fl) (hh : Heap) : Ci cfg (.func (.func 16) [] []) [R  q1 eI l] hh = some (.ret (.bool (decide (l.length ≤ 40 ∨ 4096 < l.length ∧ l.length ≤ 5000))), hh) :=
 Ci_K cfg rfl rfl (by simp) (by simp) (C16 l hs)
end Go.Ab
namespace Go.Ab
open Go.Proofs
set_option maxRecDepth 100000
set_option maxHeartbeats 4000000
def gM (t : List Sgn) (s : List Int) (j : Nat) : Nat → Int := fun v => if s.length ≤ v + j then nth (manyL t s) v else 0
theorem gM_zero (t : List Sgn) (s : List Int) : tab (s.length + 1) (cI (gM t s 0)) = tab (s.length + 1) (cI (updI (fun _ => 0) s.length 1)) := tab_ext fun v hv => by
 unfold cI gM updI
 congr 1
 by_cases e : v = s.length
 ·subst e; rw [if_pos (by omega), if_pos rfl]; exact many_end t s
 ·rw [if_neg (by omega), if_neg e]
theorem gM_step {t : List Sgn} {s : List Int} {i j : Nat} (h0 : ∀ j, j < t.length → 0 < cellZ t j) (hi : i + j + 1 = s.length) : tab (s.length + 1) (cI (updI (gM t s j) i (cntZ t s (manyL t s) i t.length).1)) = tab (s.length + 1) (cI (gM t s (j + 1))) := tab_ext fun v hv => by
 have hla2 := many_at (t := t) (s := s) h0 (i := i) (by omega)
 unfold cI updI gM
 congr 1
 by_cases e : v = i
 ·subst e; rw [if_pos rfl, if_pos (by omega), hla2]
 ·rw [if_neg e]
  by_cases e2 : s.length ≤ v + j
  ·rw [if_pos e2, if_pos (by omega)]
  ·rw [if_neg e2, if_neg (by omega)]
theorem cnt_step_same {t : List Sgn} {s L : List Int} {i k : Nat} (h : preI (nth t k).cells (s.drop i) = false) : cntZ t s L i (k + 1) = cntZ t s L i k := by
 rw [cntZ, if_neg (fun e => by rw [h] at e; cases e.1)]
theorem cnt_step_min {t : List Sgn} {s : List Int} {i k : Nat} (h : preI (nth t k).cells (s.drop i) = true) : (cntZ t s (manyL t s) i (k + 1)).1 = min 2 ((cntZ t s (manyL t s) i k).1 + nth (manyL t s) (i + cellZ t k)) := by
 have hr := cntZ_range (t := t) (s := s) (L := manyL t s) (i := i) k
 have hm := many_all t s (i + cellZ t k)
 rw [cntZ]
 split
 ·rfl
 ·rename_i hn
  have hz : ¬ 0 < nth (manyL t s) (i + cellZ t k) := fun e => hn ⟨h, e⟩
  rw [Int.min_def]
  split <;> omega
theorem C18 (t : List Sgn) (s : List Int) (hs : smZs t) (hs2 : s.length < 1099511627776) : Kc cfg 18 [R fl0 eZ t, R fl0 eI s] (.ret (.tuple [.str (decodeZ t s).1, .bool (decodeZ t s).2.1, .int .i64 (decodeZ t s).2.2])) := by
 have hs1 := hs.1
 by_cases hc : checkZ t = 0
 ·by_cases hlong : 4096 < s.length
  ·have hE : decodeZ t s = ([], false, 2) := by unfold decodeZ; rw [if_neg (by simp [hc]), if_pos hlong]
   rw [hE]
   refine outS_of_wp cfg (fn := Tryd.f18) Tryd.func18 rfl (by simp [Tryd.f18]) ?_
   simp (disch := first | assumption | omega | (simp; done) | (simp; omega)) [-getElem?_pos, gZ, gS, Tryd.f18, emptyH, hc]
   repeat' (first | ((first | refine wpc_split _ ?_ ?_ | refine ww_split _ ?_ ?_) <;> intro hc <;> try simp at hc) | (refine wp_drawF (by kernel_rfl) ?_) | refine wk_yldW _ ?_ | refine layOwe _ (by kernel_rfl) ?_ | refine owe ?_ (fun ho => ?_) | (simp (disch := first | assumption | omega | (simp; done) | (simp; omega)) [emptyH, hc, -getElem?_pos, gZ, gS]))
   all_goals try (exfalso; omega)
  ·cases hd : dotsL s with
   | false =>
    have hE : decodeZ t s = ([], false, 120) := by unfold decodeZ; rw [if_neg (by simp [hc]), if_neg hlong, if_pos hd]
    rw [hE]
    refine outS_of_wp cfg (fn := Tryd.f18) Tryd.func18 rfl (by simp [Tryd.f18]) ?_
    simp (disch := first | assumption | omega | (simp; done) | (simp; omega)) [-getElem?_pos, gZ, gS, Tryd.f18, emptyH, hc, hd]
    repeat' (first | ((first | refine wpc_split _ ?_ ?_ | refine ww_split _ ?_ ?_) <;> intro hc <;> try simp at hc) | (refine wp_drawF (by kernel_rfl) ?_) | refine wk_yldW _ ?_ | refine layOwe _ (by kernel_rfl) ?_ | refine owe ?_ (fun ho => ?_) | (simp (disch := first | assumption | omega | (simp; done) | (simp; omega)) [emptyH, hc, hd, -getElem?_pos, gZ, gS]))
    all_goals try (exfalso; omega)
   | true =>
    obtain ⟨c1, c2, c3⟩ := checkZ_zero hc
    have h0 : ∀ j, j < t.length → 0 < cellZ t j := fun j hj => (tab_cells hc j hj).1
    have hla := many_all t s
    refine outS_of_wp cfg (fn := Tryd.f18) Tryd.func18 rfl (by simp [Tryd.f18]) ?_
    simp (disch := first | assumption | omega | (simp; done) | (simp; omega)) [-getElem?_pos, gZ, gS, Tryd.f18, emptyH, hc, hd]
    repeat' (first | ((first | refine wpc_split _ ?_ ?_ | refine ww_split _ ?_ ?_) <;> intro hc <;> try simp at hc) | (refine wp_drawF (by kernel_rfl) ?_) | refine wk_yldW _ ?_ | refine layOwe _ (by kernel_rfl) ?_ | refine owe ?_ (fun ho => ?_) | (simp (disch := first | assumption | omega | (simp; done) | (simp; omega)) [emptyH, hc, hd, -getElem?_pos, gZ, gS]))
    all_goals try (exfalso; omega)
    refine wp_loopE cfg rfl (fun f0 h0 m fr h => ∃ j : Nat, fr 0 = f0 0 ∧ fr 1 = f0 1 ∧ fr 8 = f0 8 ∧ fr 9 = .int .i64 ((s.length : Int) - 1 - j) ∧ (h.bs = [.cells (tab (s.length + 1) (cI (gM t s j)))]) ∧ (j + m = s.length)) (s.length) _ _ ⟨0, rfl, rfl, rfl, by first | rfl | (simp; done) | (simp [R]; done) | simp [R], by rw [gM_zero]; simp [cI_rep, cI_repf, tab_set], by first | rfl | (simp; done) | omega⟩ ?_
    rintro Am Af Ah ⟨j, A0, A1, A8, A9, hb, hm⟩ Aih
    try simp at A0 A1 A8
    by_cases hj : j < s.length
    ·obtain ⟨i, hi⟩ : ∃ i, i + j + 1 = s.length := ⟨s.length - 1 - j, by omega⟩
     have hi2 : (s.length : Int) - 1 - j = i := by omega
     rw [hi2] at A9
     have hi3 : i < s.length + 1 := by omega
     repeat' (first | ((first | refine wpc_split _ ?_ ?_ | refine ww_split _ ?_ ?_) <;> intro hc <;> try simp at hc) | (refine wp_drawF (by kernel_rfl) ?_) | refine wk_yldW _ ?_ | refine layOwe _ (by kernel_rfl) ?_ | refine owe ?_ (fun ho => ?_) | (simp (disch := first | assumption | omega | (simp; done) | (simp; omega)) [A0, A1, A8, A9, hb, hi3, tab_set, tab_get1, -getElem?_pos, gZ, gS]))
     all_goals try (exfalso; omega)
     refine wp_loopE cfg rfl (fun f0 h0 m fr h => ∃ k : Nat, fr 0 = f0 0 ∧ fr 1 = f0 1 ∧ fr 8 = f0 8 ∧ fr 9 = f0 9 ∧ fr 10 = .int .i64 k ∧ (h.bs = [.cells (tab (s.length + 1) (cI (updI (gM t s j) i (cntZ t s (manyL t s) i k).1)))]) ∧ (k + m = t.length)) (t.length) _ _ ⟨0, rfl, rfl, rfl, rfl, by first | rfl | (simp; done) | (simp [R]; done) | simp [R], by (rw [hb]; congr 2; exact tab_ext fun v hv => by (unfold cI updI gM cntZ; congr 1; by_cases e : v = i; (rw [if_pos e, if_neg (by omega)]); (rw [if_neg e]))), by first | rfl | (simp; done) | omega⟩ ?_
     rintro Bm Bf Bh ⟨k, B0, B1, B8, B9, B10, hb2, hm2⟩ Bih
     try simp [A0, A1, A8, A9] at B0 B1 B8 B9
     by_cases hk : k < t.length
     ·obtain ⟨k1, k2⟩ := smZs_nth hs hk
      have hlen0 := h0 k hk
      have hil : i ≤ s.length := by omega
      have hdl : (s.drop i).length < 1099511627776 := by rw [List.length_drop]; omega
      have hcr := cntZ_range (t := t) (s := s) (L := manyL t s) (i := i) k
      cases hp : preI (nth t k).cells (s.drop i) with
      | false =>
       have hst := cnt_step_same (L := manyL t s) hp
       repeat' (first | ((first | refine wpc_split _ ?_ ?_ | refine ww_split _ ?_ ?_) <;> intro hc <;> try simp at hc) | (refine wp_drawF (by decide +kernel) ?_) | refine wk_yldW _ ?_ | refine layOwe _ (by kernel_rfl) ?_ | refine owe ?_ (fun ho => ?_) | (simp (disch := first | assumption | omega | (simp; done) | (simp; omega)) [B0, B1, B8, B9, B10, A0, A1, A8, A9, hb2, hp, hk, hil, hdl, k2, -getElem?_pos, gZ, gS]))
       all_goals try (exfalso; omega)
       exact Bih (Bm - 1) _ _ (by omega) ⟨k + 1, by simp [B0, B1, B8, B9, B10, A0, A1, A8, A9, hst], by simp [B0, B1, B8, B9, B10, A0, A1, A8, A9, hst], by simp [B0, B1, B8, B9, B10, A0, A1, A8, A9, hst], by simp [B0, B1, B8, B9, B10, A0, A1, A8, A9, hst], by simp [B0, B1, B8, B9, B10, A0, A1, A8, A9, hst], (by rw [hb2, hst]), by omega⟩
      | true =>
       have hst := cnt_step_min (t := t) hp
       have hpl := preI_len hp
       have hle : i + (nth t k).cells.length ≤ s.length := by omega
       have hgi : updI (gM t s j) i (cntZ t s (manyL t s) i k).1 (i + (nth t k).cells.length) = nth (manyL t s) (i + cellZ t k) := by
        unfold cellZ at hlen0 ⊢
        unfold updI gM
        rw [if_neg (by omega), if_pos (by omega)]
       have hgs : updI (gM t s j) i (cntZ t s (manyL t s) i k).1 i = (cntZ t s (manyL t s) i k).1 := by unfold updI; rw [if_pos rfl]
       have hti : ((i : Int) + ((nth t k).cells.length : Int)).toNat = i + (nth t k).cells.length := by omega
       have hl1 := hla (i + cellZ t k)
       have hile : i + (nth t k).cells.length < s.length + 1 := by omega
       generalize hgc : (cntZ t s (manyL t s) i k).1 = c0 at *
       generalize hgn : nth (manyL t s) (i + cellZ t k) = n0 at *
       repeat' (first | ((first | refine wpc_split _ ?_ ?_ | refine ww_split _ ?_ ?_) <;> intro hc <;> try simp at hc) | (refine wp_drawF (by decide +kernel) ?_) | refine wk_yldW _ ?_ | refine layOwe _ (by kernel_rfl) ?_ | refine owe ?_ (fun ho => ?_) | (simp (disch := first | assumption | omega | (simp; done) | (simp; omega)) [B0, B1, B8, B9, B10, A0, A1, A8, A9, hb2, hp, hk, hil, hdl, hile, hti, hgi, hgs, hi3, tab_set, tab_get1, k2, -getElem?_pos, gZ, gS]))
       all_goals try (exfalso; omega)
       exact Bih (Bm - 1) _ _ (by omega) ⟨k + 1, by simp [B0, B1, B8, B9, B10, A0, A1, A8, A9], by simp [B0, B1, B8, B9, B10, A0, A1, A8, A9], by simp [B0, B1, B8, B9, B10, A0, A1, A8, A9], by simp [B0, B1, B8, B9, B10, A0, A1, A8, A9], by simp [B0, B1, B8, B9, B10, A0, A1, A8, A9], (by simp [hst]), by omega⟩
     ·obtain rfl : k = t.length := by omega
      rw [gM_step h0 hi] at hb2
      have hi5 : (i : Int) - 1 = (s.length : Int) - 1 - ((j : Int) + 1) := by omega
      repeat' (first | ((first | refine wpc_split _ ?_ ?_ | refine ww_split _ ?_ ?_) <;> intro hc <;> try simp at hc) | (refine wp_drawF (by kernel_rfl) ?_) | refine wk_yldW _ ?_ | refine layOwe _ (by kernel_rfl) ?_ | refine owe ?_ (fun ho => ?_) | (simp (disch := first | assumption | omega | (simp; done) | (simp; omega)) [B0, B1, B8, B9, B10, A0, A1, A8, A9, hb2, -getElem?_pos, gZ, gS]))
      all_goals try (exfalso; omega)
      exact Aih (Am - 1) _ _ (by omega) ⟨j + 1, by simp [B0, B1, B8, B9, B10, A0, A1, A8, A9, hi5], by simp [B0, B1, B8, B9, B10, A0, A1, A8, A9, hi5], by simp [B0, B1, B8, B9, B10, A0, A1, A8, A9, hi5], by simp [B0, B1, B8, B9, B10, A0, A1, A8, A9, hi5], (by simp [hb2]), by omega⟩
    ·obtain rfl : j = s.length := by omega
     have hgn : gM t s s.length = nth (manyL t s) := by funext v; exact if_pos (by omega)
     rw [hgn] at hb
     rw [show (s.length : Int) - 1 - s.length = -1 by omega] at A9
     have hp0 : 0 < s.length + 1 := by omega
     clear Aih
     by_cases hn1 : nth (manyL t s) 0 = 1
     ·repeat' (first | ((first | refine wpc_split _ ?_ ?_ | refine ww_split _ ?_ ?_) <;> intro hc <;> try simp at hc) | (refine wp_drawF (by kernel_rfl) ?_) | refine wk_yldW _ ?_ | refine layOwe _ (by kernel_rfl) ?_ | refine owe ?_ (fun ho => ?_) | (simp (disch := first | assumption | omega | (simp; done) | (simp; omega)) [A0, A1, A8, A9, hb, hn1, hp0, tab_get1, tab_take1, -getElem?_pos, gZ, gS]))
      all_goals try (exfalso; omega)
      refine wp_loopE cfg rfl (fun f0 h0 m fr h => ∃ i : Nat, ∃ l : List Nat, fr 0 = f0 0 ∧ fr 1 = f0 1 ∧ fr 8 = f0 8 ∧ fr 12 = .int .i64 i ∧ fr 11 = .str (textZ t l) ∧ (h.bs = h0.bs) ∧ (pathD t s s.length 0 = l ++ pathD t s m i) ∧ (s.length ≤ i + m) ∧ (i ≤ s.length) ∧ ((textZ t l).length ≤ 64 * i) ∧ (nth (manyL t s) i = 1)) (s.length) _ _ ⟨0, [], rfl, rfl, rfl, by first | rfl | (simp; done) | (simp [R]; done) | simp [R], by simp [textZ], by first | rfl | (simp; done) | omega, rfl, by first | rfl | (simp; done) | omega, by first | rfl | (simp; done) | omega, Nat.zero_le _, by first | rfl | (simp; done) | omega⟩ ?_
      rintro Cm Cf Ch ⟨i, l, C0, C1, C8, C12, C11, hbs, hpt, him, hil, hll, hni⟩ Cih
      try simp [A0, A1, A8, A9] at C0 C1 C8
      simp only [hb] at hbs
      by_cases hi : i < s.length
      ·obtain ⟨p1, p2, p3, p4, p5, p6⟩ := read_step h0 hi hni
       obtain ⟨m, rfl⟩ : ∃ m, Cm = m + 1 := ⟨Cm - 1, by omega⟩
       have hpt2 : pathD t s (m + 1) i = nextZ t s i :: pathD t s m (i + cellZ t (nextZ t s i)) := by rw [pathD, if_pos hi]
       generalize hkk : nextZ t s i = kk at *
       repeat' (first | ((first | refine wpc_split _ ?_ ?_ | refine ww_split _ ?_ ?_) <;> intro hc <;> try simp at hc) | (refine wp_drawF (by kernel_rfl) ?_) | refine wk_yldW _ ?_ | refine layOwe _ (by kernel_rfl) ?_ | refine owe ?_ (fun ho => ?_) | (simp (disch := first | assumption | omega | (simp; done) | (simp; omega)) [C0, C1, C8, C12, C11, hbs, hi, -getElem?_pos, gZ, gS]))
       all_goals try (exfalso; omega)
       refine wp_loopE cfg rfl (fun f0 h0 m fr h => ∃ k : Nat, fr 0 = f0 0 ∧ fr 1 = f0 1 ∧ fr 8 = f0 8 ∧ fr 11 = f0 11 ∧ fr 12 = f0 12 ∧ fr 13 = .int .i64 k ∧ h.bs = h0.bs ∧ (k + m = kk)) (kk) _ _ ⟨0, rfl, rfl, rfl, rfl, rfl, by first | rfl | (simp; done) | (simp [R]; done) | simp [R], rfl, by first | rfl | (simp; done) | omega⟩ ?_
       rintro Dm Df Dh ⟨k, D0, D1, D8, D11, D12, D13, Dbs, hm3⟩ Dih
       try simp [C0, C1, C8, C12, C11, A0, A1, A8, A9] at D0 D1 D8 D11 D12 Dbs
       simp only [hbs] at Dbs
       have hkt : k < t.length := by omega
       obtain ⟨k1, k2⟩ := smZs_nth hs hkt
       have hdl : (s.drop i).length < 1099511627776 := by rw [List.length_drop]; omega
       have hti : ((i : Int) + ((nth t k).cells.length : Int)).toNat = i + (nth t k).cells.length := by omega
       have hl1 := hla (i + cellZ t k)
       by_cases hkd : k < kk
       ·cases hp : preI (nth t k).cells (s.drop i) with
        | false =>
         repeat' (first | ((first | refine wpc_split _ ?_ ?_ | refine ww_split _ ?_ ?_) <;> intro hc <;> try simp at hc) | (refine wp_drawF (by decide +kernel) ?_) | refine wk_yldW _ ?_ | refine layOwe _ (by kernel_rfl) ?_ | refine owe ?_ (fun ho => ?_) | (simp (disch := first | assumption | omega | (simp; done) | (simp; omega)) [D0, D1, D8, D11, D12, D13, Dbs, C0, C1, C8, C12, C11, Dbs, hi, hil, hkt, hp, hdl, k2, -getElem?_pos, gZ, gS]))
         all_goals try (exfalso; omega)
         exact Dih (Dm - 1) _ _ (by omega) ⟨k + 1, by simp [D0, D1, D8, D11, D12, D13, Dbs, C0, C1, C8, C12, C11, A0, A1, A8, A9, hbs], by simp [D0, D1, D8, D11, D12, D13, Dbs, C0, C1, C8, C12, C11, A0, A1, A8, A9, hbs], by simp [D0, D1, D8, D11, D12, D13, Dbs, C0, C1, C8, C12, C11, A0, A1, A8, A9, hbs], by simp [D0, D1, D8, D11, D12, D13, Dbs, C0, C1, C8, C12, C11, A0, A1, A8, A9, hbs], by simp [D0, D1, D8, D11, D12, D13, Dbs, C0, C1, C8, C12, C11, A0, A1, A8, A9, hbs], by simp [D0, D1, D8, D11, D12, D13, Dbs, C0, C1, C8, C12, C11, A0, A1, A8, A9, hbs], by simp [D0, D1, D8, D11, D12, D13, Dbs, C0, C1, C8, C12, C11, A0, A1, A8, A9, hbs], by omega⟩
        | true =>
         have hz : nth (manyL t s) (i + (nth t k).cells.length) = 0 := by
          rcases Int.lt_or_le 0 (nth (manyL t s) (i + cellZ t k)) with h | h
          ·have := p6 k hkt hp h; omega
          ·have h2 : nth (manyL t s) (i + cellZ t k) = 0 := by omega
           exact h2
         have hpl := preI_len hp
         have hle : i + (nth t k).cells.length < s.length + 1 := by omega
         repeat' (first | ((first | refine wpc_split _ ?_ ?_ | refine ww_split _ ?_ ?_) <;> intro hc <;> try simp at hc) | (refine wp_drawF (by decide +kernel) ?_) | refine wk_yldW _ ?_ | refine layOwe _ (by kernel_rfl) ?_ | refine owe ?_ (fun ho => ?_) | (simp (disch := first | assumption | omega | (simp; done) | (simp; omega)) [D0, D1, D8, D11, D12, D13, Dbs, C0, C1, C8, C12, C11, Dbs, hi, hil, hkt, hp, hdl, hle, hti, hz, k2, tab_get1, -getElem?_pos, gZ, gS]))
         all_goals try (exfalso; omega)
         exact Dih (Dm - 1) _ _ (by omega) ⟨k + 1, by simp [D0, D1, D8, D11, D12, D13, Dbs, C0, C1, C8, C12, C11, A0, A1, A8, A9, hbs], by simp [D0, D1, D8, D11, D12, D13, Dbs, C0, C1, C8, C12, C11, A0, A1, A8, A9, hbs], by simp [D0, D1, D8, D11, D12, D13, Dbs, C0, C1, C8, C12, C11, A0, A1, A8, A9, hbs], by simp [D0, D1, D8, D11, D12, D13, Dbs, C0, C1, C8, C12, C11, A0, A1, A8, A9, hbs], by simp [D0, D1, D8, D11, D12, D13, Dbs, C0, C1, C8, C12, C11, A0, A1, A8, A9, hbs], by simp [D0, D1, D8, D11, D12, D13, Dbs, C0, C1, C8, C12, C11, A0, A1, A8, A9, hbs], by simp [D0, D1, D8, D11, D12, D13, Dbs, C0, C1, C8, C12, C11, A0, A1, A8, A9, hbs], by omega⟩
       ·obtain rfl : k = kk := by omega
        have hpl := preI_len p5
        have hle : i + (nth t k).cells.length < s.length + 1 := by omega
        have hone : nth (manyL t s) (i + (nth t k).cells.length) = 1 := p4
        have hlz : cellZ t k = (nth t k).cells.length := rfl
        have hpt3 : pathD t s s.length 0 = (l ++ [k]) ++ pathD t s m (i + cellZ t k) := by rw [hpt, hpt2, List.append_assoc]; rfl
        have htx := tab_text hc _ (nth_mem hkt)
        have hst : textZ t (l ++ [k]) = textZ t l ++ (nth t k).text := by rw [textZ_app]; simp [textZ]
        have hll3 : (textZ t (l ++ [k])).length ≤ 64 * (i + cellZ t k) := by rw [hst, List.length_append]; omega
        repeat' (first | ((first | refine wpc_split _ ?_ ?_ | refine ww_split _ ?_ ?_) <;> intro hc <;> try simp at hc) | (refine wp_drawF (by decide +kernel) ?_) | refine wk_yldW _ ?_ | refine layOwe _ (by kernel_rfl) ?_ | refine owe ?_ (fun ho => ?_) | (simp (disch := first | assumption | omega | (simp; done) | (simp; omega)) [D0, D1, D8, D11, D12, D13, Dbs, C0, C1, C8, C12, C11, Dbs, hi, hil, hkt, p5, hdl, hle, hti, hone, k2, tab_get1, -getElem?_pos, gZ, gS]))
        all_goals try (exfalso; omega)
        exact Cih (m) _ _ (by omega) ⟨i + cellZ t k, l ++ [k], by simp [D0, D1, D8, D11, D12, D13, Dbs, C0, C1, C8, C12, C11, A0, A1, A8, A9, hlz, hb, hst, Dbs], by simp [D0, D1, D8, D11, D12, D13, Dbs, C0, C1, C8, C12, C11, A0, A1, A8, A9, hlz, hb, hst, Dbs], by simp [D0, D1, D8, D11, D12, D13, Dbs, C0, C1, C8, C12, C11, A0, A1, A8, A9, hlz, hb, hst, Dbs], by simp [D0, D1, D8, D11, D12, D13, Dbs, C0, C1, C8, C12, C11, A0, A1, A8, A9, hlz, hb, hst, Dbs], by simp [D0, D1, D8, D11, D12, D13, Dbs, C0, C1, C8, C12, C11, A0, A1, A8, A9, hlz, hb, hst, Dbs], (by first | exact hb.symm | simp [hb, Dbs]), hpt3, by omega, p2, hll3, p4⟩
      ·obtain rfl : i = s.length := by omega
       have hp0' : pathD t s Cm s.length = [] := by
        cases Cm with
        | zero => rfl
        | succ m => rw [pathD, if_neg (by omega)]
       rw [hp0', List.append_nil] at hpt
       have hE : decodeZ t s = if 4096 < (textZ t l).length then ([], false, 2) else (textZ t l, true, 0) := by
        unfold decodeZ; rw [if_neg (by simp [hc]), if_neg hlong, if_neg (by simp [hd]), if_neg (by simp [hn1]), hpt]
       rw [hE]
       by_cases hbig : 4096 < (textZ t l).length
       ·rw [if_pos hbig]
        repeat' (first | ((first | refine wpc_split _ ?_ ?_ | refine ww_split _ ?_ ?_) <;> intro hc <;> try simp at hc) | (refine wp_drawF (by kernel_rfl) ?_) | refine wk_yldW _ ?_ | refine layOwe _ (by kernel_rfl) ?_ | refine owe ?_ (fun ho => ?_) | (simp (disch := first | assumption | omega | (simp; done) | (simp; omega)) [C0, C1, C8, C12, C11, hbs, hbig, -getElem?_pos, gZ, gS]))
        all_goals try (exfalso; omega)
       ·rw [if_neg hbig]
        repeat' (first | ((first | refine wpc_split _ ?_ ?_ | refine ww_split _ ?_ ?_) <;> intro hc <;> try simp at hc) | (refine wp_drawF (by kernel_rfl) ?_) | refine wk_yldW _ ?_ | refine layOwe _ (by kernel_rfl) ?_ | refine owe ?_ (fun ho => ?_) | (simp (disch := first | assumption | omega | (simp; done) | (simp; omega)) [C0, C1, C8, C12, C11, hbs, hbig, -getElem?_pos, gZ, gS]))
        all_goals try (exfalso; omega)
     ·have hE : decodeZ t s = ([], false, 0) := by unfold decodeZ; rw [if_neg (by simp [hc]), if_neg hlong, if_neg (by simp [hd]), if_pos hn1]
      rw [hE]
      repeat' (first | ((first | refine wpc_split _ ?_ ?_ | refine ww_split _ ?_ ?_) <;> intro hc <;> try simp at hc) | (refine wp_drawF (by kernel_rfl) ?_) | refine wk_yldW _ ?_ | refine layOwe _ (by kernel_rfl) ?_ | refine owe ?_ (fun ho => ?_) | (simp (disch := first | assumption | omega | (simp; done) | (simp; omega)) [A0, A1, A8, A9, hb, hn1, hp0, tab_get1, tab_take1, -getElem?_pos, gZ, gS]))
      all_goals try (exfalso; omega)
 ·have hE : decodeZ t s = ([], false, checkZ t) := by unfold decodeZ; rw [if_pos hc]
  rw [hE]
  refine outS_of_wp cfg (fn := Tryd.f18) Tryd.func18 rfl (by simp [Tryd.f18]) ?_
  simp (disch := first | assumption | omega | (simp; done) | (simp; omega)) [-getElem?_pos, gZ, gS, Tryd.f18, emptyH, hc]
  repeat' (first | ((first | refine wpc_split _ ?_ ?_ | refine ww_split _ ?_ ?_) <;> intro hc <;> try simp at hc) | (refine wp_drawF (by kernel_rfl) ?_) | refine wk_yldW _ ?_ | refine layOwe _ (by kernel_rfl) ?_ | refine owe ?_ (fun ho => ?_) | (simp (disch := first | assumption | omega | (simp; done) | (simp; omega)) [emptyH, hc, -getElem?_pos, gZ, gS]))
  all_goals try (exact rfl)
@[simp] theorem S18 (t : List Sgn) (s : List Int) (hs : smZs t) (hs2 : s.length < 1099511627776) (q1 q2 : Fl) (hh : Heap) : Ci cfg (.func (.func 18) [] []) [R  q1 eZ t, R  q2 eI s] hh = some (.ret (.tuple [.str (decodeZ t s).1, .bool (decodeZ t s).2.1, .int .i64 (decodeZ t s).2.2]), hh) :=
 Ci_K cfg rfl rfl (by simp) (by simp) (C18 t s hs hs2)
end Go.Ab
namespace Go.Ab
open Go.Proofs
set_option maxRecDepth 100000
set_option maxHeartbeats 4000000
theorem C48 (a b : List Int) (hs : a.length < 1099511627776) : Kc cfg 48 [R fl0 eI a, R fl0 eI b] (.ret (.bool (decide (a = b)))) := by
 refine outS_of_wp cfg (fn := Tryd.f48) Tryd.func48 rfl (by simp [Tryd.f48]) ?_
 simp (disch := first | assumption | omega | (simp; done) | (simp; omega)) [-getElem?_pos, gZ, gS, Tryd.f48]
 repeat' (first | ((first | refine wpc_split _ ?_ ?_ | refine ww_split _ ?_ ?_) <;> intro hc <;> try simp at hc) | (refine wp_drawF (by kernel_rfl) ?_) | refine wk_yldW _ ?_ | refine layOwe _ (by kernel_rfl) ?_ | refine owe ?_ (fun ho => ?_) | (simp (disch := first | assumption | omega | (simp; done) | (simp; omega)) [-getElem?_pos, gZ, gS]))
 ·intro h; rw [h] at hc; simp at hc
 refine wp_loopE cfg rfl (fun f0 h0 m fr h => ∃ i : Nat, fr 0 = f0 0 ∧ fr 1 = f0 1 ∧ fr 12 = f0 12 ∧ fr 13 = .int .i64 i ∧ h.bs = h0.bs ∧ (i + m = a.length) ∧ (a.take i = b.take i)) (a.length) _ _ ⟨0, rfl, rfl, rfl, by first | rfl | (simp; done) | (simp [R]; done) | simp [R], rfl, by first | rfl | (simp; done) | omega, by simp⟩ ?_
 rintro Am Af Ah ⟨i, A0, A1, A12, A13, Abs, hm, ht⟩ Aih
 try simp at A0 A1 A12 Abs
 repeat' (first | ((first | refine wpc_split _ ?_ ?_ | refine ww_split _ ?_ ?_) <;> intro hc <;> try simp at hc) | (refine wp_drawF (by kernel_rfl) ?_) | refine wk_yldW _ ?_ | refine layOwe _ (by kernel_rfl) ?_ | refine owe ?_ (fun ho => ?_) | (simp (disch := first | assumption | omega | (simp; done) | (simp; omega)) [A0, A1, A12, A13, Abs, eI, -getElem?_pos, gZ, gS]))
 ·intro h; rw [h] at hc; simp at hc
 ·exact Aih (Am - 1) _ _ (by omega) ⟨i + 1, by simp [A0, A1, A12, A13, Abs], by simp [A0, A1, A12, A13, Abs], by simp [A0, A1, A12, A13, Abs], by simp [A0, A1, A12, A13, Abs], by simp [A0, A1, A12, A13, Abs], by omega, take_next (by omega) (by omega) ht hc⟩
 ·have : i = a.length := by omega
  subst this
  rw [List.take_length, List.take_of_length_le (by omega)] at ht
  exact ht
@[simp] theorem S48 (a b : List Int) (hs : a.length < 1099511627776) (q1 q2 : Fl) (hh : Heap) : Ci cfg (.func (.func 48) [] []) [R  q1 eI a, R  q2 eI b] hh = some (.ret (.bool (decide (a = b))), hh) :=
 Ci_K cfg rfl rfl (by simp) (by simp) (C48 a b hs)
theorem C37 (l p : List Int) (hs : l.length < 1099511627776) (hp : p.length < 1099511627776) : Kc cfg 37 [R fl0 eI l, R fl0 eI p] (.ret (.bool (preI p l))) := by
 by_cases h : p.length ≤ l.length
 ·have hF : preI p l = decide (l.take p.length = p) := by
   unfold preI
   rw [decide_eq_decide]
   constructor
   ·rintro ⟨r, rfl⟩; simp
   ·intro e; rw [← e]; exact List.take_prefix _ _
  have hlt : (l.take p.length).length < 1099511627776 := by rw [List.length_take]; omega
  rw [hF]
  refine outS_of_wp cfg (fn := Tryd.f37) Tryd.func37 rfl (by simp [Tryd.f37]) ?_
  simp (disch := first | assumption | omega | (simp; done) | (simp; omega)) [-getElem?_pos, gZ, gS, Tryd.f37, h, hlt]
  repeat' (first | ((first | refine wpc_split _ ?_ ?_ | refine ww_split _ ?_ ?_) <;> intro hc <;> try simp at hc) | (refine wp_drawF (by kernel_rfl) ?_) | refine wk_yldW _ ?_ | refine layOwe _ (by kernel_rfl) ?_ | refine owe ?_ (fun ho => ?_) | (simp (disch := first | assumption | omega | (simp; done) | (simp; omega)) [h, hlt, -getElem?_pos, gZ, gS]))
  all_goals try (exfalso; omega)
 ·have hF : preI p l = false := by
   unfold preI
   rw [decide_eq_false_iff_not]
   intro e; exact h e.length_le
  rw [hF]
  refine outS_of_wp cfg (fn := Tryd.f37) Tryd.func37 rfl (by simp [Tryd.f37]) ?_
  simp (disch := first | assumption | omega | (simp; done) | (simp; omega)) [-getElem?_pos, gZ, gS, Tryd.f37, h]
  repeat' (first | ((first | refine wpc_split _ ?_ ?_ | refine ww_split _ ?_ ?_) <;> intro hc <;> try simp at hc) | (refine wp_drawF (by kernel_rfl) ?_) | refine wk_yldW _ ?_ | refine layOwe _ (by kernel_rfl) ?_ | refine owe ?_ (fun ho => ?_) | (simp (disch := first | assumption | omega | (simp; done) | (simp; omega)) [h, -getElem?_pos, gZ, gS]))
  all_goals try (exfalso; omega)
@[simp] theorem S37 (l p : List Int) (hs : l.length < 1099511627776) (hp : p.length < 1099511627776) (q1 q2 : Fl) (hh : Heap) : Ci cfg (.func (.func 37) [] []) [R  q1 eI l, R  q2 eI p] hh = some (.ret (.bool (preI p l)), hh) :=
 Ci_K cfg rfl rfl (by simp) (by simp) (C37 l p hs hp)
end Go.Ab
namespace Go.Ab
open Go.Proofs
set_option maxRecDepth 100000
set_option maxHeartbeats 4000000
def cmpN (x y : Int) : Int := if x < y then -1 else if x = y then 0 else 1
def cmpL (a b : List Int) : Int := if a = b then 0 else if befZ a b = true then -1 else 1
theorem C76 (a : Int) : Kc cfg 76 [.int .i64 a] (.ret (.bool false)) := by
 refine outS_of_wp cfg (fn := Tryd.f76) Tryd.func76 rfl (by simp [Tryd.f76]) ?_
 simp (disch := first | assumption | omega | (simp; done) | (simp; omega)) [-getElem?_pos, gZ, gS, Tryd.f76]
 repeat' (first | ((first | refine wpc_split _ ?_ ?_ | refine ww_split _ ?_ ?_) <;> intro hc <;> try simp at hc) | (refine wp_drawF (by kernel_rfl) ?_) | refine wk_yldW _ ?_ | refine layOwe _ (by kernel_rfl) ?_ | refine owe ?_ (fun ho => ?_) | (simp (disch := first | assumption | omega | (simp; done) | (simp; omega)) [-getElem?_pos, gZ, gS]))
@[simp] theorem S76 (a : Int) (hh : Heap) : Ci cfg (.func (.func 76) [] []) [.int .i64 a] hh = some (.ret (.bool false), hh) :=
 Ci_K cfg rfl rfl (by simp) (by simp) (C76 a)
theorem C67 (x y : Int) : Kc cfg 67 [.int .i64 x, .int .i64 y] (.ret (.int .i64 (cmpN x y))) := by
 by_cases h1 : x < y
 ·have h2 : cmpN x y = -1 := if_pos h1
  rw [h2]
  refine outS_of_wp cfg (fn := Tryd.f67) Tryd.func67 rfl (by simp [Tryd.f67]) ?_
  simp (disch := first | assumption | omega | (simp; done) | (simp; omega)) [-getElem?_pos, gZ, gS, Tryd.f67, h1]
  repeat' (first | ((first | refine wpc_split _ ?_ ?_ | refine ww_split _ ?_ ?_) <;> intro hc <;> try simp at hc) | (refine wp_drawF (by kernel_rfl) ?_) | refine wk_yldW _ ?_ | refine layOwe _ (by kernel_rfl) ?_ | refine owe ?_ (fun ho => ?_) | (simp (disch := first | assumption | omega | (simp; done) | (simp; omega)) [h1, -getElem?_pos, gZ, gS]))
  all_goals try (exfalso; omega)
 ·by_cases h3 : x = y
  ·have h2 : cmpN x y = 0 := by unfold cmpN; rw [if_neg h1, if_pos h3]
   rw [h2]
   subst h3
   refine outS_of_wp cfg (fn := Tryd.f67) Tryd.func67 rfl (by simp [Tryd.f67]) ?_
   simp (disch := first | assumption | omega | (simp; done) | (simp; omega)) [-getElem?_pos, gZ, gS, Tryd.f67, ]
   repeat' (first | ((first | refine wpc_split _ ?_ ?_ | refine ww_split _ ?_ ?_) <;> intro hc <;> try simp at hc) | (refine wp_drawF (by kernel_rfl) ?_) | refine wk_yldW _ ?_ | refine layOwe _ (by kernel_rfl) ?_ | refine owe ?_ (fun ho => ?_) | (simp (disch := first | assumption | omega | (simp; done) | (simp; omega)) [-getElem?_pos, gZ, gS]))
   all_goals try (exfalso; omega)
  ·have h2 : cmpN x y = 1 := by unfold cmpN; rw [if_neg h1, if_neg h3]
   have h4 : y < x := by omega
   rw [h2]
   refine outS_of_wp cfg (fn := Tryd.f67) Tryd.func67 rfl (by simp [Tryd.f67]) ?_
   simp (disch := first | assumption | omega | (simp; done) | (simp; omega)) [-getElem?_pos, gZ, gS, Tryd.f67, h1, h4]
   repeat' (first | ((first | refine wpc_split _ ?_ ?_ | refine ww_split _ ?_ ?_) <;> intro hc <;> try simp at hc) | (refine wp_drawF (by kernel_rfl) ?_) | refine wk_yldW _ ?_ | refine layOwe _ (by kernel_rfl) ?_ | refine owe ?_ (fun ho => ?_) | (simp (disch := first | assumption | omega | (simp; done) | (simp; omega)) [h1, h4, -getElem?_pos, gZ, gS]))
   all_goals try (exfalso; omega)
@[simp] theorem S67 (x y : Int) (hh : Heap) : Ci cfg (.func (.func 67) [] []) [.int .i64 x, .int .i64 y] hh = some (.ret (.int .i64 (cmpN x y)), hh) :=
 Ci_K cfg rfl rfl (by simp) (by simp) (C67 x y)
theorem cmpN_zero {x y : Int} : cmpN x y = 0 ↔ x = y := by
 unfold cmpN
 constructor
 ·intro h
  split at h
  ·cases h
  ·split at h
   ·assumption
   ·cases h
 ·rintro rfl
  rw [if_neg (by omega), if_pos rfl]
theorem cmpL_lt {a b : List Int} : decide (cmpL a b < 0) = befZ a b := by
 unfold cmpL
 by_cases h : a = b
 ·subst h
  have : ∀ l : List Int, befZ l l = false := fun l => by
   induction l with
   | nil => rfl
   | cons x l ih => rw [befZ, if_pos rfl, ih]
  rw [if_pos rfl, this]; rfl
 ·rw [if_neg h]
  cases befZ a b <;> rfl
theorem cmpL_zero {a b : List Int} : cmpL a b = 0 ↔ a = b := by
 unfold cmpL
 constructor
 ·intro h
  split at h
  ·assumption
  ·split at h <;> cases h
 ·rintro rfl; rw [if_pos rfl]
theorem C47 (a b : List Int) (hs : a.length < 1099511627776) (hb : b.length < 1099511627776) : Kc cfg 47 [R fl0 eI a, R fl0 eI b] (.ret (.int .i64 (cmpL a b))) := by
 refine outS_of_wp cfg (fn := Tryd.f47) Tryd.func47 rfl (by simp [Tryd.f47]) ?_
 simp (disch := first | assumption | omega | (simp; done) | (simp; omega)) [-getElem?_pos, gZ, gS, Tryd.f47]
 repeat' (first | ((first | refine wpc_split _ ?_ ?_ | refine ww_split _ ?_ ?_) <;> intro hc <;> try simp at hc) | (refine wp_drawF (by kernel_rfl) ?_) | refine wk_yldW _ ?_ | refine layOwe _ (by kernel_rfl) ?_ | refine owe ?_ (fun ho => ?_) | (simp (disch := first | assumption | omega | (simp; done) | (simp; omega)) [-getElem?_pos, gZ, gS]))
 refine wp_loopE cfg rfl (fun f0 h0 m fr h => ∃ i : Nat, fr 0 = f0 0 ∧ fr 1 = f0 1 ∧ fr 9 = f0 9 ∧ fr 10 = f0 10 ∧ fr 11 = .int .i64 i ∧ h.bs = h0.bs ∧ (i + m = a.length) ∧ (i ≤ b.length) ∧ (a.take i = b.take i)) (a.length) _ _ ⟨0, rfl, rfl, rfl, rfl, by first | rfl | (simp; done) | (simp [R]; done) | simp [R], rfl, by first | rfl | (simp; done) | omega, Nat.zero_le _, by simp⟩ ?_
 rintro Am Af Ah ⟨i, A0, A1, A9, A10, A11, Abs, hm, hi2, ht⟩ Aih
 try simp at A0 A1 A9 A10 Abs
 by_cases hi : i < a.length
 ·by_cases hib : i < b.length
  ·by_cases he : nth a i = nth b i
   ·have hz : cmpN (nth a i) (nth b i) = 0 := cmpN_zero.2 he
    repeat' (first | ((first | refine wpc_split _ ?_ ?_ | refine ww_split _ ?_ ?_) <;> intro hc <;> try simp at hc) | (refine wp_drawF (by kernel_rfl) ?_) | refine wk_yldW _ ?_ | refine layOwe _ (by kernel_rfl) ?_ | refine owe ?_ (fun ho => ?_) | (simp (disch := first | assumption | omega | (simp; done) | (simp; omega)) [A0, A1, A9, A10, A11, Abs, hi, hib, hz, eI, -getElem?_pos, gZ, gS]))
    all_goals try (exfalso; omega)
    exact Aih (Am - 1) _ _ (by omega) ⟨i + 1, by simp [A0, A1, A9, A10, A11, Abs], by simp [A0, A1, A9, A10, A11, Abs], by simp [A0, A1, A9, A10, A11, Abs], by simp [A0, A1, A9, A10, A11, Abs], by simp [A0, A1, A9, A10, A11, Abs], by simp [A0, A1, A9, A10, A11, Abs], by omega, by omega, take_next hi hib ht he⟩
   ·have hne : ¬ a = b := fun e => he (by rw [e])
    have hbz := befZ_at ht hi hib he
    have hz : ¬ cmpN (nth a i) (nth b i) = 0 := fun h => he (cmpN_zero.1 h)
    have hE : cmpL a b = cmpN (nth a i) (nth b i) := by
     unfold cmpL cmpN
     rw [if_neg hne, hbz, if_neg he]
     by_cases h : nth a i < nth b i
     ·rw [if_pos (by simp [h]), if_pos h]
     ·rw [if_neg (by simp [h]), if_neg h]
    rw [hE]
    repeat' (first | ((first | refine wpc_split _ ?_ ?_ | refine ww_split _ ?_ ?_) <;> intro hc <;> try simp at hc) | (refine wp_drawF (by kernel_rfl) ?_) | refine wk_yldW _ ?_ | refine layOwe _ (by kernel_rfl) ?_ | refine owe ?_ (fun ho => ?_) | (simp (disch := first | assumption | omega | (simp; done) | (simp; omega)) [A0, A1, A9, A10, A11, Abs, hi, hib, hz, eI, -getElem?_pos, gZ, gS]))
    all_goals try (exfalso; omega)
  ·have hl : i = b.length := by omega
   have hne : ¬ a = b := fun e => by rw [e] at hi; omega
   have hbz := befZ_end ht (fun h => hib h.2) (by omega) hi2
   have hE : cmpL a b = 1 := by
    unfold cmpL
    rw [if_neg hne, hbz, if_neg (by simp; omega)]
   rw [hE]
   repeat' (first | ((first | refine wpc_split _ ?_ ?_ | refine ww_split _ ?_ ?_) <;> intro hc <;> try simp at hc) | (refine wp_drawF (by kernel_rfl) ?_) | refine wk_yldW _ ?_ | refine layOwe _ (by kernel_rfl) ?_ | refine owe ?_ (fun ho => ?_) | (simp (disch := first | assumption | omega | (simp; done) | (simp; omega)) [A0, A1, A9, A10, A11, Abs, hi, hib, eI, -getElem?_pos, gZ, gS]))
   all_goals try (exfalso; omega)
 ·have hbz := befZ_end ht (fun h => hi h.1) (by omega) hi2
  by_cases hl : a.length < b.length
  ·have hE : cmpL a b = -1 := by
    unfold cmpL
    rw [if_neg (fun e => by rw [e] at hl; omega), hbz, if_pos (by simp [hl])]
   rw [hE]
   repeat' (first | ((first | refine wpc_split _ ?_ ?_ | refine ww_split _ ?_ ?_) <;> intro hc <;> try simp at hc) | (refine wp_drawF (by kernel_rfl) ?_) | refine wk_yldW _ ?_ | refine layOwe _ (by kernel_rfl) ?_ | refine owe ?_ (fun ho => ?_) | (simp (disch := first | assumption | omega | (simp; done) | (simp; omega)) [A0, A1, A9, A10, A11, Abs, hi, hl, -getElem?_pos, gZ, gS]))
   all_goals try (exfalso; omega)
  ·have hab : a = b := by
    have h1 : i = a.length := by omega
    have h2 : i = b.length := by omega
    rw [List.take_of_length_le (by omega), List.take_of_length_le (by omega)] at ht
    exact ht
   have hE : cmpL a b = 0 := by unfold cmpL; rw [if_pos hab]
   rw [hE]
   repeat' (first | ((first | refine wpc_split _ ?_ ?_ | refine ww_split _ ?_ ?_) <;> intro hc <;> try simp at hc) | (refine wp_drawF (by kernel_rfl) ?_) | refine wk_yldW _ ?_ | refine layOwe _ (by kernel_rfl) ?_ | refine owe ?_ (fun ho => ?_) | (simp (disch := first | assumption | omega | (simp; done) | (simp; omega)) [A0, A1, A9, A10, A11, Abs, hi, hl, -getElem?_pos, gZ, gS]))
   all_goals try (exfalso; omega)
@[simp] theorem S47 (a b : List Int) (hs : a.length < 1099511627776) (hb : b.length < 1099511627776) (q1 q2 : Fl) (hh : Heap) : Ci cfg (.func (.func 47) [] []) [R  q1 eI a, R  q2 eI b] hh = some (.ret (.int .i64 (cmpL a b)), hh) :=
 Ci_K cfg rfl rfl (by simp) (by simp) (C47 a b hs hb)
theorem C65 (a b : List Int) : Kc cfg 65 [.agg [R fl0 eI a, R fl0 eI b]] (.ret (R fl0 eI a)) := by
 refine outS_of_wp cfg (fn := Tryd.f65) Tryd.func65 rfl (by simp [Tryd.f65]) ?_
 simp (disch := first | assumption | omega | (simp; done) | (simp; omega)) [-getElem?_pos, gZ, gS, Tryd.f65, emptyH]
 repeat' (first | ((first | refine wpc_split _ ?_ ?_ | refine ww_split _ ?_ ?_) <;> intro hc <;> try simp at hc) | (refine wp_drawF (by kernel_rfl) ?_) | refine wk_yldW _ ?_ | refine layOwe _ (by kernel_rfl) ?_ | refine owe ?_ (fun ho => ?_) | (simp (disch := first | assumption | omega | (simp; done) | (simp; omega)) [emptyH, -getElem?_pos, gZ, gS]))
@[simp] theorem S65 (a b : List Int) (q1 q2 : Fl) (hh : Heap) : Ci cfg (.func (.func 65) [] []) [.agg [R  q1 eI a, R  q2 eI b]] hh = some (.ret (R fl0 eI a), hh) :=
 Ci_K cfg rfl rfl (by simp) (by simp) (C65 a b)
theorem C66 (a b : List Int) : Kc cfg 66 [.agg [R fl0 eI a, R fl0 eI b]] (.ret (R fl0 eI b)) := by
 refine outS_of_wp cfg (fn := Tryd.f66) Tryd.func66 rfl (by simp [Tryd.f66]) ?_
 simp (disch := first | assumption | omega | (simp; done) | (simp; omega)) [-getElem?_pos, gZ, gS, Tryd.f66, emptyH]
 repeat' (first | ((first | refine wpc_split _ ?_ ?_ | refine ww_split _ ?_ ?_) <;> intro hc <;> try simp at hc) | (refine wp_drawF (by kernel_rfl) ?_) | refine wk_yldW _ ?_ | refine layOwe _ (by kernel_rfl) ?_ | refine owe ?_ (fun ho => ?_) | (simp (disch := first | assumption | omega | (simp; done) | (simp; omega)) [emptyH, -getElem?_pos, gZ, gS]))
@[simp] theorem S66 (a b : List Int) (q1 q2 : Fl) (hh : Heap) : Ci cfg (.func (.func 66) [] []) [.agg [R  q1 eI a, R  q2 eI b]] hh = some (.ret (R fl0 eI b), hh) :=
 Ci_K cfg rfl rfl (by simp) (by simp) (C66 a b)
def bZ (l : List Int) : Wd := l.map ib
theorem bytes_ib : ∀ l : List Int, bytesOfCells (l.map fun n => V.int .u8 n) = some (bZ l)
 | [] => rfl
 | n :: l => by
  rw [List.map_cons, bytesOfCells, bytes_ib l]; rfl
theorem tab_nth (l : List Int) : (tab l.length fun j => V.int .u8 (nth l j)) = l.map fun n => V.int .u8 n := by
 unfold tab
 apply List.ext_getElem
 ·simp
 ·intro i h1 h2
  simp only [List.getElem_map, List.getElem_range]
  rw [nth_eq (by simpa using h2)]
theorem C43 (l : List Int) (hs : l.length < 4096) (hd : dotsL l = true) : Kc cfg 43 [R fl0 eI l] (.ret (.str (bZ l))) := by
 refine outS_of_wp cfg (fn := Tryd.f43) Tryd.func43 rfl (by simp [Tryd.f43]) ?_
 simp (disch := first | assumption | omega | (simp; done) | (simp; omega)) [-getElem?_pos, gZ, gS, Tryd.f43, emptyH]
 repeat' (first | ((first | refine wpc_split _ ?_ ?_ | refine ww_split _ ?_ ?_) <;> intro hc <;> try simp at hc) | (refine wp_drawF (by kernel_rfl) ?_) | refine wk_yldW _ ?_ | refine layOwe _ (by kernel_rfl) ?_ | refine owe ?_ (fun ho => ?_) | (simp (disch := first | assumption | omega | (simp; done) | (simp; omega)) [emptyH, -getElem?_pos, gZ, gS]))
 refine wp_loopE cfg rfl (fun f0 h0 m fr h => ∃ i : Nat, fr 0 = f0 0 ∧ fr 9 = f0 9 ∧ fr 10 = f0 10 ∧ fr 11 = .int .i64 i ∧ fr 3 = .slice 0 0 l.length 1 ∧ (h.bs = [.cells (tab l.length fun j => .int .u8 (if j < i then nth l j else 0))]) ∧ (i + m = l.length)) (l.length) _ _ ⟨0, rfl, rfl, rfl, by first | rfl | (simp; done) | (simp [R]; done) | simp [R], by first | rfl | (simp; done) | (simp [R]; done) | simp [R], by simp [rep_tab], by first | rfl | (simp; done) | omega⟩ ?_
 rintro Am Af Ah ⟨i, A0, A9, A10, A11, A3, hb, hm⟩ Aih
 try simp at A0 A9 A10
 by_cases hi : i < l.length
 ·obtain ⟨d1, d2⟩ := dotsL_at hd hi
  have hst : (tab l.length (upd (fun j => V.int IntKind.u8 (if j < i then nth l j else 0)) i (V.int IntKind.u8 (nth l i)))) = tab l.length fun j => V.int .u8 (if j < i + 1 then nth l j else 0) := tab_ext fun j hj => by
   unfold upd
   by_cases e : j = i
   ·subst e; rw [if_pos rfl, if_pos (by omega)]
   ·rw [if_neg e]
    simp only
    by_cases e2 : j < i
    ·rw [if_pos e2, if_pos (by omega)]
    ·rw [if_neg e2, if_neg (by omega)]
  repeat' (first | ((first | refine wpc_split _ ?_ ?_ | refine ww_split _ ?_ ?_) <;> intro hc <;> try simp at hc) | (refine wp_drawF (by kernel_rfl) ?_) | refine wk_yldW _ ?_ | refine layOwe _ (by kernel_rfl) ?_ | refine owe ?_ (fun ho => ?_) | (simp (disch := first | assumption | omega | (simp; done) | (simp; omega)) [A0, A9, A10, A11, A3, hb, hi, eI, tab_set, -getElem?_pos, gZ, gS]))
  all_goals try (exfalso; omega)
  exact Aih (Am - 1) _ _ (by omega) ⟨i + 1, by simp [A0, A9, A10, A11, A3], by simp [A0, A9, A10, A11, A3], by simp [A0, A9, A10, A11, A3], by simp [A0, A9, A10, A11, A3], by simp [A0, A9, A10, A11, A3], (by simp [hst]), by omega⟩
 ·have hE : (tab l.length fun j => V.int IntKind.u8 (if j < i then nth l j else 0)) = l.map fun n => V.int .u8 n := by
   rw [← tab_nth]
   exact tab_ext fun j hj => by rw [if_pos (by omega)]
  rw [hE] at hb
  have hT : List.take l.length (l.map fun n => V.int IntKind.u8 n) = l.map fun n => V.int .u8 n := List.take_of_length_le (by simp)
  repeat' (first | ((first | refine wpc_split _ ?_ ?_ | refine ww_split _ ?_ ?_) <;> intro hc <;> try simp at hc) | (refine wp_drawF (by kernel_rfl) ?_) | refine wk_yldW _ ?_ | refine layOwe _ (by kernel_rfl) ?_ | refine owe ?_ (fun ho => ?_) | (simp (disch := first | assumption | omega | (simp; done) | (simp; omega)) [A0, A9, A10, A11, A3, hb, hi, hT, bytes_ib, -getElem?_pos, gZ, gS]))
  all_goals try (exfalso; omega)
@[simp] theorem S43 (l : List Int) (hs : l.length < 4096) (hd : dotsL l = true) (q1 : Fl) (hh : Heap) : Ci cfg (.func (.func 43) [] []) [R  q1 eI l] hh = some (.ret (.str (bZ l)), hh) :=
 Ci_K cfg rfl rfl (by simp) (by simp) (C43 l hs hd)
end Go.Ab
namespace Go.Ab
open Go.Proofs
set_option maxRecDepth 100000
set_option maxHeartbeats 4000000
theorem bZ_len (l : List Int) : (bZ l).length = l.length := List.length_map ..
theorem bZ_inj : ∀ {a b : List Int}, dotsL a = true → dotsL b = true → bZ a = bZ b → a = b
 | [], [], _, _, _ => rfl
 | [], _ :: _, _, _, h => by simp [bZ] at h
 | _ :: _, [], _, _, h => by simp [bZ] at h
 | x :: a, y :: b, ha, hb, h => by
  unfold dotsL at ha hb
  rw [List.all_cons, Bool.and_eq_true] at ha hb
  simp only [bZ, List.map_cons, List.cons.injEq] at h
  have h1 := of_decide_eq_true ha.1
  have h2 := of_decide_eq_true hb.1
  have h3 := ib_nat (n := x) (by omega)
  have h4 := ib_nat (n := y) (by omega)
  rw [h.1] at h3
  have h5 : x = y := by omega
  rw [h5, bZ_inj (a := a) (b := b) ha.2 hb.2 h.2]
theorem dots_take {l : List Int} (h : dotsL l = true) (n : Nat) : dotsL (l.take n) = true := by
 unfold dotsL at h ⊢
 rw [List.all_eq_true] at h ⊢
 exact fun x hx => h x (List.mem_of_mem_take hx)
theorem dots_drop {l : List Int} (h : dotsL l = true) (n : Nat) : dotsL (l.drop n) = true := by
 unfold dotsL at h ⊢
 rw [List.all_eq_true] at h ⊢
 exact fun x hx => h x (List.mem_of_mem_drop hx)
theorem pre_bZ {p s : List Int} (hp : dotsL p = true) (hs : dotsL s = true) : preZ (bZ p) (bZ s) = preI p s := by
 unfold preZ preI
 rw [decide_eq_decide]
 constructor
 ·intro h
  have h1 := List.prefix_iff_eq_take.1 h
  rw [bZ_len, bZ, bZ, ← List.map_take] at h1
  have := bZ_inj hp (dots_take hs p.length) h1
  rw [this]; exact List.take_prefix _ _
 ·rintro ⟨r, rfl⟩
  exact ⟨bZ r, by simp [bZ]⟩
theorem bZ_drop (l : List Int) (n : Nat) : bZ (l.drop n) = (bZ l).drop n := by simp [bZ, List.map_drop]
theorem bZ_nil {l : List Int} : bZ l = [] ↔ l = [] := by simp [bZ]
def sigZ (t : List Sgn) : List Wd := t.map fun x => bZ x.cells
theorem sigZ_len (t : List Sgn) : (sigZ t).length = t.length := List.length_map ..
theorem sigZ_nth {t : List Sgn} {k : Nat} (hk : k < t.length) : nth (sigZ t) k = bZ (nth t k).cells := by
 rw [nth_eq (by rw [sigZ_len]; exact hk), nth_eq hk]; simp [sigZ]
def sTab (t : List Sgn) : Prop := t.length ≤ 64 ∧ ∀ k, k < t.length → 1 ≤ (nth t k).cells.length ∧ (nth t k).cells.length ≤ 4 ∧ dotsL (nth t k).cells = true
theorem sTab_of {t : List Sgn} (h : checkZ t = 0) : sTab t := by
 obtain ⟨c1, _, c3⟩ := checkZ_zero h
 refine ⟨c1, fun k hk => ?_⟩
 obtain ⟨⟨_, _, _, e4, e5⟩, e6, _⟩ := sgnAt_of (c3 k hk)
 exact ⟨e4, e5, e6⟩
theorem Cstep {t : List Sgn} (ht : sTab t) {w : List Int} (hw : dotsL w = true) (hwl : w.length ≤ 4) {k : Nat} (hk : k < t.length) {h : Heap} {p : Nat} {c : V} {fl : Fl} (hb : h.bs[p]? = some (.cells [R fl eS (sigZ t), c])) :
  Ci cfg (.func (.func 45) [] []) [.ptr p 0, .str (bZ w), .int .i64 k] h = some (.ret (.tuple [.str (bZ (stepZ w (nth t k).cells).1), .int .i64 (stepZ w (nth t k).cells).2.1, .bool (stepZ w (nth t k).cells).2.2.1, .bool (stepZ w (nth t k).cells).2.2.2]), h) := by
 obtain ⟨e1, e2, e3⟩ := ht.2 k hk
 have hp1 := pre_bZ (p := (nth t k).cells) (s := w) e3 hw
 have hp2 := pre_bZ (p := w) (s := (nth t k).cells) hw e3
 have l1 := bZ_len w
 have l2 := bZ_len (nth t k).cells
 have hn := sigZ_nth hk
 have hkl : k < (sigZ t).length := by rw [sigZ_len]; exact hk
 have hd1 := bZ_drop w (nth t k).cells.length
 have hd2 := bZ_drop (nth t k).cells w.length
 have m1 : preI (nth t k).cells w = true → (nth t k).cells.length ≤ w.length := fun h => (of_decide_eq_true h : (nth t k).cells <+: w).length_le
 have m2 : preI w (nth t k).cells = true → w.length ≤ (nth t k).cells.length := fun h => (of_decide_eq_true h : w <+: (nth t k).cells).length_le
 unfold stepZ
 generalize (nth t k).cells = x at *
 refine Ci_fun_wp (c := cfg) (fn := Tryd.f45) rfl Tryd.func45 rfl (by simp [Tryd.f45]) ?_
 cases h1 : preI x w with
 | true =>
  have := m1 h1
  rw [h1] at hp1
  simp (disch := first | assumption | omega | (simp; done) | (simp; omega)) [-getElem?_pos, gZ, gS, Tryd.f45]
  repeat' (first | ((first | refine wpc_split _ ?_ ?_ | refine ww_split _ ?_ ?_) <;> intro hc <;> try simp at hc) | (refine wp_drawF (by kernel_rfl) ?_) | refine wk_yldW _ ?_ | refine layOwe _ (by kernel_rfl) ?_ | refine owe ?_ (fun ho => ?_) | (simp (disch := first | assumption | omega | (simp; done) | (simp; omega)) [hb, hn, hkl, hp1, l1, l2, hd1, eS, -getElem?_pos, gZ, gS]))
  all_goals try (exfalso; omega)
 | false =>
  rw [h1] at hp1
  cases h2 : preI w x with
  | true =>
   have := m2 h2
   rw [h2] at hp2
   simp (disch := first | assumption | omega | (simp; done) | (simp; omega)) [-getElem?_pos, gZ, gS, Tryd.f45]
   repeat' (first | ((first | refine wpc_split _ ?_ ?_ | refine ww_split _ ?_ ?_) <;> intro hc <;> try simp at hc) | (refine wp_drawF (by kernel_rfl) ?_) | refine wk_yldW _ ?_ | refine layOwe _ (by kernel_rfl) ?_ | refine owe ?_ (fun ho => ?_) | (simp (disch := first | assumption | omega | (simp; done) | (simp; omega)) [hb, hn, hkl, hp1, hp2, l1, l2, hd2, eS, -getElem?_pos, gZ, gS]))
   all_goals try (exfalso; omega)
  | false =>
   rw [h2] at hp2
   simp (disch := first | assumption | omega | (simp; done) | (simp; omega)) [-getElem?_pos, gZ, gS, Tryd.f45]
   repeat' (first | ((first | refine wpc_split _ ?_ ?_ | refine ww_split _ ?_ ?_) <;> intro hc <;> try simp at hc) | (refine wp_drawF (by kernel_rfl) ?_) | refine wk_yldW _ ?_ | refine layOwe _ (by kernel_rfl) ?_ | refine owe ?_ (fun ho => ?_) | (simp (disch := first | assumption | omega | (simp; done) | (simp; omega)) [hb, hn, hkl, hp1, hp2, l1, l2, eS, -getElem?_pos, gZ, gS]))
   all_goals try (exfalso; omega)
   all_goals rfl
end Go.Ab
