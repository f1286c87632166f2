/- A part of the proof. -/
import Derived.Test.YtlmhbemgaikmaaaGreatDoorGr11
import Derived.Test.YtlmhbemgaikmaaaGreatDoorGr20
import Derived.Test.YtlmhbemgaikmaaaGreatDoorGr28
import Derived.Test.YtlmhbemgaikmaaaGreatDoorGr12
import Derived.Test.YtlmhbemgaikmaaaGreatDoorP10s
import Derived.Test.YtlmhbemgaikmaaaGreatDoorX48
import Derived.Test.YtlmhbemgaikmaaaGreatDoorGr29
import Derived.Test.YtlmhbemgaikmaaaGreatDoorGr33
import Derived.Test.YtlmhbemgaikmaaaGreatDoorGr19
set_option linter.unusedVariables false
set_option linter.unusedSimpArgs false
set_option linter.unusedSectionVars false
set_option linter.deprecated false
namespace Go.Ab
open Go.Proofs
set_option maxRecDepth 100000
def textZ (t : List Sgn) (l : List Nat) : Wd := l.flatMap fun k => (nth t k).text
theorem textZ_cons (t : List Sgn) (k : Nat) (l : List Nat) : textZ t (k :: l) = (nth t k).text ++ textZ t l := rfl
theorem cellsZ_cons (t : List Sgn) (k : Nat) (l : List Nat) : cellsZ t (k :: l) = (nth t k).cells ++ cellsZ t l := rfl
theorem textZ_app (t : List Sgn) (a b : List Nat) : textZ t (a ++ b) = textZ t a ++ textZ t b := by simp [textZ]
theorem cellsZ_app (t : List Sgn) (a b : List Nat) : cellsZ t (a ++ b) = cellsZ t a ++ cellsZ t b := by simp [cellsZ]
theorem preZ_iff {p s : Wd} : preZ p s = true ↔ p <+: s := by simp [preZ]
theorem drop_after {s x y : Wd} {i : Nat} (h : x ++ y <+: s.drop i) : y <+: s.drop (i + x.length) := by
 obtain ⟨r, hr⟩ := h
 refine ⟨r, ?_⟩
 rw [← List.drop_drop, ← hr, List.append_assoc, List.drop_left]
theorem tab_pos {t : List Sgn} (hc : checkZ t = 0) : ∀ j, j < t.length → 0 < lenZ t j := fun j hj => by
 obtain ⟨c1, c2, c3⟩ := checkZ_zero hc
 obtain ⟨⟨e1, e2, _⟩, _⟩ := sgnAt_of (c3 j hj)
 obtain ⟨_, e4⟩ := runesG_all e1
 have := runes_len _ _ _ (Nat.le_refl _) e4
 show 0 < (nth t j).text.length
 omega
theorem tab_cells {t : List Sgn} (hc : checkZ t = 0) : ∀ j, j < t.length → 1 ≤ cellZ t j ∧ cellZ t j ≤ 4 := fun j hj => by
 obtain ⟨c1, c2, c3⟩ := checkZ_zero hc
 obtain ⟨⟨_, _, _, e4, e5⟩, _⟩ := sgnAt_of (c3 j hj)
 exact ⟨e4, e5⟩
theorem least_path {t : List Sgn} {s : Wd} (h0 : ∀ j, j < t.length → 0 < lenZ t j) : ∀ (l : List Nat) (i : Nat), (∀ k ∈ l, k < t.length) → textZ t l <+: s.drop i →
  nth (leastL t s) i ≤ ((cellsZ t l).length : Int) + nth (leastL t s) (i + (textZ t l).length)
 | [], i, _, _ => by simp [cellsZ, textZ]
 | k :: l, i, hk, hp => by
  have hkt := hk k List.mem_cons_self
  rw [textZ_cons] at hp
  have h1 : (nth t k).text <+: s.drop i := (List.prefix_append _ _).trans hp
  have h3 := drop_after hp
  have ih := least_path h0 l (i + (nth t k).text.length) (fun x hx => hk x (List.mem_cons_of_mem _ hx)) h3
  have hl := h1.length_le
  rw [List.length_drop] at hl
  have hpos : 0 < (nth t k).text.length := h0 k hkt
  have ha := least_at (t := t) (s := s) h0 (i := i) (by omega)
  have hb : _ ≤ ((nth t k).cells.length : Int) + nth (leastL t s) (i + (nth t k).text.length) := bestZ_min (t := t) (s := s) (L := leastL t s) (i := i) t.length k hkt (preZ_iff.2 h1)
  rw [textZ_cons, cellsZ_cons, List.length_append, List.length_append, ← Nat.add_assoc]
  omega
theorem path_all {t : List Sgn} {s : Wd} (h0 : ∀ j, j < t.length → 0 < lenZ t j) : ∀ (f i : Nat), s.length ≤ i + f → i ≤ s.length → nth (leastL t s) i < neverZ →
  (∀ k ∈ pathZ t s f i, k < t.length) ∧ textZ t (pathZ t s f i) = s.drop i ∧ ((cellsZ t (pathZ t s f i)).length : Int) = nth (leastL t s) i
 | 0, i, hf, hi, _ => by
  obtain rfl : i = s.length := by omega
  exact ⟨fun k hk => (by cases hk), (by rw [List.drop_length]; rfl), (by rw [least_end]; rfl)⟩
 | f + 1, i, hf, hi, hn => by
  rw [pathZ]
  by_cases h : i < s.length
  ·rw [if_pos h]
   obtain ⟨p1, p2, p3, p4, p5, p6⟩ := path_step h0 h hn
   obtain ⟨q1, q2, q3⟩ := path_all h0 f _ (by omega) p2 p5
   generalize firstZ t s i = k at *
   refine ⟨fun x hx => ?_, ?_, ?_⟩
   ·rcases List.mem_cons.1 hx with rfl | hx
    ·exact p1
    ·exact q1 x hx
   ·rw [textZ_cons, q2]
    obtain ⟨r, hr⟩ := preZ_iff.1 p6
    rw [← List.drop_drop, ← hr]
    show _ ++ List.drop (nth t k).text.length _ = _
    rw [List.drop_left]
   ·rw [cellsZ_cons, List.length_append, p4]
    show (((nth t k).cells.length + _ : Nat) : Int) = ((nth t k).cells.length : Int) + _
    rw [← q3]; omega
  ·rw [if_neg h]
   obtain rfl : i = s.length := by omega
   exact ⟨fun k hk => (by cases hk), (by rw [List.drop_length]; rfl), (by rw [least_end]; rfl)⟩
theorem cellsZ_le {t : List Sgn} (hc : checkZ t = 0) : ∀ l : List Nat, (∀ k ∈ l, k < t.length) → (cellsZ t l).length ≤ 4 * l.length
 | [], _ => Nat.le_refl _
 | k :: l, h => by
  have := cellsZ_le hc l (fun x hx => h x (List.mem_cons_of_mem _ hx))
  have h1 := (tab_cells hc k (h k List.mem_cons_self)).2
  unfold cellZ at h1
  rw [cellsZ_cons, List.length_append, List.length_cons]; omega
theorem textZ_ge {t : List Sgn} (hc : checkZ t = 0) : ∀ l : List Nat, (∀ k ∈ l, k < t.length) → l.length ≤ (textZ t l).length
 | [], _ => Nat.le_refl _
 | k :: l, h => by
  have := textZ_ge hc l (fun x hx => h x (List.mem_cons_of_mem _ hx))
  have h1 := tab_pos hc k (h k List.mem_cons_self)
  unfold lenZ at h1
  rw [textZ_cons, List.length_append, List.length_cons]; omega
def Said (t : List Sgn) (s : Wd) (l : List Nat) : Prop := (∀ k ∈ l, k < t.length) ∧ textZ t l = s
theorem Said.app {t : List Sgn} {a b : Wd} {x y : List Nat} (hx : Said t a x) (hy : Said t b y) : Said t (a ++ b) (x ++ y) :=
 ⟨fun k hk => (List.mem_append.1 hk).elim (hx.1 k) (hy.1 k), by rw [textZ_app, hx.2, hy.2]⟩
theorem least_le {t : List Sgn} {s : Wd} {l : List Nat} (hc : checkZ t = 0) (h : Said t s l) : nth (leastL t s) 0 ≤ ((cellsZ t l).length : Int) := by
 have := least_path (t := t) (s := s) (tab_pos hc) l 0 h.1 (by rw [h.2]; exact List.prefix_refl _)
 rw [h.2, Nat.zero_add, least_end] at this
 omega
theorem said_of {t : List Sgn} {s : Wd} (hc : checkZ t = 0) (hn : nth (leastL t s) 0 < neverZ) : Said t s (pathZ t s s.length 0) ∧ ((cellsZ t (pathZ t s s.length 0)).length : Int) = nth (leastL t s) 0 := by
 obtain ⟨h1, h2, h3⟩ := path_all (t := t) (s := s) (tab_pos hc) s.length 0 (by omega) (by omega) hn
 exact ⟨⟨h1, h2⟩, h3⟩
theorem least_small {t : List Sgn} {s : Wd} (hc : checkZ t = 0) (hn : nth (leastL t s) 0 < neverZ) : nth (leastL t s) 0 ≤ 4 * (s.length : Int) := by
 obtain ⟨⟨h1, h2⟩, h3⟩ := said_of hc hn
 have a1 := cellsZ_le hc _ h1
 have a2 := textZ_ge hc _ h1
 rw [h2] at a2
 omega
theorem encode_of {t : List Sgn} {s : Wd} (hc : checkZ t = 0) (he : (runesG s).2 = 0) (hl : s.length ≤ 1024) (hn : nth (leastL t s) 0 < neverZ) :
  encodeZ t s = ((pathZ t s s.length 0).map (fun (k : Nat) => (k : Int)), cellsZ t (pathZ t s s.length 0), true, 0) := by
 have := least_small hc hn
 unfold encodeZ
 rw [if_neg (by simp [hc]), if_neg (by simp [he]), if_neg (by omega), if_neg (by omega)]
 rfl
theorem encode_no {t : List Sgn} {s : Wd} (hc : checkZ t = 0) (he : (runesG s).2 = 0) (hn : ¬ nth (leastL t s) 0 < neverZ) : encodeZ t s = ([], [], false, 0) := by
 unfold encodeZ
 rw [if_neg (by simp [hc]), if_neg (by simp [he]), if_pos (by omega)]
end Go.Ab
namespace Go.Ab
open Go.Proofs
set_option maxRecDepth 100000
set_option maxHeartbeats 4000000
theorem widthS_of {f : Font} (hc : checkS f = 0) {s : List UInt8} (h : (runesG s).2 = 0) : widthS f s = (wTo f (runesG s).1 (runesG s).1.length, 0) := by
 unfold widthS
 rw [if_neg (by simpa using hc), if_neg (by simpa using h)]
theorem w1 (f : Font) (a : Int) : wTo f [a] 1 = oneS f a := by
 show sumTo (0 + 1) _ = _
 rw [sumTo_succ, sumTo_zero]; simp [addS]
theorem w2 (f : Font) (a b : Int) : wTo f [a, b] 2 = oneS f a + oneS f b - nearS f a b := by
 show sumTo (1 + 1) _ = _
 rw [sumTo_succ, show sumTo 1 (addS f [a, b]) = sumTo (0 + 1) (addS f [a, b]) from rfl, sumTo_succ, sumTo_zero]
 simp [addS]; omega
theorem runesG_app {a b : List UInt8} (ha : (runesG a).2 = 0) (hb : (runesG b).2 = 0) (hl : a.length + b.length ≤ 4096) : runesG (a ++ b) = ((runesG a).1 ++ (runesG b).1, 0) := by
 obtain ⟨_, h1⟩ := runesG_all ha
 obtain ⟨_, h2⟩ := runesG_all hb
 exact runesG_some (by simp; omega) (by rw [runes_append h1, h2]; rfl)
theorem needW_ok {v : VwZ} {s : List UInt8} (hv : vwR v = true) (he : (runesG s).2 = 0) : needW v s = (v.speed * ((runesG s).1.length : Int), 0) := by unfold needW; rw [if_pos hv, he]
theorem needW_bound {v : VwZ} (hv : vwR v = true) (n : Nat) (h : n ≤ 4096) : 0 ≤ v.speed * (n : Int) ∧ v.speed * (n : Int) ≤ 4096000 := by
 obtain ⟨h1, h2⟩ := vwR_speed hv
 have h4 : 0 ≤ v.speed * (n : Int) := Int.mul_nonneg h1 (by omega)
 have h5 : v.speed * (n : Int) ≤ 1000 * 4096 := Int.mul_le_mul h2 (by omega) (by omega) (by omega)
 exact ⟨h4, by omega⟩
theorem widthW_s {v : VwZ} {s : List UInt8} (hv : vwR v = true) (he : (runesG s).2 = 0) (hc : v.cells = 0) : widthW v s = (wTo v.font (runesG s).1 (runesG s).1.length, 0) := by
 unfold widthW
 rw [if_pos hv, if_pos he, if_pos hc]
 exact widthS_of ((vwR_s hc).1 hv).2.2.1 he
theorem widthW_c {v : VwZ} {s : List UInt8} (hv : vwR v = true) (he : (runesG s).2 = 0) (hc : ¬ v.cells = 0) (hl : s.length ≤ 1024) :
  widthW v s = if nth (leastL v.signs s) 0 < neverZ then (nth (leastL v.signs s) 0, 0) else (0, 450) := by
 have hk := ((vwR_c hc).1 hv).2.2.2.1
 unfold widthW
 rw [if_pos hv, if_pos he, if_neg hc]
 by_cases h : nth (leastL v.signs s) 0 < neverZ
 ·rw [if_pos h, encode_of hk he hl h]
  simp only [codeW, if_true]
  rw [(said_of hk h).2]
 ·rw [if_neg h, encode_no hk he h]
  rfl
def otherW (v o : VwZ) : VwZ := { v with no := o.no, lang := o.lang, lines := o.lines, scr := o.scr }
def other2W (v o : VwZ) : VwZ := { v with no := o.no, lang := o.lang, lines := o.lines, scr := o.scr, room := o.room, cells := o.cells }
end Go.Ab
namespace Go.Ab
set_option maxRecDepth 100000
theorem joinTail_app (sep : List UInt8) (a b : List (List UInt8)) : Lib.joinTail sep (a ++ b) = Lib.joinTail sep a ++ Lib.joinTail sep b := by simp [Lib.joinTail]
theorem joinB_one (x sep : List UInt8) : joinB [x] sep = x := Lib.join_one x sep
theorem joinB_snoc {l : List (List UInt8)} (y sep : List UInt8) (h : l ≠ []) : joinB (l ++ [y]) sep = joinB l sep ++ (sep ++ y) := by
 cases l with
 | nil => exact absurd rfl h
 | cons x r =>
  unfold joinB
  rw [List.cons_append, Lib.join_cons, Lib.join_cons, joinTail_app]
  simp [Lib.joinTail]
def lnT (ws : List (List UInt8)) (i k : Nat) : List UInt8 := joinB ((ws.take (i + k)).drop i) [32]
theorem part_snoc {ws : List (List UInt8)} {i k : Nat} (h : i + k < ws.length) : (ws.take (i + (k + 1))).drop i = (ws.take (i + k)).drop i ++ [nth ws (i + k)] := by
 rw [show i + (k + 1) = i + k + 1 by omega, nth_take h, List.drop_append_of_le_length (by simp; omega)]
theorem prt_len {ws : List (List UInt8)} {i k : Nat} (h : i + k ≤ ws.length) : ((ws.take (i + k)).drop i).length = k := by simp; omega
theorem lnT_one {ws : List (List UInt8)} {i : Nat} (h : i < ws.length) : lnT ws i 1 = nth ws i := by
 have := part_snoc (ws := ws) (i := i) (k := 0) (by omega)
 unfold lnT
 rw [this, List.drop_eq_nil_of_le (by simp; omega), List.nil_append]
 exact joinB_one _ _
theorem lnT_succ {ws : List (List UInt8)} {i k : Nat} (hk : 1 ≤ k) (h : i + k < ws.length) : lnT ws i (k + 1) = lnT ws i k ++ ([32] ++ nth ws (i + k)) := by
 unfold lnT
 rw [part_snoc h]
 refine joinB_snoc _ _ (fun e => ?_)
 have := prt_len (ws := ws) (i := i) (k := k) (by omega)
 rw [e] at this; simp at this; omega
def wordsT (ws : List (List UInt8)) : Prop := ∀ i, i < ws.length → (runesG (nth ws i)).2 = 0 ∧ 1 ≤ (nth ws i).length ∧ (nth ws i).length ≤ 64
theorem space_runes : runesG [32] = ([32], 0) := runesG_some (by decide) (by
 have := runes_encAll (l := [32]) rfl
 exact this)
theorem lnT_runes {ws : List (List UInt8)} (hw : wordsT ws) (hn : ws.length ≤ 8) {i : Nat} : ∀ {k : Nat}, 1 ≤ k → i + k ≤ ws.length → (runesG (lnT ws i k)).2 = 0 ∧ (lnT ws i k).length ≤ 65 * k ∧ 1 ≤ (lnT ws i k).length
 | 0, h, _ => by omega
 | 1, _, h => by
  obtain ⟨a, b, c⟩ := hw i (by omega)
  rw [lnT_one (by omega)]; exact ⟨a, by omega, b⟩
 | k + 2, _, h => by
  obtain ⟨a, b, c⟩ := hw (i + (k + 1)) (by omega)
  have ih := lnT_runes hw hn (i := i) (k := k + 1) (by omega) (by omega)
  rw [lnT_succ (by omega) (by omega)]
  have h1 := runesG_app (a := [32]) (b := nth ws (i + (k + 1))) (by rw [space_runes]) a (by simp; omega)
  have h2 := runesG_app (a := lnT ws i (k + 1)) (b := [32] ++ nth ws (i + (k + 1))) ih.1 (by rw [h1]) (by simp; omega)
  refine ⟨by rw [h2], by simp; omega, by simp; omega⟩
theorem near_none {f : Font} (h : f.ks.length = 0) (a b : Int) : nearS f a b = 0 := by unfold nearS; rw [h]; rfl
theorem wTo_plain {f : Font} (h : f.ks.length = 0) (l : List Int) : ∀ n, n ≤ l.length → wTo f l n = ((l.take n).map (oneS f)).sum
 | 0, _ => by unfold wTo; rw [sumTo_zero]; simp
 | n + 1, hn => by
  rw [wTo_succ, wTo_plain h l n (by omega), nth_take (by omega), List.map_append, List.sum_append]
  unfold addS
  rw [near_none h]
  split <;> simp
theorem sum_perm {l m : List Int} (h : m.Perm l) : m.sum = l.sum := by
 induction h with
 | nil => rfl
 | cons x _ ih => simp only [List.sum_cons, ih]
 | swap x y l => simp only [List.sum_cons]; omega
 | trans _ _ a b => rw [a, b]
theorem width_perm {f : Font} (h : f.ks.length = 0) {l m : List Int} (hp : m.Perm l) : wTo f m m.length = wTo f l l.length := by
 rw [wTo_plain h m _ (Nat.le_refl _), wTo_plain h l _ (Nat.le_refl _), List.take_length, List.take_length]
 exact sum_perm (hp.map _)
theorem width_cells2 {v : VwZ} {a b : List UInt8} {x y : Int} (hv : vwR v = true) (ha : (runesG a).2 = 0) (hb : (runesG b).2 = 0) (hc : ¬ v.cells = 0) (hl : a.length + b.length ≤ 1024) (wa : widthW v a = (x, 0)) (wb : widthW v b = (y, 0)) :
  ∃ z, widthW v (a ++ b) = (z, 0) ∧ 0 ≤ z ∧ z ≤ x + y := by
 have hk := ((vwR_c hc).1 hv).2.2.2.1
 rw [widthW_c hv ha hc (by omega)] at wa
 rw [widthW_c hv hb hc (by omega)] at wb
 rw [widthW_c (s := a ++ b) hv (by rw [runesG_app ha hb (by omega)]) hc (by simp; omega)]
 by_cases h1 : nth (leastL v.signs a) 0 < neverZ
 ·rw [if_pos h1] at wa
  by_cases h2 : nth (leastL v.signs b) 0 < neverZ
  ·rw [if_pos h2] at wb
   simp only [Prod.mk.injEq, and_true] at wa wb
   obtain ⟨s1, e1⟩ := said_of hk h1
   obtain ⟨s2, e2⟩ := said_of hk h2
   have h3 := least_le hk (s1.app s2)
   rw [cellsZ_app, List.length_append] at h3
   have b1 := least_small hk h1
   have b2 := least_small hk h2
   have z3 := (least_all v.signs (a ++ b) 0).1
   have hn : nth (leastL v.signs (a ++ b)) 0 < neverZ := by unfold neverZ; omega
   exact ⟨_, if_pos hn, z3, by omega⟩
  ·rw [if_neg h2] at wb; cases wb
 ·rw [if_neg h1] at wa; cases wa
theorem width_font2 {v : VwZ} {a b : List UInt8} {x y : Int} (hv : vwR v = true) (ha : (runesG a).2 = 0) (hb : (runesG b).2 = 0) (hc : v.cells = 0) (hk : v.font.ks.length = 0) (hl : a.length + b.length ≤ 1024) (wa : widthW v a = (x, 0)) (wb : widthW v b = (y, 0)) : widthW v (a ++ b) = (x + y, 0) := by
 have hr := runesG_app ha hb (by omega)
 rw [widthW_s hv ha hc] at wa
 rw [widthW_s hv hb hc] at wb
 rw [widthW_s hv (by rw [hr]) hc, hr]
 simp only [Prod.mk.injEq, and_true] at wa wb ⊢
 rw [wTo_plain hk _ _ (Nat.le_refl _), List.take_length] at wa wb ⊢
 rw [List.map_append, List.sum_append, wa, wb]
def wdsT (v : VwZ) (ws : List (List UInt8)) (W : List Int) (S : Int) : Prop := W.length = ws.length ∧ widthW v [32] = (S, 0) ∧ ∀ i, i < ws.length → widthW v (nth ws i) = (nth W i, 0)
theorem lnT_width {v : VwZ} {ws : List (List UInt8)} {W : List Int} {S : Int} (hv : vwR v = true) (hw : wordsT ws) (hn : ws.length ≤ 8) (hW : wdsT v ws W S) (hk : v.cells = 0 → v.font.ks.length = 0) {i : Nat} :
  ∀ {k : Nat}, 1 ≤ k → i + k ≤ ws.length → ∃ x, widthW v (lnT ws i k) = (x, 0) ∧ x ≤ sumTo k (fun j => S + nth W (i + j)) - S
 | 0, h, _ => by omega
 | 1, _, h => by
  refine ⟨nth W i, by rw [lnT_one (by omega)]; exact hW.2.2 i (by omega), ?_⟩
  rw [sumTo_succ, sumTo_zero]; simp only [Nat.add_zero]; omega
 | k + 2, _, h => by
  obtain ⟨a, b, c⟩ := hw (i + (k + 1)) (by omega)
  obtain ⟨r1, r2, r3⟩ := lnT_runes hw hn (i := i) (k := k + 1) (by omega) (by omega)
  obtain ⟨x, hx, hx2⟩ := lnT_width hv hw hn hW hk (i := i) (k := k + 1) (by omega) (by omega)
  have w1 := hW.2.1
  have w2 := hW.2.2 (i + (k + 1)) (by omega)
  have h1 := runesG_app (a := [32]) (b := nth ws (i + (k + 1))) (by rw [space_runes]) a (by simp; omega)
  rw [lnT_succ (by omega) (by omega), sumTo_succ]
  by_cases hc : v.cells = 0
  ·have e1 := width_font2 (a := [32]) (b := nth ws (i + (k + 1))) hv (by rw [space_runes]) a hc (hk hc) (by simp; omega) w1 w2
   have e2 := width_font2 (a := lnT ws i (k + 1)) (b := [32] ++ nth ws (i + (k + 1))) hv r1 (by rw [h1]) hc (hk hc) (by simp; omega) hx e1
   exact ⟨_, e2, by omega⟩
  ·obtain ⟨z, e1, _, z2⟩ := width_cells2 (a := [32]) (b := nth ws (i + (k + 1))) hv (by rw [space_runes]) a hc (by simp; omega) w1 w2
   obtain ⟨z', e2, _, z4⟩ := width_cells2 (a := lnT ws i (k + 1)) (b := [32] ++ nth ws (i + (k + 1))) hv r1 (by rw [h1]) hc (by simp; omega) hx e1
   exact ⟨_, e2, by omega⟩
end Go.Ab
namespace Go.Ab
open Go.Proofs
set_option maxRecDepth 100000
set_option maxHeartbeats 4000000
def cBo (f : Nat → Bool) : Nat → V := fun j => .bool (f j)
@[simp] theorem cBo_at (f : Nat → Bool) (j : Nat) : cBo f j = .bool (f j) := rfl
def updBo (f : Nat → Bool) (v : Nat) (x : Bool) : Nat → Bool := fun j => if j = v then x else f j
@[simp] theorem upd_cBo (f : Nat → Bool) (v : Nat) (x : Bool) : upd (cBo f) v (.bool x) = cBo (updBo f v x) := by
 funext j; unfold upd cBo updBo; split <;> rfl
theorem cBo_rep (n : Nat) (x : Bool) : List.replicate n (V.bool x) = tab n (cBo fun _ => x) := rep_tab n _
def metT (L : List Int) (i : Nat) : Nat → Bool := fun v => decide (atF L v < i)
theorem at_eq {L : List Int} {i u : Nat} (hi : i < L.length) (hu : u < L.length) : atF L u = i ↔ u = ordF L i := by
 constructor
 ·intro h; rw [← h, ord_at hu]
 ·intro h; rw [h, at_ord hi]
theorem metT_set {L : List Int} {i : Nat} (hi : i < L.length) : tab L.length (cBo (updBo (metT L i) (ordF L i) true)) = tab L.length (cBo (metT L (i + 1))) := tab_ext fun u hu => by
 unfold cBo
 congr 1
 show (if u = ordF L i then true else decide (atF L u < i)) = decide (atF L u < i + 1)
 by_cases e : u = ordF L i
 ·have := (at_eq hi hu).2 e
  rw [if_pos e, decide_eq_true (by omega)]
 ·have h2 : ¬ atF L u = i := fun h => e ((at_eq hi hu).1 h)
  rw [if_neg e, decide_eq_decide]; omega
theorem metT_new {L : List Int} {i : Nat} (hi : i < L.length) : metT L i (ordF L i) = false := by
 unfold metT; rw [at_ord hi]; simp
theorem metT_none (L : List Int) : (fun _ : Nat => false) = metT L 0 := by funext v; unfold metT; simp
theorem vw_cells {v : VwZ} (hv : vwR v = true) (hc : ¬ v.cells = 0) : 1 ≤ v.cells ∧ v.cells ≤ 80 := inB_t.1 ((vwR_c hc).1 hv).2.1
def fitT (v : VwZ) (s : List UInt8) (room : Int) : Prop := (v.cells = 0 → v.font.ks.length = 0) → ∃ x, widthW v s = (x, 0) ∧ x ≤ room
theorem C15 (v : VwZ) (s : List UInt8) (room : Int) (hs : smVw v) (hl : s.length ≤ 1024) (hv : vwR v = true) (he : (runesG s).2 = 0) (hw : fitT v s room) : Kc cfg 15 [.agg [.int .i64 v.no, .int .i64 v.lang, .int .i64 v.lines, .int .i64 v.room, .int .i64 v.cells, .int .i64 v.speed, .bool v.right, R fl0 eG v.font.gs, .int .i64 v.font.other, R fl0 eK v.font.ks, R fl0 eZ v.signs, .int .i64 v.scr.w, .int .i64 v.scr.h, R fl0 eQ v.scr.bl], .str s, .int .i64 room] (.ret (.bool true)) := by
 have hsl : s.length < 1099511627776 := by omega
 have hown := runesG_len' s
 unfold fitT at hw
 by_cases hc : v.cells = 0
 ·obtain ⟨k1, k2, k3, k4, k5⟩ := lev_ok v.right he
  obtain ⟨m, hm⟩ : ∃ m, m = shownL (runesG s).1 (levS (runesG s).1 v.right).1 := ⟨_, rfl⟩
  obtain ⟨p1, p2, p3, p4, p5⟩ := show_right v.right he m hm
  have hsh : shapeW v s = (encAll m, 0) := by unfold shapeW; rw [if_pos hv, if_pos he, if_pos hc, p1]
  have hnm := fun i (h : i < (runesG s).1.length) => shown_nth (l := (runesG s).1) (L := (levS (runesG s).1 v.right).1) h
  rw [← hm] at hnm
  have hml : (encAll m).length < 1099511627776 := by omega
  have hwe : ∀ h : v.font.ks.length = 0, widthW v (encAll m) = widthW v s := fun h => by
   rw [widthW_s hv he hc, widthW_s hv (by rw [p2]) hc, p2]
   rw [width_perm h p3]
  have hks := hs.1.2
  have hcl : (0 < v.cells) = False := eq_false (by omega)
  have hkr : v.font.ks.length = 0 ∨ 0 < v.font.ks.length := by omega
  obtain ⟨x, hx⟩ : ∃ x, v.font.ks.length = 0 → widthW v s = (x, 0) ∧ x ≤ room := by
   by_cases h : v.font.ks.length = 0
   ·obtain ⟨x, a, b⟩ := hw (fun _ => h); exact ⟨x, fun _ => ⟨a, b⟩⟩
   ·exact ⟨0, fun e => absurd e h⟩
  have hx1 : v.font.ks.length = 0 → widthW v s = (x, 0) := fun h => (hx h).1
  have hx2 : v.font.ks.length = 0 → widthW v (encAll m) = (x, 0) := fun h => by rw [hwe h]; exact (hx h).1
  have hx3 : v.font.ks.length = 0 → x ≤ room := fun h => (hx h).2
  generalize hlv : (levS (runesG s).1 v.right).1 = L at *
  have hsL : L.length < 1099511627776 := by omega
  have hrn := fun i (h : i < (runesG s).1.length) => nth_rowF (g := fun i => (ordF L i : Int)) h
  have hrl : (rowF (runesG s).1.length (fun i => (ordF L i : Int))).length = (runesG s).1.length := by simp
  have holt := fun i (h : i < (runesG s).1.length) => ordF_lt (L := L) (i := i) (by omega)
  generalize hW : rowF (runesG s).1.length (fun i => (ordF L i : Int)) = W at *
  generalize hl2 : (runesG s).1 = l at *
  refine outS_of_wp cfg (fn := Tryz.f15) Tryz.func15 rfl (by simp [Tryz.f15]) ?_
  simp (disch := first|exact DD|fail) [-getElem?_pos, gZ, gS, Tryz.f15, emptyH]
  repeat' (first|((first|refine wA ?_ ?_|refine wB ?_ ?_)<;>intro hc<;>try simp at hc)|refine wF ?_|refine wY ?_|refine wL ?_|refine owe ?_ fun ho=>?_|(simp (disch := first|exact DD|fail) [emptyH, hs, hv, he, hsh, p2, p5, hcl, hl2, hlv, k1, k3, k5, -getElem?_pos, gZ, gS]))
  all_goals try (exfalso; omega)
  refine wp_loopE cfg rfl (fun f0 h0 m fr h => ∃ i : Nat, fr 1 = f0 1 ∧ fr 2 = f0 2 ∧ fr 3 = f0 3 ∧ fr 7 = f0 7 ∧ fr 9 = f0 9 ∧ fr 11 = f0 11 ∧ fr 17 = f0 17 ∧ fr 19 = f0 19 ∧ fr 108 = f0 108 ∧ fr 109 = f0 109 ∧ fr 110 = .int .i64 i ∧ (h.bs = h0.bs.set 1 (.cells (tab L.length (cBo (metT L i))))) ∧ (i + m = l.length)) (l.length) _ _ ⟨0, rfl, rfl, rfl, rfl, rfl, rfl, rfl, rfl, rfl, rfl, by first | rfl | (simp; done) | (simp [R]; done) | simp [R], by simp [cBo_rep, ← metT_none, k2], by first | rfl | (simp; done) | omega⟩ ?_
  rintro Am Af Ah ⟨i, A1, A2, A3, A7, A9, A11, A17, A19, A108, A109, A110, hb, hmm⟩ Aih
  try simp at A1 A2 A3 A7 A9 A11 A17 A19 A108 A109
  simp at hb
  by_cases hi : i < l.length
  ·have h1 := hrn i hi
   have h2 := hnm i hi
   have h3 := holt i hi
   have h4 := metT_new (L := L) (i := i) (by omega)
   have h5 := metT_set (L := L) (i := i) (by omega)
   have hiW : i < W.length := by omega
   have him : i < m.length := by omega
   have hol : ordF L i < l.length := by omega
   repeat' (first|((first|refine wA ?_ ?_|refine wB ?_ ?_)<;>intro hc<;>try simp at hc)|refine wF ?_|refine wY ?_|refine wL ?_|refine owe ?_ fun ho=>?_|(simp (disch := first|exact DD|fail) [A1, A2, A3, A7, A9, A11, A17, A19, A108, A109, A110, hb, eI, h1, h2, h4, h5, hiW, him, hol, tab_get1, tab_set, upd_cBo, -getElem?_pos, gZ, gS]))
   all_goals try (exfalso; omega)
   exact Aih (Am - 1) _ _ (by omega) ⟨i + 1, by simp [A1, A2, A3, A7, A9, A11, A17, A19, A108, A109, A110, hb, h5], by simp [A1, A2, A3, A7, A9, A11, A17, A19, A108, A109, A110, hb, h5], by simp [A1, A2, A3, A7, A9, A11, A17, A19, A108, A109, A110, hb, h5], by simp [A1, A2, A3, A7, A9, A11, A17, A19, A108, A109, A110, hb, h5], by simp [A1, A2, A3, A7, A9, A11, A17, A19, A108, A109, A110, hb, h5], by simp [A1, A2, A3, A7, A9, A11, A17, A19, A108, A109, A110, hb, h5], by simp [A1, A2, A3, A7, A9, A11, A17, A19, A108, A109, A110, hb, h5], by simp [A1, A2, A3, A7, A9, A11, A17, A19, A108, A109, A110, hb, h5], by simp [A1, A2, A3, A7, A9, A11, A17, A19, A108, A109, A110, hb, h5], by simp [A1, A2, A3, A7, A9, A11, A17, A19, A108, A109, A110, hb, h5], by simp [A1, A2, A3, A7, A9, A11, A17, A19, A108, A109, A110, hb, h5], (by simp [hb, h5]), by omega⟩
  ·rcases hkr with h0 | h0
   ·have a1 := hx1 h0
    have a2 := hx2 h0
    have a3 := hx3 h0
    repeat' (first|((first|refine wA ?_ ?_|refine wB ?_ ?_)<;>intro hc<;>try simp at hc)|refine wF ?_|refine wY ?_|refine wL ?_|refine owe ?_ fun ho=>?_|(simp (disch := first|exact DD|fail) [A1, A2, A3, A7, A9, A11, A17, A19, A108, A109, A110, hb, hrl, hs, hv, he, h0, a1, a2, a3, -getElem?_pos, gZ, gS]))
    all_goals try (exfalso; omega)
   ·repeat' (first|((first|refine wA ?_ ?_|refine wB ?_ ?_)<;>intro hc<;>try simp at hc)|refine wF ?_|refine wY ?_|refine wL ?_|refine owe ?_ fun ho=>?_|(simp (disch := first|exact DD|fail) [A1, A2, A3, A7, A9, A11, A17, A19, A108, A109, A110, hb, hrl, h0, -getElem?_pos, gZ, gS]))
    all_goals try (exfalso; omega)
 ·obtain ⟨x, hx, hx2⟩ := hw (fun e => absurd e hc)
  have hcc := vw_cells hv hc
  have hcl : (0 < v.cells) = True := eq_true (by omega)
  have hsh : shapeW v s = (s, 0) := by unfold shapeW; rw [if_pos hv, if_pos he, if_neg hc]
  refine outS_of_wp cfg (fn := Tryz.f15) Tryz.func15 rfl (by simp [Tryz.f15]) ?_
  simp (disch := first|exact DD|fail) [-getElem?_pos, gZ, gS, Tryz.f15, emptyH]
  repeat' (first|((first|refine wA ?_ ?_|refine wB ?_ ?_)<;>intro hc<;>try simp at hc)|refine wF ?_|refine wY ?_|refine wL ?_|refine owe ?_ fun ho=>?_|(simp (disch := first|exact DD|fail) [emptyH, hs, hv, he, hsh, hcl, hx, hx2, -getElem?_pos, gZ, gS]))
  all_goals try (exfalso; omega)
@[simp] theorem S15 (v : VwZ) (s : List UInt8) (room : Int) (hs : smVw v) (hl : s.length ≤ 1024) (hv : vwR v = true) (he : (runesG s).2 = 0) (hw : fitT v s room) (q1 q2 q3 q4 : Fl) (hh : Heap) : Ci cfg (.func (.func 15) [] []) [.agg [.int .i64 v.no, .int .i64 v.lang, .int .i64 v.lines, .int .i64 v.room, .int .i64 v.cells, .int .i64 v.speed, .bool v.right, R  q1 eG v.font.gs, .int .i64 v.font.other, R  q2 eK v.font.ks, R  q3 eZ v.signs, .int .i64 v.scr.w, .int .i64 v.scr.h, R  q4 eQ v.scr.bl], .str s, .int .i64 room] hh = some (.ret (.bool true), hh) :=
 Ci_K cfg rfl rfl (by simp) (by simp) (C15 v s room hs hl hv he hw)
end Go.Ab
