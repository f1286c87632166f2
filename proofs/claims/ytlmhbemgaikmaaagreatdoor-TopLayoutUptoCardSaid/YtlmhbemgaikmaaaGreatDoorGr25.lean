/- A part of the proof. -/
import Derived.Test.YtlmhbemgaikmaaaGreatDoorGr12
import Derived.Test.YtlmhbemgaikmaaaGreatDoorGr24
import Derived.Test.YtlmhbemgaikmaaaGreatDoorGr20
import Derived.Test.YtlmhbemgaikmaaaGreatDoorGr21
import Derived.Test.YtlmhbemgaikmaaaGreatDoorGr23
import Derived.Test.YtlmhbemgaikmaaaGreatDoorGr5
import Derived.Test.YtlmhbemgaikmaaaGreatDoorGr6
import Derived.Test.YtlmhbemgaikmaaaGreatDoorRD10
set_option linter.unusedVariables false
set_option linter.unusedSimpArgs false
set_option linter.unusedSectionVars false
set_option linter.deprecated false
namespace Go.Ab
open Go.Proofs
set_option maxRecDepth 100000
set_option maxHeartbeats 4000000
theorem gAll_hi {gs : List Glyph} (h : gAll gs = true) : ∀ (j i : Nat), i ≤ j → j < gs.length → (nth gs i).hi ≤ (nth gs j).hi := by
 intro j
 induction j with
 | zero =>
  intro i hi hj
  have : i = 0 := by omega
  subst this; omega
 | succ j ih =>
  intro i hi hj
  by_cases he : i = j + 1
  ·subst he; omega
  ·have h1 := ih i (by omega) (by omega)
   have h2 := allTo_iff.1 h (j + 1) hj
   simp only [Bool.and_eq_true, gOk, gRise, decide_eq_true_eq, Nat.add_sub_cancel] at h2
   have := h2.2 (by omega)
   omega
theorem gAll_lo {gs : List Glyph} (h : gAll gs = true) {i j : Nat} (hij : i < j) (hj : j < gs.length) : (nth gs i).hi < (nth gs j).lo := by
 have h1 := gAll_hi h (j - 1) i (by omega) (by omega)
 have h2 := allTo_iff.1 h j hj
 simp only [Bool.and_eq_true, gRise, decide_eq_true_eq] at h2
 have := h2.2 (by omega)
 omega
theorem oneS_search {f : Font} (h : checkS f = 0) {r : Int} {n : Nat} (hn : n ≤ f.gs.length) (h1 : ∀ j, j < n → (nth f.gs j).hi < r) (h2 : n < f.gs.length → r ≤ (nth f.gs n).hi) :
  oneS f r = if n < f.gs.length ∧ (nth f.gs n).lo ≤ r then (nth f.gs n).width else f.other := by
 obtain ⟨_, _, hg, _⟩ := checkS_ok h
 have hb : ∀ j, j < n → gHit f r j = false := fun j hj => by
  have := h1 j hj
  unfold gHit; rw [decide_eq_false_iff_not]; omega
 split
 ·rename_i hc
  exact oneS_at hc.1 (decide_eq_true ⟨hc.2, h2 hc.1⟩) hb
 ·rename_i hc
  refine oneS_no fun i hi => ?_
  by_cases hin : i < n
  ·exact hb i hin
  ·unfold gHit
   rw [decide_eq_false_iff_not]
   by_cases hie : i = n
   ·subst hie; intro hx; exact hc ⟨hi, hx.1⟩
   ·have h3 := gAll_lo hg (i := n) (j := i) (by omega) hi
    have h4 := h2 (by omega)
    omega
theorem Cholds (g : Glyph) (r : Int) (p : Nat) (h : Heap) (hb : h.bs[p]? = some (.cells [.int .i64 r])) : Ci cfg (.func (.func 155) [] [.ptr p 0]) [.agg (eG g)] h = some (.ret (.bool (decide (r ≤ g.hi))), ⟨h.bs ++ [.cells (eG g)], h.ts⟩) := by
 have hp : p < h.bs.length := (List.getElem?_eq_some_iff.1 hb).1
 have hb2 : ∀ x : Blk, (h.bs ++ [x])[p]? = some (.cells [.int .i64 r]) := fun x => by rw [bs_left hp, hb]
 have hl : ∀ x : Blk, (h.bs ++ [x])[h.bs.length]? = some x := fun b => by simp
 clear hp
 refine Ci_fun_wp (fn := Tryz.f155) rfl Tryz.func155 rfl (by simp [Tryz.f155]) ?_
 simp (disch := first|exact DD|fail) [-getElem?_pos, gZ, gS, Tryz.f155, eG, hb2, hl]
 simp [newB]
theorem Wfirst {k : CC} {K : List Fr} {Q : Ax → St → Prop} (f : Font) (hc : checkS f = 0) (r : Int) (p : Nat) (q : Fl) (hh : Heap) (hb : hh.bs[p]? = some (.cells [.int .i64 r]))
  (H : ∀ (X : List Blk) (n : Nat), n ≤ f.gs.length → (∀ j, j < n → (nth f.gs j).hi < r) → (n < f.gs.length → r ≤ (nth f.gs n).hi) → wk cfg k K Q (some (.ret (.int .i64 n), ⟨hh.bs ++ X, hh.ts⟩))) :
  wk cfg k K Q (Ci cfg (.func (.func 154) [] []) [R q eG f.gs, .func (.func 155) [] [.ptr p 0]] hh) := by
 obtain ⟨hlen, _, hg, _⟩ := checkS_ok hc
 have hp : p < hh.bs.length := (List.getElem?_eq_some_iff.1 hb).1
 repeat' (first|((first|refine wA ?_ ?_|refine wB ?_ ?_)<;>intro hc<;>try simp at hc)|refine wF ?_|refine wY ?_|refine wL ?_|refine owe ?_ fun ho=>?_|(simp (disch := first|exact DD|fail) [Tryz.f154, -getElem?_pos, gZ, gS]))
 refine wp_loopE cfg rfl (fun f0 h0 m fr h => ∃ a : Nat, ∃ b : Nat, ∃ AX : List Blk, fr 0 = f0 0 ∧ fr 1 = f0 1 ∧ fr 5 = .int .i64 a ∧ fr 6 = .int .i64 b ∧ h.bs = h0.bs ++ AX ∧ (h.ts = hh.ts) ∧ (a ≤ b ∧ b ≤ f.gs.length) ∧ (m = b - a) ∧ (∀ j, j < a → (nth f.gs j).hi < r) ∧ (b < f.gs.length → r ≤ (nth f.gs b).hi)) (f.gs.length) _ _ ⟨0, f.gs.length, [], rfl, rfl, by first | rfl | (simp; done) | (simp [R]; done) | simp [R], by first | rfl | (simp; done) | (simp [R]; done) | simp [R], by simp, by first | rfl | (simp; done) | omega, by first | rfl | (simp; done) | omega, by first | rfl | (simp; done) | omega, by first | rfl | (simp; done) | omega, by first | rfl | (simp; done) | omega⟩ ?_
 rintro Am Af Ah ⟨a, b, AX, A0, A1, A5, A6, Abs, hts, hab, hm, h1, h2⟩ Aih
 try simp at A0 A1 Abs
 have hb2 : Ah.bs[p]? = some (.cells [.int .i64 r]) := by rw [Abs, bs_left hp, hb]
 have hcl := fun g => Cholds g r p Ah hb2
 simp only [eG] at hcl
 by_cases hlt : a < b
 ·obtain ⟨c, hc2⟩ : ∃ c : Nat, c = (a + b) / 2 := ⟨_, rfl⟩
  have hq : ((a : Int) + b) / 2 = (c : Int) := by omega
  have hmid : c < f.gs.length := by omega
  have hac : a ≤ c ∧ c < b := by omega
  clear hc2
  by_cases hle : r ≤ (nth f.gs c).hi
  ·have hd : decide (r ≤ (nth f.gs c).hi) = true := decide_eq_true hle
   repeat' (first|((first|refine wA ?_ ?_|refine wB ?_ ?_)<;>intro hc<;>try simp at hc)|refine wF ?_|refine wY ?_|refine wL ?_|refine owe ?_ fun ho=>?_|(simp (disch := first|exact DD|fail) [A0, A1, A5, A6, Abs, eG, hq, hcl, hd, -getElem?_pos, gZ, gS]))
   exact Aih (c - a) _ _ (by omega) ⟨a, c, AX ++ [.cells (eG (nth f.gs c))], by simp [A0, A1, A5, A6, Abs, eG], by simp [A0, A1, A5, A6, Abs, eG], by simp [A0, A1, A5, A6, Abs, eG], by simp [A0, A1, A5, A6, Abs, eG], by simp [A0, A1, A5, A6, Abs, eG], by simp [hts], by omega, by omega, h1, fun _ => hle⟩
  ·have hd : decide (r ≤ (nth f.gs c).hi) = false := decide_eq_false hle
   have hle2 := fun (j : Nat) (hj : j ≤ c) => gAll_hi hg c j hj hmid
   repeat' (first|((first|refine wA ?_ ?_|refine wB ?_ ?_)<;>intro hc<;>try simp at hc)|refine wF ?_|refine wY ?_|refine wL ?_|refine owe ?_ fun ho=>?_|(simp (disch := first|exact DD|fail) [A0, A1, A5, A6, Abs, eG, hq, hcl, hd, -getElem?_pos, gZ, gS]))
   exact Aih (b - (c + 1)) _ _ (by omega) ⟨c + 1, b, AX ++ [.cells (eG (nth f.gs c))], by simp [A0, A1, A5, A6, Abs, eG], by simp [A0, A1, A5, A6, Abs, eG], by simp [A0, A1, A5, A6, Abs, eG], by simp [A0, A1, A5, A6, Abs, eG], by simp [A0, A1, A5, A6, Abs, eG], by simp [hts], by omega, by omega, fun j hj => Int.lt_of_le_of_lt (hle2 j (by omega)) (by omega), h2⟩
 ·have hab2 : a = b := by omega
  subst hab2
  repeat' (first|((first|refine wA ?_ ?_|refine wB ?_ ?_)<;>intro hc<;>try simp at hc)|refine wF ?_|refine wY ?_|refine wL ?_|refine owe ?_ fun ho=>?_|(simp (disch := first|exact DD|fail) [A0, A1, A5, A6, Abs, -getElem?_pos, gZ, gS]))
  have := H AX a hab.2 h1 h2
  rw [← hts, ← Abs] at this
  exact this
def kEnt (ks : List Kern) (i : Nat) : V × V × Nat := (.agg [.int .i64 (nth ks i).a, .int .i64 (nth ks i).b], .int .i64 (nth ks i).by', i)
def kMap (ks : List Kern) (n : Nat) : List (V × V × Nat) := (List.range n).map (kEnt ks)
theorem kMap_succ (ks : List Kern) (n : Nat) : kMap ks (n + 1) = kMap ks n ++ [kEnt ks n] := by
 unfold kMap; rw [List.range_succ, List.map_append]; rfl
theorem eqKeyP (a b c d : Int) : eqKey Tryz.prog 148 (.agg [.int .i64 a, .int .i64 b]) (.agg [.int .i64 c, .int .i64 d]) = some (decide (a = c ∧ b = d)) := by
 have e : ∀ x y : Int, (x == y) = decide (x = y) := fun x y => by by_cases h : x = y <;> simp [h]
 simp [eqKey, eqElems, eqCell]
 rw [e, e]
 by_cases h1 : a = c
 ·by_cases h2 : b = d
  ·rw [decide_eq_true h1, decide_eq_true h2]; rfl
  ·rw [decide_eq_true h1, decide_eq_false h2]; rfl
 ·rw [decide_eq_false h1]; rfl
theorem findK_none {ks : List Kern} {n : Nat} {a b : Int} : (∀ i, i < n → ¬ ((nth ks i).a = a ∧ (nth ks i).b = b)) → findK Tryz.prog 148 (.agg [.int .i64 a, .int .i64 b]) (kMap ks n) = some none := by
 intro h
 unfold kMap
 have key : ∀ l : List Nat, (∀ i ∈ l, ¬ ((nth ks i).a = a ∧ (nth ks i).b = b)) → findK Tryz.prog 148 (.agg [.int .i64 a, .int .i64 b]) (l.map (kEnt ks)) = some none := by
  intro l
  induction l with
  | nil => intro _; rfl
  | cons i l ih =>
   intro hl
   have h1 := hl i (by simp)
   have h2 : decide (a = (nth ks i).a ∧ b = (nth ks i).b) = false := decide_eq_false fun hx => h1 ⟨hx.1.symm, hx.2.symm⟩
   simp only [List.map_cons, kEnt, findK, eqKeyP, h2]
   have := ih (fun j hj => hl j (List.mem_cons_of_mem _ hj))
   simp only [this]
 exact key _ (by simpa using h)
theorem findK_hit {ks : List Kern} {n : Nat} {a b : Int} (i : Nat) (hi : i < n) (h : (nth ks i).a = a ∧ (nth ks i).b = b) (hb : ∀ j, j < i → ¬ ((nth ks j).a = a ∧ (nth ks j).b = b)) :
  findK Tryz.prog 148 (.agg [.int .i64 a, .int .i64 b]) (kMap ks n) = some (some (i, .int .i64 (nth ks i).by', i)) := by
 have key : ∀ (m s : Nat), s ≤ i → i < s + m → findK Tryz.prog 148 (.agg [.int .i64 a, .int .i64 b]) ((List.range' s m).map (kEnt ks)) = some (some (i - s, .int .i64 (nth ks i).by', i)) := by
  intro m
  induction m with
  | zero => intro s h1 h2; omega
  | succ m ih =>
   intro s h1 h2
   rw [List.range'_succ, List.map_cons]
   by_cases hs : s = i
   ·subst hs
    have h3 : decide (a = (nth ks s).a ∧ b = (nth ks s).b) = true := decide_eq_true ⟨h.1.symm, h.2.symm⟩
    simp only [kEnt, findK, eqKeyP, h3]
    simp
   ·have h3 : decide (a = (nth ks s).a ∧ b = (nth ks s).b) = false := decide_eq_false fun hx => hb s (by omega) ⟨hx.1.symm, hx.2.symm⟩
    simp only [kEnt, findK, eqKeyP, h3]
    have := ih (s + 1) (by omega) (by omega)
    simp only [this]
    congr 3; omega
 unfold kMap
 rw [List.range_eq_range']
 have := key n 0 (by omega) (by omega)
 simpa using this
theorem kAll_lt {ks : List Kern} (h : kAll ks = true) : ∀ (j i : Nat), i < j → j < ks.length → (nth ks i).a < (nth ks j).a ∨ (nth ks i).a = (nth ks j).a ∧ (nth ks i).b < (nth ks j).b := by
 intro j
 induction j with
 | zero => intro i hi; omega
 | succ j ih =>
  intro i hi hj
  have h2 := allTo_iff.1 h (j + 1) hj
  simp only [Bool.and_eq_true, kRise, decide_eq_true_eq, Nat.add_sub_cancel] at h2
  have h3 := h2.2 (by omega)
  by_cases he : i = j
  ·subst he; exact h3
  ·have := ih i (by omega) (by omega)
   omega
theorem kMap_near {f : Font} (h : checkS f = 0) (a b : Int) :
  ∃ o, findK Tryz.prog 148 (.agg [.int .i64 a, .int .i64 b]) (kMap f.ks f.ks.length) = some o ∧ (o = none ∧ nearS f a b = 0 ∨ ∃ i, o = some (i, .int .i64 (nearS f a b), i)) := by
 by_cases hx : ∃ i, i < f.ks.length ∧ (nth f.ks i).a = a ∧ (nth f.ks i).b = b
 ·obtain ⟨i, hi, h1⟩ := hx
  obtain ⟨_, _, _, hk⟩ := checkS_ok h
  have hb : ∀ j, j < i → ¬ ((nth f.ks j).a = a ∧ (nth f.ks j).b = b) := by
   intro j hj h2
   have := kAll_lt hk i j hj hi
   omega
  refine ⟨_, findK_hit i hi h1 hb, .inr ⟨i, ?_⟩⟩
  rw [nearS_at hi (decide_eq_true h1) (fun j hj => decide_eq_false (hb j hj))]
 ·have hb : ∀ i, i < f.ks.length → ¬ ((nth f.ks i).a = a ∧ (nth f.ks i).b = b) := fun i hi h1 => hx ⟨i, hi, h1⟩
  exact ⟨none, findK_none hb, .inl ⟨rfl, nearS_no (fun i hi => decide_eq_false (hb i hi))⟩⟩
end Go.Ab
namespace Go.Ab
open Go.Proofs
set_option maxRecDepth 100000
set_option maxHeartbeats 4000000
def runesF (f : Font) (s : List UInt8) : List Int × Int := if checkS f ≠ 0 then ([], checkS f) else runesG s
theorem C149 (f : Font) (s : List UInt8) (hs : f.gs.length < 1099511627776 ∧ f.ks.length < 1099511627776) (hl : s.length < 1099511627776) : Kc cfg 149 [.agg [R fl0 eG f.gs, .int .i64 f.other, R fl0 eK f.ks], .str s] (.ret (.tuple [R fl0 eI (runesF f s).1, .int .i64 (runesF f s).2])) := by
 by_cases hc0 : checkS f = 0
 ·have hr : runesF f s = runesG s := by unfold runesF; rw [if_neg (by simpa using hc0)]
  rw [hr]
  refine outS_of_wp cfg (fn := Tryz.f149) Tryz.func149 rfl (by simp [Tryz.f149]) ?_
  simp (disch := first|exact DD|fail) [-getElem?_pos, gZ, gS, Tryz.f149, hc0]
  repeat' (first|((first|refine wA ?_ ?_|refine wB ?_ ?_)<;>intro hc<;>try simp at hc)|refine wF ?_|refine wY ?_|refine wL ?_|refine owe ?_ fun ho=>?_|(simp (disch := first|exact DD|fail) [hc0, -getElem?_pos, gZ, gS]))
 ·have hr : runesF f s = ([], checkS f) := by unfold runesF; rw [if_pos hc0]
  rw [hr]
  refine outS_of_wp cfg (fn := Tryz.f149) Tryz.func149 rfl (by simp [Tryz.f149]) ?_
  simp (disch := first|exact DD|fail) [-getElem?_pos, gZ, gS, Tryz.f149, hc0]
  repeat' (first|((first|refine wA ?_ ?_|refine wB ?_ ?_)<;>intro hc<;>try simp at hc)|refine wF ?_|refine wY ?_|refine wL ?_|refine owe ?_ fun ho=>?_|(simp (disch := first|exact DD|fail) [hc0, -getElem?_pos, gZ, gS]))
  rfl
@[simp] theorem S149 (f : Font) (s : List UInt8) (hs : f.gs.length < 1099511627776 ∧ f.ks.length < 1099511627776) (hl : s.length < 1099511627776) (q1 q2 : Fl) (hh : Heap) : Ci cfg (.func (.func 149) [] []) [.agg [R  q1 eG f.gs, .int .i64 f.other, R  q2 eK f.ks], .str s] hh = some (.ret (.tuple [R fl0 eI (runesF f s).1, .int .i64 (runesF f s).2]), hh) :=
 Ci_K cfg rfl rfl (by simp) (by simp) (C149 f s hs hl)
attribute [local simp] lookupV mapUpdV keyOk
theorem C140 (f : Font) (s : List UInt8) (hs : f.gs.length < 1099511627776 ∧ f.ks.length < 1099511627776) (hl : s.length < 1099511627776) : Kc cfg 140 [.agg [R fl0 eG f.gs, .int .i64 f.other, R fl0 eK f.ks], .str s] (.ret (.tuple [.int .i64 (widthS f s).1, .int .i64 (widthS f s).2])) := by
 by_cases hc0 : checkS f = 0
 ·have hrF : runesF f s = runesG s := by unfold runesF; rw [if_neg (by simpa using hc0)]
  by_cases he : (runesG s).2 = 0
  ·have hW : widthS f s = (wTo f (runesG s).1 (runesG s).1.length, 0) := by unfold widthS; rw [if_neg (by simpa using hc0), if_neg (by simpa using he)]
   have hn := runesG_len' s
   rw [hW]
   generalize hlg : (runesG s).1 = l at *
   refine outS_of_wp cfg (fn := Tryz.f140) Tryz.func140 rfl (by simp [Tryz.f140]) ?_
   simp (disch := first|exact DD|fail) [-getElem?_pos, gZ, gS, Tryz.f140, hrF, he, hlg]
   repeat' (first|((first|refine wA ?_ ?_|refine wB ?_ ?_)<;>intro hc<;>try simp at hc)|refine wF ?_|refine wY ?_|refine wL ?_|refine owe ?_ fun ho=>?_|(simp (disch := first|exact DD|fail) [hrF, he, hlg, Tryz.f150, Tryz.f153, -getElem?_pos, gZ, gS]))
   have hkm := kMap_near hc0
   obtain ⟨hlen, hoth, hgl, hkl⟩ := checkS_ok hc0
   refine wp_loopE cfg rfl (fun f0 h0 m fr h => ∃ i : Nat, ∃ Z : List Blk, fr 0 = f0 0 ∧ fr 1 = f0 1 ∧ fr 2 = f0 2 ∧ fr 4 = f0 4 ∧ fr 14 = f0 14 ∧ fr 15 = f0 15 ∧ fr 16 = .int .i64 i ∧ (h.bs = (h0.bs.set 6 (.map (kMap f.ks i) i)) ++ Z) ∧ (i + m = f.ks.length)) (f.ks.length) _ _ ⟨0, [], rfl, rfl, rfl, rfl, rfl, rfl, by first | rfl | (simp; done) | (simp [R]; done) | simp [R], by simp [kMap], by first | rfl | (simp; done) | omega⟩ ?_
   rintro Am Af Ah ⟨i, Z, A0, A1, A2, A4, A14, A15, A16, hb, hm⟩ Aih
   try simp at A0 A1 A2 A4 A14 A15
   simp at hb
   by_cases hi : i < f.ks.length
   ·have hfk : findK Tryz.prog 148 (.agg [.int .i64 (nth f.ks i).a, .int .i64 (nth f.ks i).b]) (kMap f.ks i) = some none := findK_none (fun j hj hx => by
     have := kAll_lt hkl i j hj hi
     omega)
    have hsu := kMap_succ f.ks i
    repeat' (first|((first|refine wA ?_ ?_|refine wB ?_ ?_)<;>intro hc<;>try simp at hc)|refine wF ?_|refine wY ?_|refine wL ?_|refine owe ?_ fun ho=>?_|(simp (disch := first|exact DD|fail) [A0, A1, A2, A4, A14, A15, A16, hb, eK, hfk, -getElem?_pos, gZ, gS]))
    exact Aih (Am - 1) _ _ (by omega) ⟨i + 1, Z ++ [.cells (eK (nth f.ks i))], by simp [A0, A1, A2, A4, A14, A15, A16, hb, hsu, kEnt], by simp [A0, A1, A2, A4, A14, A15, A16, hb, hsu, kEnt], by simp [A0, A1, A2, A4, A14, A15, A16, hb, hsu, kEnt], by simp [A0, A1, A2, A4, A14, A15, A16, hb, hsu, kEnt], by simp [A0, A1, A2, A4, A14, A15, A16, hb, hsu, kEnt], by simp [A0, A1, A2, A4, A14, A15, A16, hb, hsu, kEnt], by simp [A0, A1, A2, A4, A14, A15, A16, hb, hsu, kEnt], by simp [hsu, kEnt, eK], by omega⟩
   ·have hik : i = f.ks.length := by omega
    subst hik
    repeat' (first|((first|refine wA ?_ ?_|refine wB ?_ ?_)<;>intro hc<;>try simp at hc)|refine wF ?_|refine wY ?_|refine wL ?_|refine owe ?_ fun ho=>?_|(simp (disch := first|exact DD|fail) [A0, A1, A2, A4, A14, A15, A16, hb, -getElem?_pos, gZ, gS]))
    refine wp_loopE cfg rfl (fun f0 h0 m fr h => ∃ i : Nat, ∃ Y : List Blk, fr 0 = f0 0 ∧ fr 1 = f0 1 ∧ fr 2 = f0 2 ∧ fr 4 = f0 4 ∧ fr 32 = f0 32 ∧ fr 33 = f0 33 ∧ fr 34 = .int .i64 i ∧ fr 7 = .int .i64 (wTo f l i) ∧ (h.bs = ((h0.bs.take 7).set 1 (.cells [.int .i64 (wTo f l i)])) ++ Y) ∧ (i + m = l.length)) (l.length) _ _ ⟨0, Z, rfl, rfl, rfl, rfl, rfl, rfl, by first | rfl | (simp; done) | (simp [R]; done) | simp [R], by simp [wTo, sumTo], by simp [wTo, sumTo], by first | rfl | (simp; done) | omega⟩ ?_
    rintro Bm Bf Bh ⟨i, Y, B0, B1, B2, B4, B32, B33, B34, B7, hb2, hm2⟩ Bih
    try simp [A0, A1, A2, A4, A14, A15, A16] at B0 B1 B2 B4 B32 B33
    simp at hb2
    have hwb := wTo_bound hc0 l i
    by_cases hi : i < l.length
    ·have ho1 := oneS_bound hc0 (nth l i)
     have hn1 := nearS_bound hc0 (nth l (i - 1)) (nth l i)
     have hsu := wTo_succ f l i
     have hlst3 : ∀ (x : Blk) (A B : List Blk), (A ++ x :: B)[A.length]? = some x := fun x A B => by simp
     repeat' (first|((first|refine wA ?_ ?_|refine wB ?_ ?_)<;>intro hc<;>try simp at hc)|refine wF ?_|refine wY ?_|refine wL ?_|refine owe ?_ fun ho=>?_|(simp (disch := first|exact DD|fail) [B0, B1, B2, B4, B32, B33, B34, B7, hb2, eI, -I154, -getElem?_pos, gZ, gS]))
     refine Wfirst f hc0 (nth l i) _ _ _ (by simp) (fun X n hnl hf1 hf2 => ?_)
     have hone := oneS_search hc0 hnl hf1 hf2
     have hpt : ∀ x : Blk, (Y ++ (x :: X))[Y.length]? = some x := fun x => by simp
     obtain ⟨o, hfo, hcs⟩ := hkm (nth l (i - 1)) (nth l i)
     have hadd : addS f l i = oneS f (nth l i) - (if 0 < i then nearS f (nth l (i - 1)) (nth l i) else 0) := rfl
     have hgo : (n < f.gs.length ∧ (nth f.gs n).lo ≤ nth l i) ∨ ¬ (n < f.gs.length ∧ (nth f.gs n).lo ≤ nth l i) := Classical.em _
     by_cases hz : i = 0
     ·subst hz
      have hwz : wTo f l 0 = 0 := rfl
      have hsu2 : wTo f l 1 = oneS f (nth l 0) := by
       have : wTo f l (0 + 1) = _ := hsu
       rw [hadd] at this; simp [hwz] at this; exact this
      rcases hgo with hg | hg
      ·rw [if_pos hg] at hone
       rw [hone] at hsu2 ho1
       repeat' (first|((first|refine wA ?_ ?_|refine wB ?_ ?_)<;>intro hc<;>try simp at hc)|refine wF ?_|refine wY ?_|refine wL ?_|refine owe ?_ fun ho=>?_|(simp (disch := first|exact DD|fail) [B0, B1, B2, B4, B32, B33, B34, B7, eG, hpt, hg.1, hg.2, -getElem?_pos, gZ, gS]))
       exact Bih (Bm - 1) _ _ (by omega) ⟨0 + 1, Y ++ (.cells [.int .i64 (nth l 0)] :: X), by simp [B0, B1, B2, B4, B32, B33, B34, B7, A0, A1, A2, A4, A14, A15, A16, hb2, hsu2, hwz], by simp [B0, B1, B2, B4, B32, B33, B34, B7, A0, A1, A2, A4, A14, A15, A16, hb2, hsu2, hwz], by simp [B0, B1, B2, B4, B32, B33, B34, B7, A0, A1, A2, A4, A14, A15, A16, hb2, hsu2, hwz], by simp [B0, B1, B2, B4, B32, B33, B34, B7, A0, A1, A2, A4, A14, A15, A16, hb2, hsu2, hwz], by simp [B0, B1, B2, B4, B32, B33, B34, B7, A0, A1, A2, A4, A14, A15, A16, hb2, hsu2, hwz], by simp [B0, B1, B2, B4, B32, B33, B34, B7, A0, A1, A2, A4, A14, A15, A16, hb2, hsu2, hwz], by simp [B0, B1, B2, B4, B32, B33, B34, B7, A0, A1, A2, A4, A14, A15, A16, hb2, hsu2, hwz], by simp [B0, B1, B2, B4, B32, B33, B34, B7, A0, A1, A2, A4, A14, A15, A16, hb2, hsu2, hwz], by simp [hsu2, hwz], by omega⟩
      ·rw [if_neg hg] at hone
       rw [hone] at hsu2 ho1
       repeat' (first|((first|refine wA ?_ ?_|refine wB ?_ ?_)<;>intro hc<;>try simp at hc)|refine wF ?_|refine wY ?_|refine wL ?_|refine owe ?_ fun ho=>?_|(simp (disch := first|exact DD|fail) [B0, B1, B2, B4, B32, B33, B34, B7, eG, hpt, -getElem?_pos, gZ, gS]))
       all_goals first
        | (exfalso; omega)
        | exact Bih (Bm - 1) _ _ (by omega) ⟨0 + 1, Y ++ (.cells [.int .i64 (nth l 0)] :: X), by simp [B0, B1, B2, B4, B32, B33, B34, B7, A0, A1, A2, A4, A14, A15, A16, hb2, hsu2, hwz], by simp [B0, B1, B2, B4, B32, B33, B34, B7, A0, A1, A2, A4, A14, A15, A16, hb2, hsu2, hwz], by simp [B0, B1, B2, B4, B32, B33, B34, B7, A0, A1, A2, A4, A14, A15, A16, hb2, hsu2, hwz], by simp [B0, B1, B2, B4, B32, B33, B34, B7, A0, A1, A2, A4, A14, A15, A16, hb2, hsu2, hwz], by simp [B0, B1, B2, B4, B32, B33, B34, B7, A0, A1, A2, A4, A14, A15, A16, hb2, hsu2, hwz], by simp [B0, B1, B2, B4, B32, B33, B34, B7, A0, A1, A2, A4, A14, A15, A16, hb2, hsu2, hwz], by simp [B0, B1, B2, B4, B32, B33, B34, B7, A0, A1, A2, A4, A14, A15, A16, hb2, hsu2, hwz], by simp [B0, B1, B2, B4, B32, B33, B34, B7, A0, A1, A2, A4, A14, A15, A16, hb2, hsu2, hwz], by simp [hsu2, hwz], by omega⟩
     ·have h4 : (((i : Int) - 1).toNat) = i - 1 := by omega
      rw [if_pos (by omega)] at hadd
      rcases hgo with hg | hg
      ·rw [if_pos hg] at hone
       rw [hone] at hadd ho1
       have hsu2 : wTo f l (i + 1) = wTo f l i + (nth f.gs n).width - nearS f (nth l (i - 1)) (nth l i) := by rw [hsu, hadd]; omega
       rcases hcs with ⟨hon, hn0⟩ | ⟨j, hon⟩
       ·subst hon
        rw [hn0] at hsu2
        repeat' (first|((first|refine wA ?_ ?_|refine wB ?_ ?_)<;>intro hc<;>try simp at hc)|refine wF ?_|refine wY ?_|refine wL ?_|refine owe ?_ fun ho=>?_|(simp (disch := first|exact DD|fail) [B0, B1, B2, B4, B32, B33, B34, B7, eG, eI, hpt, hg.1, hg.2, h4, hfo, -getElem?_pos, gZ, gS]))
        exact Bih (Bm - 1) _ _ (by omega) ⟨i + 1, Y ++ (.cells [.int .i64 (nth l i)] :: X), by simp [B0, B1, B2, B4, B32, B33, B34, B7, A0, A1, A2, A4, A14, A15, A16, hb2, hsu2], by simp [B0, B1, B2, B4, B32, B33, B34, B7, A0, A1, A2, A4, A14, A15, A16, hb2, hsu2], by simp [B0, B1, B2, B4, B32, B33, B34, B7, A0, A1, A2, A4, A14, A15, A16, hb2, hsu2], by simp [B0, B1, B2, B4, B32, B33, B34, B7, A0, A1, A2, A4, A14, A15, A16, hb2, hsu2], by simp [B0, B1, B2, B4, B32, B33, B34, B7, A0, A1, A2, A4, A14, A15, A16, hb2, hsu2], by simp [B0, B1, B2, B4, B32, B33, B34, B7, A0, A1, A2, A4, A14, A15, A16, hb2, hsu2], by simp [B0, B1, B2, B4, B32, B33, B34, B7, A0, A1, A2, A4, A14, A15, A16, hb2, hsu2], by simp [B0, B1, B2, B4, B32, B33, B34, B7, A0, A1, A2, A4, A14, A15, A16, hb2, hsu2], by simp [hsu2], by omega⟩
       ·subst hon
        repeat' (first|((first|refine wA ?_ ?_|refine wB ?_ ?_)<;>intro hc<;>try simp at hc)|refine wF ?_|refine wY ?_|refine wL ?_|refine owe ?_ fun ho=>?_|(simp (disch := first|exact DD|fail) [B0, B1, B2, B4, B32, B33, B34, B7, eG, eI, hpt, hg.1, hg.2, h4, hfo, -getElem?_pos, gZ, gS]))
        exact Bih (Bm - 1) _ _ (by omega) ⟨i + 1, Y ++ (.cells [.int .i64 (nth l i)] :: X), by simp [B0, B1, B2, B4, B32, B33, B34, B7, A0, A1, A2, A4, A14, A15, A16, hb2, hsu2], by simp [B0, B1, B2, B4, B32, B33, B34, B7, A0, A1, A2, A4, A14, A15, A16, hb2, hsu2], by simp [B0, B1, B2, B4, B32, B33, B34, B7, A0, A1, A2, A4, A14, A15, A16, hb2, hsu2], by simp [B0, B1, B2, B4, B32, B33, B34, B7, A0, A1, A2, A4, A14, A15, A16, hb2, hsu2], by simp [B0, B1, B2, B4, B32, B33, B34, B7, A0, A1, A2, A4, A14, A15, A16, hb2, hsu2], by simp [B0, B1, B2, B4, B32, B33, B34, B7, A0, A1, A2, A4, A14, A15, A16, hb2, hsu2], by simp [B0, B1, B2, B4, B32, B33, B34, B7, A0, A1, A2, A4, A14, A15, A16, hb2, hsu2], by simp [B0, B1, B2, B4, B32, B33, B34, B7, A0, A1, A2, A4, A14, A15, A16, hb2, hsu2], by simp [hsu2], by omega⟩
      ·rw [if_neg hg] at hone
       rw [hone] at hadd ho1
       have hsu2 : wTo f l (i + 1) = wTo f l i + f.other - nearS f (nth l (i - 1)) (nth l i) := by rw [hsu, hadd]; omega
       rcases hcs with ⟨hon, hn0⟩ | ⟨j, hon⟩
       ·subst hon
        rw [hn0] at hsu2
        repeat' (first|((first|refine wA ?_ ?_|refine wB ?_ ?_)<;>intro hc<;>try simp at hc)|refine wF ?_|refine wY ?_|refine wL ?_|refine owe ?_ fun ho=>?_|(simp (disch := first|exact DD|fail) [B0, B1, B2, B4, B32, B33, B34, B7, eG, eI, hpt, h4, hfo, -getElem?_pos, gZ, gS]))
        all_goals first
         | (exfalso; omega)
         | exact Bih (Bm - 1) _ _ (by omega) ⟨i + 1, Y ++ (.cells [.int .i64 (nth l i)] :: X), by simp [B0, B1, B2, B4, B32, B33, B34, B7, A0, A1, A2, A4, A14, A15, A16, hb2, hsu2], by simp [B0, B1, B2, B4, B32, B33, B34, B7, A0, A1, A2, A4, A14, A15, A16, hb2, hsu2], by simp [B0, B1, B2, B4, B32, B33, B34, B7, A0, A1, A2, A4, A14, A15, A16, hb2, hsu2], by simp [B0, B1, B2, B4, B32, B33, B34, B7, A0, A1, A2, A4, A14, A15, A16, hb2, hsu2], by simp [B0, B1, B2, B4, B32, B33, B34, B7, A0, A1, A2, A4, A14, A15, A16, hb2, hsu2], by simp [B0, B1, B2, B4, B32, B33, B34, B7, A0, A1, A2, A4, A14, A15, A16, hb2, hsu2], by simp [B0, B1, B2, B4, B32, B33, B34, B7, A0, A1, A2, A4, A14, A15, A16, hb2, hsu2], by simp [B0, B1, B2, B4, B32, B33, B34, B7, A0, A1, A2, A4, A14, A15, A16, hb2, hsu2], by simp [hsu2], by omega⟩
       ·subst hon
        repeat' (first|((first|refine wA ?_ ?_|refine wB ?_ ?_)<;>intro hc<;>try simp at hc)|refine wF ?_|refine wY ?_|refine wL ?_|refine owe ?_ fun ho=>?_|(simp (disch := first|exact DD|fail) [B0, B1, B2, B4, B32, B33, B34, B7, eG, eI, hpt, h4, hfo, -getElem?_pos, gZ, gS]))
        all_goals first
         | (exfalso; omega)
         | exact Bih (Bm - 1) _ _ (by omega) ⟨i + 1, Y ++ (.cells [.int .i64 (nth l i)] :: X), by simp [B0, B1, B2, B4, B32, B33, B34, B7, A0, A1, A2, A4, A14, A15, A16, hb2, hsu2], by simp [B0, B1, B2, B4, B32, B33, B34, B7, A0, A1, A2, A4, A14, A15, A16, hb2, hsu2], by simp [B0, B1, B2, B4, B32, B33, B34, B7, A0, A1, A2, A4, A14, A15, A16, hb2, hsu2], by simp [B0, B1, B2, B4, B32, B33, B34, B7, A0, A1, A2, A4, A14, A15, A16, hb2, hsu2], by simp [B0, B1, B2, B4, B32, B33, B34, B7, A0, A1, A2, A4, A14, A15, A16, hb2, hsu2], by simp [B0, B1, B2, B4, B32, B33, B34, B7, A0, A1, A2, A4, A14, A15, A16, hb2, hsu2], by simp [B0, B1, B2, B4, B32, B33, B34, B7, A0, A1, A2, A4, A14, A15, A16, hb2, hsu2], by simp [B0, B1, B2, B4, B32, B33, B34, B7, A0, A1, A2, A4, A14, A15, A16, hb2, hsu2], by simp [hsu2], by omega⟩
    ·have hil : i = l.length := by omega
     subst hil
     repeat' (first|((first|refine wA ?_ ?_|refine wB ?_ ?_)<;>intro hc<;>try simp at hc)|refine wF ?_|refine wY ?_|refine wL ?_|refine owe ?_ fun ho=>?_|(simp (disch := first|exact DD|fail) [B0, B1, B2, B4, B32, B33, B34, B7, hb2, -getElem?_pos, gZ, gS]))
  ·have hW : widthS f s = (0, (runesG s).2) := by unfold widthS; rw [if_neg (by simpa using hc0), if_pos he]
   rw [hW]
   refine outS_of_wp cfg (fn := Tryz.f140) Tryz.func140 rfl (by simp [Tryz.f140]) ?_
   simp (disch := first|exact DD|fail) [-getElem?_pos, gZ, gS, Tryz.f140, hrF, he]
   repeat' (first|((first|refine wA ?_ ?_|refine wB ?_ ?_)<;>intro hc<;>try simp at hc)|refine wF ?_|refine wY ?_|refine wL ?_|refine owe ?_ fun ho=>?_|(simp (disch := first|exact DD|fail) [hrF, he, -getElem?_pos, gZ, gS]))
 ·have hrF : runesF f s = ([], checkS f) := by unfold runesF; rw [if_pos hc0]
  have hW : widthS f s = (0, checkS f) := by unfold widthS; rw [if_pos hc0]
  rw [hW]
  refine outS_of_wp cfg (fn := Tryz.f140) Tryz.func140 rfl (by simp [Tryz.f140]) ?_
  simp (disch := first|exact DD|fail) [-getElem?_pos, gZ, gS, Tryz.f140, hrF, hc0]
  repeat' (first|((first|refine wA ?_ ?_|refine wB ?_ ?_)<;>intro hc<;>try simp at hc)|refine wF ?_|refine wY ?_|refine wL ?_|refine owe ?_ fun ho=>?_|(simp (disch := first|exact DD|fail) [hrF, hc0, -getElem?_pos, gZ, gS]))
@[simp] theorem S140 (f : Font) (s : List UInt8) (hs : f.gs.length < 1099511627776 ∧ f.ks.length < 1099511627776) (hl : s.length < 1099511627776) (q1 q2 : Fl) (hh : Heap) : Ci cfg (.func (.func 140) [] []) [.agg [R  q1 eG f.gs, .int .i64 f.other, R  q2 eK f.ks], .str s] hh = some (.ret (.tuple [.int .i64 (widthS f s).1, .int .i64 (widthS f s).2]), hh) :=
 Ci_K cfg rfl rfl (by simp) (by simp) (C140 f s hs hl)
end Go.Ab
namespace Go.Ab
open Go.Proofs
set_option maxRecDepth 100000
set_option maxHeartbeats 4000000
def panW (e : Int) : CRes := .panic (.iface 37 (.int .i64 e))
def mustW (e : Int) : CRes := if e = 0 then .ret (.tuple []) else panW e
def pointsW (s : List UInt8) : CRes := if (runesG s).2 = 0 then .ret (.int .i64 (runesG s).1.length) else panW (runesG s).2
def cellsW (v : VwZ) (s : List UInt8) : CRes := if (codeW (encodeZ v.signs s)).2 = 0 then .ret (.int .i64 (codeW (encodeZ v.signs s)).1) else panW (codeW (encodeZ v.signs s)).2
def screenW (v : VwZ) (s : List UInt8) : CRes := if (widthS v.font s).2 = 0 then .ret (.int .i64 (widthS v.font s).1) else panW (widthS v.font s).2
def drawW (v : VwZ) (s : List UInt8) : CRes := if (showS s v.right).2 = 0 then .ret (.str (showS s v.right).1) else panW (showS s v.right).2
theorem C68 (e : Int) : Kc cfg 68 [.int .i64 e] (mustW e) := by
 by_cases he : e = 0
 ·have hF : mustW e = .ret (.tuple []) := by unfold mustW; rw [if_pos he]
  rw [hF]
  refine outS_of_wp cfg (fn := Tryz.f68) Tryz.func68 rfl (by simp [Tryz.f68]) ?_
  simp (disch := first|exact DD|fail) [-getElem?_pos, gZ, gS, Tryz.f68, he]
  repeat' (first|((first|refine wA ?_ ?_|refine wB ?_ ?_)<;>intro hc<;>try simp at hc)|refine wF ?_|refine wY ?_|refine wL ?_|refine owe ?_ fun ho=>?_|(simp (disch := first|exact DD|fail) [he, -getElem?_pos, gZ, gS]))
 ·have hF : mustW e = .panic (.iface 37 (.int .i64 e)) := by unfold mustW; rw [if_neg he]; rfl
  rw [hF]
  refine outS_of_wp cfg (fn := Tryz.f68) Tryz.func68 rfl (by simp [Tryz.f68]) ?_
  simp (disch := first|exact DD|fail) [-getElem?_pos, gZ, gS, Tryz.f68, he]
  repeat' (first|((first|refine wA ?_ ?_|refine wB ?_ ?_)<;>intro hc<;>try simp at hc)|refine wF ?_|refine wY ?_|refine wL ?_|refine owe ?_ fun ho=>?_|(simp (disch := first|exact DD|fail) [he, -getElem?_pos, gZ, gS]))
@[simp] theorem S68 (e : Int) (hh : Heap) : Ci cfg (.func (.func 68) [] []) [.int .i64 e] hh = some (mustW e, hh) :=
 Ci_K cfg rfl rfl (by simp) (by simp) (C68 e)
theorem mustW_ok {e : Int} (h : e = 0) : mustW e = .ret (.tuple []) := by unfold mustW; rw [if_pos h]
theorem mustW_bad {e : Int} (h : ¬ e = 0) : mustW e = .panic (.iface 37 (.int .i64 e)) := by unfold mustW; rw [if_neg h]; rfl
@[simp] theorem S42 (s : List UInt8) (hl : s.length < 1099511627776) (h : Heap) : Ci cfg (.func (.func 42) [] []) [.str s] h = some (pointsW s, h) := by
 refine Ci_of_wp (fn := Tryz.f42) Tryz.func42 rfl (by simp [Tryz.f42]) rfl ?_
 by_cases he : (runesG s).2 = 0
 ·have hF : pointsW s = .ret (.int .i64 (runesG s).1.length) := by unfold pointsW; rw [if_pos he]
  have hm := mustW_ok he
  rw [he] at hm
  rw [hF]
  simp (disch := first|exact DD|fail) [-getElem?_pos, gZ, gS, Tryz.f42, he, hm]
  repeat' (first|((first|refine wA ?_ ?_|refine wB ?_ ?_)<;>intro hc<;>try simp at hc)|refine wF ?_|refine wY ?_|refine wL ?_|refine owe ?_ fun ho=>?_|(simp (disch := first|exact DD|fail) [he, hm, -getElem?_pos, gZ, gS]))
 ·have hF : pointsW s = .panic (.iface 37 (.int .i64 (runesG s).2)) := by unfold pointsW; rw [if_neg he]; rfl
  have hm := mustW_bad he
  rw [hF]
  simp (disch := first|exact DD|fail) [-getElem?_pos, gZ, gS, Tryz.f42, he, hm]
  repeat' (first|((first|refine wA ?_ ?_|refine wB ?_ ?_)<;>intro hc<;>try simp at hc)|refine wF ?_|refine wY ?_|refine wL ?_|refine owe ?_ fun ho=>?_|(simp (disch := first|exact DD|fail) [he, hm, -getElem?_pos, gZ, gS]))
theorem C65 (n lo hi : Int) : Kc cfg 65 [.int .i64 n, .int .i64 lo, .int .i64 hi] (.ret (.bool (inB n lo hi))) := by
 refine outS_of_wp cfg (fn := Tryz.f65) Tryz.func65 rfl (by simp [Tryz.f65]) ?_
 simp (disch := first|exact DD|fail) [-getElem?_pos, gZ, gS, Tryz.f65]
 repeat' (first|((first|refine wA ?_ ?_|refine wB ?_ ?_)<;>intro hc<;>try simp at hc)|refine wF ?_|refine wY ?_|refine wL ?_|refine owe ?_ fun ho=>?_|(simp (disch := first|exact DD|fail) [-getElem?_pos, gZ, gS]))
 all_goals grind [inB]
@[simp] theorem S65 (n lo hi : Int) (hh : Heap) : Ci cfg (.func (.func 65) [] []) [.int .i64 n, .int .i64 lo, .int .i64 hi] hh = some (.ret (.bool (inB n lo hi)), hh) :=
 Ci_K cfg rfl rfl (by simp) (by simp) (C65 n lo hi)
theorem C123 (v : VwZ) (s : List UInt8) (hs : smVw v) (hl : s.length < 1099511627776) : Kc cfg 123 [.agg [.int .i64 v.no, .int .i64 v.lang, .int .i64 v.lines, .int .i64 v.room, .int .i64 v.cells, .int .i64 v.speed, .bool v.right, R fl0 eG v.font.gs, .int .i64 v.font.other, R fl0 eK v.font.ks, R fl0 eZ v.signs, .int .i64 v.scr.w, .int .i64 v.scr.h, R fl0 eQ v.scr.bl], .str s] (.ret (.str s)) := by
 refine outS_of_wp cfg (fn := Tryz.f123) Tryz.func123 rfl (by simp [Tryz.f123]) ?_
 simp (disch := first|exact DD|fail) [-getElem?_pos, gZ, gS, Tryz.f123]
 repeat' (first|((first|refine wA ?_ ?_|refine wB ?_ ?_)<;>intro hc<;>try simp at hc)|refine wF ?_|refine wY ?_|refine wL ?_|refine owe ?_ fun ho=>?_|(simp (disch := first|exact DD|fail) [-getElem?_pos, gZ, gS]))
@[simp] theorem S123 (v : VwZ) (s : List UInt8) (hs : smVw v) (hl : s.length < 1099511627776) (q1 q2 q3 q4 : Fl) (hh : Heap) : Ci cfg (.func (.func 123) [] []) [.agg [.int .i64 v.no, .int .i64 v.lang, .int .i64 v.lines, .int .i64 v.room, .int .i64 v.cells, .int .i64 v.speed, .bool v.right, R  q1 eG v.font.gs, .int .i64 v.font.other, R  q2 eK v.font.ks, R  q3 eZ v.signs, .int .i64 v.scr.w, .int .i64 v.scr.h, R  q4 eQ v.scr.bl], .str s] hh = some (.ret (.str s), hh) :=
 Ci_K cfg rfl rfl (by simp) (by simp) (C123 v s hs hl)
theorem C136 (v : VwZ) (s : List UInt8) (hs : smVw v) (hl : s.length < 1099511627776) : Kc cfg 136 [.agg [.int .i64 v.no, .int .i64 v.lang, .int .i64 v.lines, .int .i64 v.room, .int .i64 v.cells, .int .i64 v.speed, .bool v.right, R fl0 eG v.font.gs, .int .i64 v.font.other, R fl0 eK v.font.ks, R fl0 eZ v.signs, .int .i64 v.scr.w, .int .i64 v.scr.h, R fl0 eQ v.scr.bl], .str s] (drawW v s) := by
 by_cases he : (showS s v.right).2 = 0
 ·have hF : drawW v s = .ret (.str (showS s v.right).1) := by unfold drawW; rw [if_pos he]
  have hm := mustW_ok he
  rw [he] at hm
  rw [hF]
  refine outS_of_wp cfg (fn := Tryz.f136) Tryz.func136 rfl (by simp [Tryz.f136]) ?_
  simp (disch := first|exact DD|fail) [-getElem?_pos, gZ, gS, Tryz.f136, he, hm]
  repeat' (first|((first|refine wA ?_ ?_|refine wB ?_ ?_)<;>intro hc<;>try simp at hc)|refine wF ?_|refine wY ?_|refine wL ?_|refine owe ?_ fun ho=>?_|(simp (disch := first|exact DD|fail) [he, hm, -getElem?_pos, gZ, gS]))
 ·have hF : drawW v s = .panic (.iface 37 (.int .i64 (showS s v.right).2)) := by unfold drawW; rw [if_neg he]; rfl
  have hm := mustW_bad he
  rw [hF]
  refine outS_of_wp cfg (fn := Tryz.f136) Tryz.func136 rfl (by simp [Tryz.f136]) ?_
  simp (disch := first|exact DD|fail) [-getElem?_pos, gZ, gS, Tryz.f136, he, hm]
  repeat' (first|((first|refine wA ?_ ?_|refine wB ?_ ?_)<;>intro hc<;>try simp at hc)|refine wF ?_|refine wY ?_|refine wL ?_|refine owe ?_ fun ho=>?_|(simp (disch := first|exact DD|fail) [he, hm, -getElem?_pos, gZ, gS]))
@[simp] theorem S136 (v : VwZ) (s : List UInt8) (hs : smVw v) (hl : s.length < 1099511627776) (q1 q2 q3 q4 : Fl) (hh : Heap) : Ci cfg (.func (.func 136) [] []) [.agg [.int .i64 v.no, .int .i64 v.lang, .int .i64 v.lines, .int .i64 v.room, .int .i64 v.cells, .int .i64 v.speed, .bool v.right, R  q1 eG v.font.gs, .int .i64 v.font.other, R  q2 eK v.font.ks, R  q3 eZ v.signs, .int .i64 v.scr.w, .int .i64 v.scr.h, R  q4 eQ v.scr.bl], .str s] hh = some (drawW v s, hh) :=
 Ci_K cfg rfl rfl (by simp) (by simp) (C136 v s hs hl)
theorem C137 (v : VwZ) (s : List UInt8) (hs : smVw v) (hl : s.length < 1099511627776) : Kc cfg 137 [.agg [.int .i64 v.no, .int .i64 v.lang, .int .i64 v.lines, .int .i64 v.room, .int .i64 v.cells, .int .i64 v.speed, .bool v.right, R fl0 eG v.font.gs, .int .i64 v.font.other, R fl0 eK v.font.ks, R fl0 eZ v.signs, .int .i64 v.scr.w, .int .i64 v.scr.h, R fl0 eQ v.scr.bl], .str s] (screenW v s) := by
 have hs1 := hs.1
 by_cases he : (widthS v.font s).2 = 0
 ·have hF : screenW v s = .ret (.int .i64 (widthS v.font s).1) := by unfold screenW; rw [if_pos he]
  have hm := mustW_ok he
  rw [he] at hm
  rw [hF]
  refine outS_of_wp cfg (fn := Tryz.f137) Tryz.func137 rfl (by simp [Tryz.f137]) ?_
  simp (disch := first|exact DD|fail) [-getElem?_pos, gZ, gS, Tryz.f137, he, hm]
  repeat' (first|((first|refine wA ?_ ?_|refine wB ?_ ?_)<;>intro hc<;>try simp at hc)|refine wF ?_|refine wY ?_|refine wL ?_|refine owe ?_ fun ho=>?_|(simp (disch := first|exact DD|fail) [he, hm, -getElem?_pos, gZ, gS]))
 ·have hF : screenW v s = .panic (.iface 37 (.int .i64 (widthS v.font s).2)) := by unfold screenW; rw [if_neg he]; rfl
  have hm := mustW_bad he
  rw [hF]
  refine outS_of_wp cfg (fn := Tryz.f137) Tryz.func137 rfl (by simp [Tryz.f137]) ?_
  simp (disch := first|exact DD|fail) [-getElem?_pos, gZ, gS, Tryz.f137, he, hm]
  repeat' (first|((first|refine wA ?_ ?_|refine wB ?_ ?_)<;>intro hc<;>try simp at hc)|refine wF ?_|refine wY ?_|refine wL ?_|refine owe ?_ fun ho=>?_|(simp (disch := first|exact DD|fail) [he, hm, -getElem?_pos, gZ, gS]))
@[simp] theorem S137 (v : VwZ) (s : List UInt8) (hs : smVw v) (hl : s.length < 1099511627776) (q1 q2 q3 q4 : Fl) (hh : Heap) : Ci cfg (.func (.func 137) [] []) [.agg [.int .i64 v.no, .int .i64 v.lang, .int .i64 v.lines, .int .i64 v.room, .int .i64 v.cells, .int .i64 v.speed, .bool v.right, R  q1 eG v.font.gs, .int .i64 v.font.other, R  q2 eK v.font.ks, R  q3 eZ v.signs, .int .i64 v.scr.w, .int .i64 v.scr.h, R  q4 eQ v.scr.bl], .str s] hh = some (screenW v s, hh) :=
 Ci_K cfg rfl rfl (by simp) (by simp) (C137 v s hs hl)
theorem C124 (v : VwZ) (s : List UInt8) (hs : smVw v) (hl : s.length < 1099511627776) : Kc cfg 124 [.agg [.int .i64 v.no, .int .i64 v.lang, .int .i64 v.lines, .int .i64 v.room, .int .i64 v.cells, .int .i64 v.speed, .bool v.right, R fl0 eG v.font.gs, .int .i64 v.font.other, R fl0 eK v.font.ks, R fl0 eZ v.signs, .int .i64 v.scr.w, .int .i64 v.scr.h, R fl0 eQ v.scr.bl], .str s] (cellsW v s) := by
 have hs2 := hs.2.1
 have hF : cellsW v s = if (codeW (encodeZ v.signs s)).2 = 0 then .ret (.int .i64 (codeW (encodeZ v.signs s)).1) else panW (codeW (encodeZ v.signs s)).2 := rfl
 rw [hF]
 generalize hx : encodeZ v.signs s = x
 obtain ⟨x1, x2, x3, x4⟩ := x
 by_cases h4 : x4 = 0
 ·subst h4
  have hm := mustW_ok (e := 0) rfl
  cases x3 with
  | true =>
   have hG : codeW (x1, x2, true, 0) = ((x2.length : Int), 0) := by simp [codeW]
   rw [hG]
   refine outS_of_wp cfg (fn := Tryz.f124) Tryz.func124 rfl (by simp [Tryz.f124]) ?_
   simp (disch := first|exact DD|fail) [-getElem?_pos, gZ, gS, Tryz.f124, hx, hm]
   repeat' (first|((first|refine wA ?_ ?_|refine wB ?_ ?_)<;>intro hc<;>try simp at hc)|refine wF ?_|refine wY ?_|refine wL ?_|refine owe ?_ fun ho=>?_|(simp (disch := first|exact DD|fail) [hx, hm, -getElem?_pos, gZ, gS]))
  | false =>
   have hG : codeW (x1, x2, false, 0) = (0, 450) := by simp [codeW]
   rw [hG]
   refine outS_of_wp cfg (fn := Tryz.f124) Tryz.func124 rfl (by simp [Tryz.f124]) ?_
   simp (disch := first|exact DD|fail) [-getElem?_pos, gZ, gS, Tryz.f124, hx, hm, panW]
   repeat' (first|((first|refine wA ?_ ?_|refine wB ?_ ?_)<;>intro hc<;>try simp at hc)|refine wF ?_|refine wY ?_|refine wL ?_|refine owe ?_ fun ho=>?_|(simp (disch := first|exact DD|fail) [hx, hm, panW, -getElem?_pos, gZ, gS]))
 ·have hm := mustW_bad h4
  have hG : codeW (x1, x2, x3, x4) = (0, x4) := by simp [codeW, h4]
  rw [hG]
  simp only [h4]
  refine outS_of_wp cfg (fn := Tryz.f124) Tryz.func124 rfl (by simp [Tryz.f124]) ?_
  simp (disch := first|exact DD|fail) [-getElem?_pos, gZ, gS, Tryz.f124, hx, hm, panW, h4]
  repeat' (first|((first|refine wA ?_ ?_|refine wB ?_ ?_)<;>intro hc<;>try simp at hc)|refine wF ?_|refine wY ?_|refine wL ?_|refine owe ?_ fun ho=>?_|(simp (disch := first|exact DD|fail) [hx, hm, panW, h4, -getElem?_pos, gZ, gS]))
@[simp] theorem S124 (v : VwZ) (s : List UInt8) (hs : smVw v) (hl : s.length < 1099511627776) (q1 q2 q3 q4 : Fl) (hh : Heap) : Ci cfg (.func (.func 124) [] []) [.agg [.int .i64 v.no, .int .i64 v.lang, .int .i64 v.lines, .int .i64 v.room, .int .i64 v.cells, .int .i64 v.speed, .bool v.right, R  q1 eG v.font.gs, .int .i64 v.font.other, R  q2 eK v.font.ks, R  q3 eZ v.signs, .int .i64 v.scr.w, .int .i64 v.scr.h, R  q4 eQ v.scr.bl], .str s] hh = some (cellsW v s, hh) :=
 Ci_K cfg rfl rfl (by simp) (by simp) (C124 v s hs hl)
end Go.Ab
namespace Go.Ab
open Go.Proofs
set_option maxRecDepth 100000
set_option maxHeartbeats 4000000
theorem C135 (v : VwZ) (hs : smVw v) : Kc cfg 135 [.agg [.int .i64 v.no, .int .i64 v.lang, .int .i64 v.lines, .int .i64 v.room, .int .i64 v.cells, .int .i64 v.speed, .bool v.right, R fl0 eG v.font.gs, .int .i64 v.font.other, R fl0 eK v.font.ks, R fl0 eZ v.signs, .int .i64 v.scr.w, .int .i64 v.scr.h, R fl0 eQ v.scr.bl]] (.ret (.bool (screenB v))) := by
 have kf : screenB v = true ↔ inB v.room 1 1099511627776 = true ∧ checkS v.font = 0 ∧ (v.signs.length : Int) = 0 := by simp [screenB, and_assoc]
 have ki := inB_t (n := v.room) (lo := 1) (hi := 1099511627776)
 generalize hF : screenB v = F at *
 generalize hI : inB v.room 1 1099511627776 = I at *
 clear hF hI
 obtain ⟨hs1, hs2, hs3⟩ := hs
 refine outS_of_wp cfg (fn := Tryz.f135) Tryz.func135 rfl (by simp [Tryz.f135]) ?_
 simp (disch := first|exact DD|fail) [-getElem?_pos, gZ, gS, Tryz.f135, emptyH]
 repeat' (first|((first|refine wA ?_ ?_|refine wB ?_ ?_)<;>intro hc<;>try simp at hc)|refine wF ?_|refine wY ?_|refine wL ?_|refine owe ?_ fun ho=>?_|(simp (disch := first|exact DD|fail) [emptyH, -getElem?_pos, gZ, gS]))
 all_goals (clear hs1 hs2 hs3; cases F <;> grind)
@[simp] theorem S135 (v : VwZ) (hs : smVw v) (q1 q2 q3 q4 : Fl) (hh : Heap) : Ci cfg (.func (.func 135) [] []) [.agg [.int .i64 v.no, .int .i64 v.lang, .int .i64 v.lines, .int .i64 v.room, .int .i64 v.cells, .int .i64 v.speed, .bool v.right, R  q1 eG v.font.gs, .int .i64 v.font.other, R  q2 eK v.font.ks, R  q3 eZ v.signs, .int .i64 v.scr.w, .int .i64 v.scr.h, R  q4 eQ v.scr.bl]] hh = some (.ret (.bool (screenB v)), hh) :=
 Ci_K cfg rfl rfl (by simp) (by simp) (C135 v hs)
theorem C122 (v : VwZ) (hs : smVw v) : Kc cfg 122 [.agg [.int .i64 v.no, .int .i64 v.lang, .int .i64 v.lines, .int .i64 v.room, .int .i64 v.cells, .int .i64 v.speed, .bool v.right, R fl0 eG v.font.gs, .int .i64 v.font.other, R fl0 eK v.font.ks, R fl0 eZ v.signs, .int .i64 v.scr.w, .int .i64 v.scr.h, R fl0 eQ v.scr.bl]] (.ret (.bool (cellsB v))) := by
 have kf : cellsB v = true ↔ inB v.cells 1 80 = true ∧ v.room = 0 ∧ checkZ v.signs = 0 ∧ (v.font.gs.length : Int) + v.font.ks.length = 0 ∧ v.font.other = 0 := by
  have : ((v.font.gs.length : Int) + v.font.ks.length = 0) ↔ v.font.gs.length = 0 ∧ v.font.ks.length = 0 := by omega
  rw [this]; simp [cellsB, and_assoc]
 have ki := inB_t (n := v.cells) (lo := 1) (hi := 80)
 generalize hF : cellsB v = F at *
 generalize hI : inB v.cells 1 80 = I at *
 clear hF hI
 obtain ⟨hs1, hs2, hs3⟩ := hs
 refine outS_of_wp cfg (fn := Tryz.f122) Tryz.func122 rfl (by simp [Tryz.f122]) ?_
 simp (disch := first|exact DD|fail) [-getElem?_pos, gZ, gS, Tryz.f122, emptyH]
 repeat' (first|((first|refine wA ?_ ?_|refine wB ?_ ?_)<;>intro hc<;>try simp at hc)|refine wF ?_|refine wY ?_|refine wL ?_|refine owe ?_ fun ho=>?_|(simp (disch := first|exact DD|fail) [emptyH, -getElem?_pos, gZ, gS]))
 all_goals (clear hs1 hs2 hs3; cases F <;> grind)
@[simp] theorem S122 (v : VwZ) (hs : smVw v) (q1 q2 q3 q4 : Fl) (hh : Heap) : Ci cfg (.func (.func 122) [] []) [.agg [.int .i64 v.no, .int .i64 v.lang, .int .i64 v.lines, .int .i64 v.room, .int .i64 v.cells, .int .i64 v.speed, .bool v.right, R  q1 eG v.font.gs, .int .i64 v.font.other, R  q2 eK v.font.ks, R  q3 eZ v.signs, .int .i64 v.scr.w, .int .i64 v.scr.h, R  q4 eQ v.scr.bl]] hh = some (.ret (.bool (cellsB v)), hh) :=
 Ci_K cfg rfl rfl (by simp) (by simp) (C122 v hs)
theorem C66 (a b c d e f : Bool) : Kc cfg 66 [.row false false [.bool a, .bool b, .bool c, .bool d, .bool e, .bool f] 6 none] (.ret (.bool (a && b && c && d && e && f))) := by
 cases a <;> cases b <;> cases c <;> cases d <;> cases e <;> cases f <;> exact kc_run (n := 60) (by kernel_rfl)
@[simp] theorem S66 (a b c d e f : Bool) (h : Heap) : Ci cfg (.func (.func 66) [] []) [.row false true [.bool a, .bool b, .bool c, .bool d, .bool e, .bool f] 6 none] h = some (.ret (.bool (a && b && c && d && e && f)), h) :=
 Ci_K cfg rfl rfl rfl rfl (C66 a b c d e f)
end Go.Ab
namespace Go.Ab
open Go.Proofs
set_option maxRecDepth 100000
set_option maxHeartbeats 4000000
def cellsV (v : VwZ) : List V := [.int .i64 v.no, .int .i64 v.lang, .int .i64 v.lines, .int .i64 v.room, .int .i64 v.cells, .int .i64 v.speed, .bool v.right, R fl0 eG v.font.gs, .int .i64 v.font.other, R fl0 eK v.font.ks, R fl0 eZ v.signs, .int .i64 v.scr.w, .int .i64 v.scr.h, R fl0 eQ v.scr.bl]
def rdV (v : VwZ) : V := if v.cells = 0 then .iface 134 (.agg (cellsV v)) else .iface 133 (.agg (cellsV v))
def valO (v : VwZ) (m : Nat) : V := match m with
 | 0 => V.func (.func 65) [] [] | 1 => .ptr 0 0 | 2 => .int .i64 v.no | 3 => .bool (inB v.no 0 99999) | 4 => V.func (.func 65) [] [] | 5 => .ptr 0 1 | 6 => .int .i64 v.lang | 7 => .bool (inB v.lang 0 31) | 8 => V.func (.func 65) [] [] | 9 => .ptr 0 2 | 10 => .int .i64 v.lines | 11 => .bool (inB v.lines 1 8) | 12 => V.func (.func 65) [] [] | 13 => .ptr 0 5 | 14 => .int .i64 v.speed | 15 => .bool (inB v.speed 0 1000) | 16 => .ptr 0 11 | 17 => .agg [.int .i64 v.scr.w, .int .i64 v.scr.h, R fl0 eQ v.scr.bl] | 18 => .int .i64 (scrE v.scr) | 19 => .bool (decide (scrE v.scr = 0)) | 20 => rdV v | 21 => .bool (readB v) | 22 => .row false true [.bool (inB v.no 0 99999), .bool (inB v.lang 0 31), .bool (inB v.lines 1 8), .bool (inB v.speed 0 1000), .bool (decide (scrE v.scr = 0)), .bool (readB v)] 6 none | 23 => .bool (vwR v) | 24 => .bool (!vwR v) | _ => .tuple []
theorem hms : methV Tryz.prog 134 "hansard/viewers.right" = some 135 := by kernel_rfl
theorem hmc : methV Tryz.prog 133 "hansard/viewers.right" = some 122 := by kernel_rfl
theorem beqZ (n : Int) : (n == (0 : Int)) = decide (n = 0) := rfl
theorem regO {v : VwZ} {f : Nat → V} {ts : List (Option Nat)} {d : List Def} {p : Pan} {ro : Option Nat} (hs : smVw v)
  (h1 : f 1 = .ptr 0 0) (h3 : f 3 = .func (.func 65) [] []) (h4 : f 4 = rdV v) :
  SemOk cfg (Ci cfg) (drawAt Tryz.f41 0) ⟨tab 41 f, ⟨[.cells (cellsV v)], ts⟩, d, p, ro⟩ := by
 have hs1 := hs.1
 have hs2 := hs.2.1
 have hs3 := hs.2.2
 refine semOk_list (valO v) (fun _ => ⟨[.cells (cellsV v)], ts⟩) (by kernel_rfl) (by kernel_rfl) (by kernel_rfl) rfl ?_ (fun _ _ _ => rfl)
 refine ⟨?_, ?_, ?_, ?_, ?_, ?_, ?_, ?_, ?_, ?_, ?_, ?_, ?_, ?_, ?_, ?_, ?_, ?_, ?_, ?_, ?_, ?_, ?_, ?_, ?_, trivial⟩
 all_goals intro S ev hcl haf hS he
 ·have x3 : ev (.tmp 3) = V.func (.func 65) [] [] := by rw [ev_old he 3 (by kernel_rfl), ← h3]; rfl
  simp (disch := first|exact DD|fail) [-getElem?_pos, gZ, gS, eff, opR, he.const, ofVal, x3, valO]
 ·have x1 : ev (.tmp 1) = .ptr 0 0 := by rw [ev_old he 1 (by kernel_rfl), ← h1]; rfl
  simp (disch := first|exact DD|fail) [-getElem?_pos, gZ, gS, eff, opR, he.const, ofVal, x1, valO]
 ·have x15 : ev (.tmp 15) = .ptr 0 0 := ev_by he haf 1 15 (by kernel_rfl) (by simp [valO])
  simp (disch := first|exact DD|fail) [-getElem?_pos, gZ, gS, eff, opR, he.const, ofVal, x15, cellsV, valO]
 ·have x14 : ev (.tmp 14) = V.func (.func 65) [] [] := ev_by he haf 0 14 (by kernel_rfl) (by simp [valO])
  have x16 : ev (.tmp 16) = .int .i64 v.no := ev_by he haf 2 16 (by kernel_rfl) (by simp [valO])
  simp (disch := first|exact DD|fail) [-getElem?_pos, gZ, gS, eff, opR, he.const, ofVal, x14, x16, valO]
 ·have x3 : ev (.tmp 3) = V.func (.func 65) [] [] := by rw [ev_old he 3 (by kernel_rfl), ← h3]; rfl
  simp (disch := first|exact DD|fail) [-getElem?_pos, gZ, gS, eff, opR, he.const, ofVal, x3, valO]
 ·have x1 : ev (.tmp 1) = .ptr 0 0 := by rw [ev_old he 1 (by kernel_rfl), ← h1]; rfl
  simp (disch := first|exact DD|fail) [-getElem?_pos, gZ, gS, eff, opR, he.const, ofVal, x1, valO]
 ·have x19 : ev (.tmp 19) = .ptr 0 1 := ev_by he haf 5 19 (by kernel_rfl) (by simp [valO])
  simp (disch := first|exact DD|fail) [-getElem?_pos, gZ, gS, eff, opR, he.const, ofVal, x19, cellsV, valO]
 ·have x18 : ev (.tmp 18) = V.func (.func 65) [] [] := ev_by he haf 4 18 (by kernel_rfl) (by simp [valO])
  have x20 : ev (.tmp 20) = .int .i64 v.lang := ev_by he haf 6 20 (by kernel_rfl) (by simp [valO])
  simp (disch := first|exact DD|fail) [-getElem?_pos, gZ, gS, eff, opR, he.const, ofVal, x18, x20, valO]
 ·have x3 : ev (.tmp 3) = V.func (.func 65) [] [] := by rw [ev_old he 3 (by kernel_rfl), ← h3]; rfl
  simp (disch := first|exact DD|fail) [-getElem?_pos, gZ, gS, eff, opR, he.const, ofVal, x3, valO]
 ·have x1 : ev (.tmp 1) = .ptr 0 0 := by rw [ev_old he 1 (by kernel_rfl), ← h1]; rfl
  simp (disch := first|exact DD|fail) [-getElem?_pos, gZ, gS, eff, opR, he.const, ofVal, x1, valO]
 ·have x23 : ev (.tmp 23) = .ptr 0 2 := ev_by he haf 9 23 (by kernel_rfl) (by simp [valO])
  simp (disch := first|exact DD|fail) [-getElem?_pos, gZ, gS, eff, opR, he.const, ofVal, x23, cellsV, valO]
 ·have x22 : ev (.tmp 22) = V.func (.func 65) [] [] := ev_by he haf 8 22 (by kernel_rfl) (by simp [valO])
  have x24 : ev (.tmp 24) = .int .i64 v.lines := ev_by he haf 10 24 (by kernel_rfl) (by simp [valO])
  simp (disch := first|exact DD|fail) [-getElem?_pos, gZ, gS, eff, opR, he.const, ofVal, x22, x24, valO]
 ·have x3 : ev (.tmp 3) = V.func (.func 65) [] [] := by rw [ev_old he 3 (by kernel_rfl), ← h3]; rfl
  simp (disch := first|exact DD|fail) [-getElem?_pos, gZ, gS, eff, opR, he.const, ofVal, x3, valO]
 ·have x1 : ev (.tmp 1) = .ptr 0 0 := by rw [ev_old he 1 (by kernel_rfl), ← h1]; rfl
  simp (disch := first|exact DD|fail) [-getElem?_pos, gZ, gS, eff, opR, he.const, ofVal, x1, valO]
 ·have x27 : ev (.tmp 27) = .ptr 0 5 := ev_by he haf 13 27 (by kernel_rfl) (by simp [valO])
  simp (disch := first|exact DD|fail) [-getElem?_pos, gZ, gS, eff, opR, he.const, ofVal, x27, cellsV, valO]
 ·have x26 : ev (.tmp 26) = V.func (.func 65) [] [] := ev_by he haf 12 26 (by kernel_rfl) (by simp [valO])
  have x28 : ev (.tmp 28) = .int .i64 v.speed := ev_by he haf 14 28 (by kernel_rfl) (by simp [valO])
  simp (disch := first|exact DD|fail) [-getElem?_pos, gZ, gS, eff, opR, he.const, ofVal, x26, x28, valO]
 ·have x1 : ev (.tmp 1) = .ptr 0 0 := by rw [ev_old he 1 (by kernel_rfl), ← h1]; rfl
  simp (disch := first|exact DD|fail) [-getElem?_pos, gZ, gS, eff, opR, he.const, ofVal, x1, valO]
 ·have x30 : ev (.tmp 30) = .ptr 0 11 := ev_by he haf 16 30 (by kernel_rfl) (by simp [valO])
  simp (disch := first|exact DD|fail) [-getElem?_pos, gZ, gS, eff, opR, he.const, ofVal, x30, cellsV, valO]
 ·have x31 : ev (.tmp 31) = .agg [.int .i64 v.scr.w, .int .i64 v.scr.h, R fl0 eQ v.scr.bl] := ev_by he haf 17 31 (by kernel_rfl) (by simp [valO])
  have xf := he.func 67
  simp (disch := first|exact DD|fail) [-getElem?_pos, gZ, gS, eff, opR, he.const, ofVal, x31, xf, valO, hs3]
 ·have x32 : ev (.tmp 32) = .int .i64 (scrE v.scr) := ev_by he haf 18 32 (by kernel_rfl) (by simp [valO])
  simp (disch := first|exact DD|fail) [-getElem?_pos, gZ, gS, eff, opR, beqZ, he.const, ofVal, x32, valO]
 ·have x4 : ev (.tmp 4) = rdV v := by rw [ev_old he 4 (by kernel_rfl), ← h4]; rfl
  simp (disch := first|exact DD|fail) [-getElem?_pos, gZ, gS, eff, opR, he.const, ofVal, x4, valO]
 ·have x34 : ev (.tmp 34) = rdV v := ev_by he haf 20 34 (by kernel_rfl) (by simp [valO])
  by_cases hc : v.cells = 0
  ·have hr : rdV v = .iface 134 (.agg (cellsV v)) := by unfold rdV; rw [if_pos hc]
   have hq : readB v = screenB v := by unfold readB; rw [if_pos hc]
   rw [hr] at x34
   simp (disch := first|exact DD|fail) [-getElem?_pos, gZ, gS, eff, opR, he.const, ofVal, x34, valO, hq, hms, cellsV, hs]
  ·have hr : rdV v = .iface 133 (.agg (cellsV v)) := by unfold rdV; rw [if_neg hc]
   have hq : readB v = cellsB v := by unfold readB; rw [if_neg hc]
   rw [hr] at x34
   simp (disch := first|exact DD|fail) [-getElem?_pos, gZ, gS, eff, opR, he.const, ofVal, x34, valO, hq, hmc, cellsV, hs]
 ·have x17 : ev (.tmp 17) = .bool (inB v.no 0 99999) := ev_by he haf 3 17 (by kernel_rfl) (by simp [valO])
  have x21 : ev (.tmp 21) = .bool (inB v.lang 0 31) := ev_by he haf 7 21 (by kernel_rfl) (by simp [valO])
  have x25 : ev (.tmp 25) = .bool (inB v.lines 1 8) := ev_by he haf 11 25 (by kernel_rfl) (by simp [valO])
  have x29 : ev (.tmp 29) = .bool (inB v.speed 0 1000) := ev_by he haf 15 29 (by kernel_rfl) (by simp [valO])
  have x33 : ev (.tmp 33) = .bool (decide (scrE v.scr = 0)) := ev_by he haf 19 33 (by kernel_rfl) (by simp [valO])
  have x35 : ev (.tmp 35) = .bool (readB v) := ev_by he haf 21 35 (by kernel_rfl) (by simp [valO])
  simp (disch := first|exact DD|fail) [-getElem?_pos, gZ, gS, eff, opR, he.const, ofVal, x17, x21, x25, x29, x33, x35, valO]
 ·have x36 : ev (.tmp 36) = .row false true [.bool (inB v.no 0 99999), .bool (inB v.lang 0 31), .bool (inB v.lines 1 8), .bool (inB v.speed 0 1000), .bool (decide (scrE v.scr = 0)), .bool (readB v)] 6 none := ev_by he haf 22 36 (by kernel_rfl) (by simp [valO])
  have xf := he.func 66
  simp (disch := first|exact DD|fail) [-getElem?_pos, gZ, gS, eff, opR, he.const, ofVal, x36, xf, valO, vwR, baseB]
 ·have x37 : ev (.tmp 37) = .bool (vwR v) := ev_by he haf 23 37 (by kernel_rfl) (by simp [valO])
  simp (disch := first|exact DD|fail) [-getElem?_pos, gZ, gS, eff, opR, he.const, ofVal, x37, valO]
theorem regO_wp {v : VwZ} {f : Nat → V} {ts : List (Option Nat)} {d : List Def} {p : Pan} {ro : Option Nat} {K : List Fr} {Q : Ax → St → Prop} {id : Nat} (hs : smVw v)
  (h1 : f 1 = .ptr 0 0) (h3 : f 3 = .func (.func 65) [] []) (h4 : f 4 = rdV v)
  (kk : ∀ f', (f' 38 = .bool (!vwR v) ∧ ∀ j, j < 14 ∨ 38 < j → f' j = f j) → dn cfg .normal ⟨tab 41 f', ⟨[.cells (cellsV v)], ts⟩, d, p, ro⟩ K Q) :
  wp cfg (.region id (drawAt Tryz.f41 0) true) ⟨tab 41 f, ⟨[.cells (cellsV v)], ts⟩, d, p, ro⟩ K Q := by
 have hs1 := hs.1
 have hs2 := hs.2.1
 have hs3 := hs.2.2
 by_cases hc : v.cells = 0
 ·have hr : rdV v = .iface 134 (.agg (cellsV v)) := by unfold rdV; rw [if_pos hc]
  have hq : readB v = screenB v := by unfold readB; rw [if_pos hc]
  rw [hr] at h4
  refine wp_sem2 (regO hs h1 h3 (h4.trans hr.symm)) ?_ ?_
  all_goals
   simp only [Tryz.f41, drawAt, drawsOf, codeOf, Option.getD, List.append, List.nil_append, List.cons_append, List.append_nil, List.getD, gZ, gS]
   repeat' (first|((first|refine wA ?_ ?_|refine wB ?_ ?_)<;>intro hc<;>try simp at hc)|refine wF ?_|refine wY ?_|refine wL ?_|refine owe ?_ fun ho=>?_|(simp (disch := first|exact DD|fail) [h1, h3, h4, hms, cellsV, hs3, hs, -getElem?_pos, gZ, gS]))
   exact kk _ ⟨by simp [upd, vwR, baseB, hq, beqZ], fun j hj => by simp only [upd]; repeat rw [if_neg (by omega)]⟩
 ·have hr : rdV v = .iface 133 (.agg (cellsV v)) := by unfold rdV; rw [if_neg hc]
  have hq : readB v = cellsB v := by unfold readB; rw [if_neg hc]
  rw [hr] at h4
  refine wp_sem2 (regO hs h1 h3 (h4.trans hr.symm)) ?_ ?_
  all_goals
   simp only [Tryz.f41, drawAt, drawsOf, codeOf, Option.getD, List.append, List.nil_append, List.cons_append, List.append_nil, List.getD, gZ, gS]
   repeat' (first|((first|refine wA ?_ ?_|refine wB ?_ ?_)<;>intro hc<;>try simp at hc)|refine wF ?_|refine wY ?_|refine wL ?_|refine owe ?_ fun ho=>?_|(simp (disch := first|exact DD|fail) [h1, h3, h4, hmc, cellsV, hs3, hs, -getElem?_pos, gZ, gS]))
   exact kk _ ⟨by simp [upd, vwR, baseB, hq, beqZ], fun j hj => by simp only [upd]; repeat rw [if_neg (by omega)]⟩
end Go.Ab
namespace Go.Ab
open Go.Proofs Go.Proofs.YtlmhbemgaikmaaaGreatDoor
set_option maxRecDepth 100000
theorem rd_rect : Reads Tryz.prog 152 (fun _ : RectZ => True) eQ (fun _ => 0) := by
 have h := reads_struct (t := 152) (P := Tryz.prog) Tryz.underlying152 (readsF_cons rfl rd_int (readsF_cons (by kernel_rfl) rd_int (readsF_cons (by kernel_rfl) rd_int (readsF_cons (by kernel_rfl) rd_int (readsF_nil _)))))
 exact reads_congr h fun a _ => ⟨⟨a.1, a.2.1, a.2.2.1, a.2.2.2.1⟩, trivial, rfl, Nat.zero_le _⟩
theorem rd_rects : Reads Tryz.prog 27 (fun l : List RectZ => ∀ y ∈ l, True) (fun l => [R fl0 eQ l]) (fun l => (l.map fun _ => 0 + 1).sum) := reads_slice Tryz.underlying27 (by kernel_rfl) (by rw [show Tryz.prog.cellsOf 152 = 4 by kernel_rfl]; decide) rd_rect
def eScr (s : ScrZ) : List V := [.int .i64 s.w, .int .i64 s.h, R fl0 eQ s.bl]
theorem rd_screen : Reads Tryz.prog 29 (fun _ : ScrZ => True) eScr (fun s => s.bl.length) := by
 have h := reads_struct (t := 29) (P := Tryz.prog) Tryz.underlying29 (readsF_cons rfl rd_int (readsF_cons (by kernel_rfl) rd_int (readsF_cons (by kernel_rfl) rd_rects (readsF_nil _))))
 exact reads_congr h fun a _ => ⟨⟨a.1, a.2.1, a.2.2.1⟩, trivial, rfl, by simp [sum_one]⟩
def szV (v : VwZ) : Nat := v.font.gs.length + v.font.ks.length + (v.signs.map fun x => szZ x + 1).sum + v.scr.bl.length
theorem rd_viewer : Reads Tryz.prog 31 (fun _ : VwZ => True) cellsV szV := by
 have h := reads_struct (t := 31) (P := Tryz.prog) Tryz.underlying31 (readsF_cons rfl rd_int (readsF_cons (by kernel_rfl) rd_int (readsF_cons (by kernel_rfl) rd_int (readsF_cons (by kernel_rfl) rd_int (readsF_cons (by kernel_rfl) rd_int (readsF_cons (by kernel_rfl) rd_int (readsF_cons (by kernel_rfl) rd_bool (readsF_cons (by kernel_rfl) rd_font (readsF_cons (by kernel_rfl) rd_signs (readsF_cons (by kernel_rfl) rd_screen (readsF_nil _)))))))))))
 exact reads_congr h fun a _ => ⟨⟨a.1, a.2.1, a.2.2.1, a.2.2.2.1, a.2.2.2.2.1, a.2.2.2.2.2.1, a.2.2.2.2.2.2.1, a.2.2.2.2.2.2.2.1, a.2.2.2.2.2.2.2.2.1, a.2.2.2.2.2.2.2.2.2.1⟩, trivial, rfl, by simp only [szV]; omega⟩
theorem smVw_rd {v : VwZ} (h : szV v ≤ 1048576) : smVw v := by
 unfold szV at h
 exact ⟨⟨by omega, by omega⟩, smZs_rd (by omega), by omega⟩
end Go.Ab
