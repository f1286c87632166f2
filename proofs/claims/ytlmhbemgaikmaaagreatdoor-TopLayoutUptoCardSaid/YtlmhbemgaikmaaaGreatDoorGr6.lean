/- A part of the proof. -/
import Derived.Test.YtlmhbemgaikmaaaGreatDoorU
import Derived.Test.YtlmhbemgaikmaaaGreatDoorAbsD
import Derived.Test.YtlmhbemgaikmaaaGreatDoorGr2
import Derived.Test.YtlmhbemgaikmaaaGreatDoorGr4
set_option linter.unusedVariables false
set_option linter.unusedSimpArgs false
set_option linter.unusedSectionVars false
set_option linter.deprecated false
namespace Go.Ab
abbrev Wd := List UInt8
def cst (x y : Wd) : Int := if x = y then 0 else 1
theorem cst_comm (x y : Wd) : cst x y = cst y x := by
 unfold cst
 by_cases h : x = y
 ·rw [if_pos h, if_pos h.symm]
 ·rw [if_neg h, if_neg (fun e => h e.symm)]
def lev : List Wd → List Wd → Int
 | [], [] => 0
 | _ :: a, [] => 1 + lev a []
 | [], _ :: b => 1 + lev [] b
 | x :: a, y :: b => min (min (cst x y + lev a b) (1 + lev a (y :: b))) (1 + lev (x :: a) b)
termination_by a b => a.length + b.length
inductive Al : List Wd → List Wd → Int → Prop
 | nil : Al [] [] 0
 | both {a b : List Wd} {n : Int} (x y : Wd) (h : Al a b n) : Al (x :: a) (y :: b) (cst x y + n)
 | less {a b : List Wd} {n : Int} (x : Wd) (h : Al a b n) : Al (x :: a) b (1 + n)
 | more {a b : List Wd} {n : Int} (y : Wd) (h : Al a b n) : Al a (y :: b) (1 + n)
theorem Al.swap {a b : List Wd} {n : Int} (h : Al a b n) : Al b a n := by
 induction h with
 | nil => exact .nil
 | both x y _ ih => rw [cst_comm]; exact .both y x ih
 | less x _ ih => exact .more x ih
 | more y _ ih => exact .less y ih
theorem Al.app {a b c d : List Wd} {n m : Int} (h : Al a b n) (k : Al c d m) : Al (a ++ c) (b ++ d) (n + m) := by
 induction h with
 | nil => simpa using k
 | both x y _ ih => rw [Int.add_assoc]; exact .both x y ih
 | less x _ ih => rw [Int.add_assoc]; exact .less x ih
 | more y _ ih => rw [Int.add_assoc]; exact .more y ih
def stepL (s : Int) : List Wd → List Wd → Option (List Wd × List Wd × Int)
 | x :: a, y :: b => if s = 1 then (if x = y then some (a, b, 0) else none) else if s = 2 then (if x = y then none else some (a, b, 1)) else if s = 3 then some (a, y :: b, 1) else if s = 4 then some (x :: a, b, 1) else none
 | x :: a, [] => if s = 3 then some (a, [], 1) else none
 | [], y :: b => if s = 4 then some ([], b, 1) else none
 | [], [] => none
def pathC : List Int → List Wd → List Wd → Option Int
 | [], a, b => if a = [] ∧ b = [] then some 0 else none
 | s :: r, a, b => match stepL s a b with
  | some (a', b', c) => (pathC r a' b').map (c + ·)
  | none => none
def alignF : List Wd → List Wd → List Int
 | [], [] => []
 | _ :: a, [] => 3 :: alignF a []
 | [], _ :: b => 4 :: alignF [] b
 | x :: a, y :: b => if x = y ∧ lev (x :: a) (y :: b) = lev a b then 1 :: alignF a b
  else if ¬ x = y ∧ lev (x :: a) (y :: b) = 1 + lev a b then 2 :: alignF a b
  else if lev (x :: a) (y :: b) = 1 + lev a (y :: b) then 3 :: alignF a (y :: b)
  else 4 :: alignF (x :: a) b
termination_by a b => a.length + b.length
def beforeL : List Int → List Int → Bool
 | [], [] => false
 | [], _ :: _ => true
 | _ :: _, [] => false
 | x :: a, y :: b => if x = y then beforeL a b else decide (x < y)
def turnS (s : Int) : Int := if s = 3 then 4 else if s = 4 then 3 else s
end Go.Ab
namespace Go.Ab
set_option maxRecDepth 10000
structure Sgn where
 text : Wd
 cells : List Int
 deriving DecidableEq
instance : Inhabited Sgn := ⟨⟨[], []⟩⟩
def eZ (x : Sgn) : List V := [.str x.text, R fl0 eI x.cells]
@[simp] theorem eZ_def (x : Sgn) : eZ x = [.str x.text, R fl0 eI x.cells] := rfl
instance : EncC eZ 2 := ⟨fun _ => rfl, by decide, fun _ => rfl, fun _ => by simp [eZ, V.closed.closedL, V.closed], fun _ => by simp [eZ, V.norm.normL, V.norm]⟩
def smZ (x : Sgn) : Prop := x.text.length < 1099511627776 ∧ x.cells.length < 1099511627776
def smZs (t : List Sgn) : Prop := t.length < 1099511627776 ∧ ∀ x ∈ t, smZ x
def dotB (n : Int) : Bool := decide (0 ≤ n ∧ n ≤ 63)
def dotsL (l : List Int) : Bool := l.all dotB
def sgnH (x : Sgn) : Bool := decide ((runesG x.text).2 = 0 ∧ 1 ≤ (runesG x.text).1.length ∧ (runesG x.text).1.length ≤ 4 ∧ 1 ≤ x.cells.length ∧ x.cells.length ≤ 4)
def sgnOk (x : Sgn) : Bool := sgnH x && dotsL x.cells
def freshZ (t : List Sgn) (i : Nat) : Bool := decide (∀ k, k < i → ¬ (nth t k).text = (nth t i).text)
def sgnAt (t : List Sgn) (i : Nat) : Bool := sgnOk (nth t i) && freshZ t i
def tabOk (t : List Sgn) : Bool := allTo t.length (sgnAt t)
def checkZ (t : List Sgn) : Int := if 64 < t.length then 2 else if t.length = 0 then 120 else if tabOk t = true then 0 else 120
end Go.Ab
namespace Go.Ab
open Go.Proofs
theorem smZs_nth {t : List Sgn} (h : smZs t) {i : Nat} (hi : i < t.length) : smZ (nth t i) := h.2 _ (nth_mem hi)
theorem dotsL_t {l : List Int} (h : ∀ j, j < l.length → dotB (nth l j) = true) : dotsL l = true := by
 unfold dotsL; rw [List.all_eq_true]
 intro x hx
 obtain ⟨j, hj, rfl⟩ := List.mem_iff_getElem.1 hx
 rw [← nth_eq hj]; exact h j hj
theorem dotsL_f {l : List Int} {j : Nat} (hj : j < l.length) (h : dotB (nth l j) = false) : dotsL l = false := by
 cases e : dotsL l with
 | false => rfl
 | true =>
  unfold dotsL at e
  rw [List.all_eq_true] at e
  rw [e _ (nth_mem hj)] at h; cases h
theorem checkZ_many {t : List Sgn} (h : 64 < t.length) : checkZ t = 2 := if_pos h
theorem checkZ_bad {t : List Sgn} (h : ¬ 64 < t.length) {i : Nat} (hi : i < t.length) (hb : sgnAt t i = false) : checkZ t = 120 := by
 unfold checkZ tabOk
 rw [if_neg h, if_neg (by omega), allTo_false i hi hb]; rfl
theorem checkZ_empty {t : List Sgn} (h : t.length = 0) : checkZ t = 120 := by
 unfold checkZ
 rw [if_neg (by omega), if_pos h]
theorem checkZ_ok {t : List Sgn} (h : ¬ 64 < t.length) (h0 : ¬ t.length = 0) (ha : ∀ i, i < t.length → sgnAt t i = true) : checkZ t = 0 := by
 unfold checkZ tabOk
 rw [if_neg h, if_neg h0, if_pos (allTo_iff.2 ha)]
theorem checkZ_zero {t : List Sgn} (h : checkZ t = 0) : t.length ≤ 64 ∧ 0 < t.length ∧ ∀ i, i < t.length → sgnAt t i = true := by
 unfold checkZ at h
 split at h
 ·cases h
 ·split at h
  ·cases h
  ·split at h
   ·rename_i h1 h2 h3
    exact ⟨by omega, by omega, allTo_iff.1 h3⟩
   ·cases h
theorem sgnAt_of {t : List Sgn} {i : Nat} (h : sgnAt t i = true) : ((runesG (nth t i).text).2 = 0 ∧ 1 ≤ (runesG (nth t i).text).1.length ∧ (runesG (nth t i).text).1.length ≤ 4 ∧ 1 ≤ (nth t i).cells.length ∧ (nth t i).cells.length ≤ 4) ∧ dotsL (nth t i).cells = true ∧ ∀ k, k < i → ¬ (nth t k).text = (nth t i).text := by
 unfold sgnAt sgnOk sgnH freshZ at h
 simp only [Bool.and_eq_true, decide_eq_true_eq] at h
 exact ⟨h.1.1, h.1.2, h.2⟩
def mSn : Nat → List Wd → List (V × V × Nat)
 | _, [] => []
 | i, k :: l => (.str k, .bool true, i) :: mSn (i + 1) l
theorem mSn_app : ∀ (l : List Wd) (i : Nat) (s : Wd), mSn i l ++ [(V.str s, V.bool true, i + l.length)] = mSn i (l ++ [s])
 | [], i, s => rfl
 | k :: l, i, s => by
  have := mSn_app l (i + 1) s
  rw [mSn, List.cons_append, List.cons_append, mSn, ← this, List.length_cons, Nat.add_assoc i 1, Nat.add_comm 1]
theorem eqKey_strZ {P : Program} {kt : TypeId} (hk : P.underlying kt = some .string) (a b : Wd) : eqKey P kt (.str a) (.str b) = some (a == b) := by
 unfold eqKey; rw [hk]
theorem findK_Sn {P : Program} {kt : TypeId} (hk : P.underlying kt = some .string) (s : Wd) : ∀ (l : List Wd) (i : Nat),
  (s ∉ l ∧ findK P kt (.str s) (mSn i l) = some none) ∨ (s ∈ l ∧ ∃ j, findK P kt (.str s) (mSn i l) = some (some (j, .bool true, i + j)))
 | [], i => .inl ⟨by simp, rfl⟩
 | k :: l, i => by
  by_cases h : s = k
  ·subst h
   exact .inr ⟨by simp, 0, by rw [mSn, findK, eqKey_strZ hk]; simp⟩
  ·have hb : (s == k) = false := by rw [beq_eq_false_iff_ne]; exact h
   rcases findK_Sn hk s l (i + 1) with ⟨h1, h2⟩ | ⟨h1, j, h2⟩
   ·exact .inl ⟨by simp [h, h1], by rw [mSn, findK, eqKey_strZ hk, hb]; simp [h2]⟩
   ·refine .inr ⟨by simp [h1], j + 1, ?_⟩
    rw [mSn, findK, eqKey_strZ hk, hb]
    simp only [h2]
    rw [show i + 1 + j = i + (j + 1) by omega]
theorem lookup_Sn {P : Program} {h : Heap} {t kt et : TypeId} {a : Nat} {l : List Wd} (s : Wd) (ht : P.underlying t = some (.map kt et)) (hk : P.underlying kt = some .string) (hz : zeroV P et = some (.bool false)) (hb : h.bs[a]? = some (.map (mSn 0 l) l.length)) :
  lookupV P h t (.map a) (.str s) false = some (.bool (decide (s ∈ l))) := by
 unfold lookupV
 have hko : keyOk P kt (.str s) = true := by unfold keyOk; rw [hk]
 rw [ht]
 simp only [hko, hb]
 rcases findK_Sn hk s l 0 with ⟨h1, h2⟩ | ⟨h1, j, h2⟩
 ·rw [h2]; simp [hz, h1]
 ·rw [h2]; simp [h1]
theorem upd_Sn {P : Program} {h : Heap} {t kt et : TypeId} {a : Nat} {l : List Wd} (s : Wd) (hs : s ∉ l) (ht : P.underlying t = some (.map kt et)) (hk : P.underlying kt = some .string) (hb : h.bs[a]? = some (.map (mSn 0 l) l.length)) :
  mapUpdV P h t (.map a) (.str s) (.bool true) = some { h with bs := h.bs.set a (.map (mSn 0 (l ++ [s])) (l ++ [s]).length) } := by
 unfold mapUpdV
 have hko : keyOk P kt (.str s) = true := by unfold keyOk; rw [hk]
 rw [ht]
 have hc : (V.bool true).cellsO.isNone = false := rfl
 simp only [hko, hb, hc]
 rcases findK_Sn hk s l 0 with ⟨h1, h2⟩ | ⟨h1, j, h2⟩
 ·have := mSn_app l 0 s
  rw [Nat.zero_add] at this
  rw [h2]; simp [this]
 ·exact absurd h1 hs
def textsZ (t : List Sgn) : List Wd := t.map (·.text)
theorem mem_textsZ {t : List Sgn} {i : Nat} (hi : i ≤ t.length) {s : Wd} : s ∈ textsZ (t.take i) ↔ ∃ k, k < i ∧ (nth t k).text = s := by
 unfold textsZ
 rw [List.mem_map]
 constructor
 ·rintro ⟨x, hx, rfl⟩
  obtain ⟨k, hk, rfl⟩ := List.mem_iff_getElem.1 hx
  have hk2 : k < i := by rw [List.length_take] at hk; omega
  refine ⟨k, hk2, ?_⟩
  rw [List.getElem_take, ← nth_eq]
 ·rintro ⟨k, hk, rfl⟩
  refine ⟨nth t k, ?_, rfl⟩
  rw [← nth_take_lt hk]
  exact nth_mem (by rw [List.length_take]; omega)
theorem fresh_iff {t : List Sgn} {i : Nat} (hi : i ≤ t.length) : freshZ t i = !decide ((nth t i).text ∈ textsZ (t.take i)) := by
 unfold freshZ
 rw [Bool.eq_iff_iff]
 simp only [decide_eq_true_eq, Bool.not_eq_true', decide_eq_false_iff_not, mem_textsZ hi]
 constructor
 ·rintro h ⟨k, hk, e⟩; exact h k hk e
 ·intro h k hk e; exact h ⟨k, hk, e⟩
end Go.Ab
namespace Go.Ab
open Go.Proofs Go.Proofs.YtlmhbemgaikmaaaGreatDoor
set_option maxRecDepth 100000
def szZ (x : Sgn) : Nat := x.text.length + x.cells.length
theorem rd_sign : Reads Tryz.prog 121 (fun _ : Sgn => True) eZ szZ := by
 have h := reads_struct (t := 121) (P := Tryz.prog) Tryz.underlying121 (readsF_cons rfl rd_string (readsF_cons (by kernel_rfl) rd_ints (readsF_nil _)))
 exact reads_congr h fun a _ => ⟨⟨a.1, a.2.1⟩, trivial, rfl, by simp [szZ, sum_one]⟩
theorem rd_signs : Reads Tryz.prog 26 (fun l : List Sgn => ∀ y ∈ l, True) (fun l => [R fl0 eZ l]) (fun l => (l.map fun x => szZ x + 1).sum) := reads_slice Tryz.underlying26 (by kernel_rfl) (by rw [show Tryz.prog.cellsOf 121 = 2 by kernel_rfl]; decide) rd_sign
theorem smZs_rd {r : List Sgn} (h : (r.map fun x => szZ x + 1).sum ≤ 1048576) : smZs r := by
 have h1 := sum_len (f := szZ) r
 refine ⟨by omega, fun c hc => ?_⟩
 have h2 := sum_mem (f := fun x => szZ x + 1) hc
 have h3 : szZ c = c.text.length + c.cells.length := rfl
 exact ⟨by omega, by omega⟩
end Go.Ab
