/- Layer 11 (fonts): the reference's functions. -/
import Derived.Test.YtdfpmhgfmmcopaaDoorU
import Derived.Test.YtdfpmhgfmmcopaaDoorT7
set_option linter.unusedVariables false
set_option linter.unusedSimpArgs false
set_option linter.unusedSectionVars false
set_option linter.deprecated false
namespace Go.Ab
open Go.Proofs
set_option maxRecDepth 100000
set_option maxHeartbeats 4000000
structure Glyph where
  lo : Int
  hi : Int
  width : Int
  deriving Inhabited, DecidableEq
structure Kern where
  a : Int
  b : Int
  by' : Int
  deriving Inhabited, DecidableEq
structure Font where
  gs : List Glyph
  other : Int
  ks : List Kern
  deriving Inhabited
def eG (x : Glyph) : List V := [.int .i64 x.lo, .int .i64 x.hi, .int .i64 x.width]
def eK (x : Kern) : List V := [.int .i64 x.a, .int .i64 x.b, .int .i64 x.by']
instance : EncC eG 3 := ⟨fun _ => rfl, by decide, fun _ => rfl, fun _ => rfl, fun _ => rfl⟩
instance : EncC eK 3 := ⟨fun _ => rfl, by decide, fun _ => rfl, fun _ => rfl, fun _ => rfl⟩
def pointN (n : Int) : Bool := decide (0 ≤ n ∧ n ≤ 1114111)
def widthN (n : Int) : Bool := decide (0 ≤ n ∧ n ≤ 4096)
@[simp] theorem pointN_t (x : Int) : pointN x = true ↔ 0 ≤ x ∧ x ≤ 1114111 := by simp [pointN]
@[simp] theorem pointN_f (x : Int) : pointN x = false ↔ ¬ (0 ≤ x ∧ x ≤ 1114111) := by simp only [pointN, decide_eq_false_iff_not]
@[simp] theorem widthN_t (x : Int) : widthN x = true ↔ 0 ≤ x ∧ x ≤ 4096 := by simp [widthN]
@[simp] theorem widthN_f (x : Int) : widthN x = false ↔ ¬ (0 ≤ x ∧ x ≤ 4096) := by simp only [widthN, decide_eq_false_iff_not]
theorem C32 (n : Int) : Kc cfg 32 [.int .i64 n] (.ret (.bool (pointN n))) := by
  refine outS_of_wp cfg (fn := Tryd.f32) Tryd.func32 rfl (by simp [Tryd.f32]) ?_
  simp (disch := first | assumption | omega | (simp; done) | (simp; omega)) [-getElem?_pos, List.getElem?_cons_zero, List.getElem?_cons_succ, Tryd.f32]
  repeat' (first | (refine wpc_split _ (fun hc => ?_) (fun hc => ?_) <;> (try simp at hc)) | (refine ww_split _ (fun hc => ?_) (fun hc => ?_) <;> (try simp at hc)) | (refine wp_drawF (by kernel_rfl) ?_) | (refine wk_yldW _ ?_) | (refine owe ?_ (fun ho => ?_)) | (simp (disch := first | assumption | omega | (simp; done) | (simp; omega)) [-getElem?_pos, List.getElem?_cons_zero, List.getElem?_cons_succ]))
  all_goals grind [pointN]
@[simp] theorem S32 (n : Int) (hh : Heap) : Ci cfg (.func (.func 32) [] []) [.int .i64 n] hh = some (.ret (.bool (pointN n)), hh) :=
  Ci_K cfg rfl rfl (by simp) (by simp) (C32 n)
theorem C31 (n : Int) : Kc cfg 31 [.int .i64 n] (.ret (.bool (widthN n))) := by
  refine outS_of_wp cfg (fn := Tryd.f31) Tryd.func31 rfl (by simp [Tryd.f31]) ?_
  simp (disch := first | assumption | omega | (simp; done) | (simp; omega)) [-getElem?_pos, List.getElem?_cons_zero, List.getElem?_cons_succ, Tryd.f31]
  repeat' (first | (refine wpc_split _ (fun hc => ?_) (fun hc => ?_) <;> (try simp at hc)) | (refine ww_split _ (fun hc => ?_) (fun hc => ?_) <;> (try simp at hc)) | (refine wp_drawF (by kernel_rfl) ?_) | (refine wk_yldW _ ?_) | (refine owe ?_ (fun ho => ?_)) | (simp (disch := first | assumption | omega | (simp; done) | (simp; omega)) [-getElem?_pos, List.getElem?_cons_zero, List.getElem?_cons_succ]))
  all_goals grind [widthN]
@[simp] theorem S31 (n : Int) (hh : Heap) : Ci cfg (.func (.func 31) [] []) [.int .i64 n] hh = some (.ret (.bool (widthN n)), hh) :=
  Ci_K cfg rfl rfl (by simp) (by simp) (C31 n)
def gOk (g : Glyph) : Bool := decide (0 ≤ g.lo ∧ g.lo ≤ g.hi ∧ g.hi ≤ 1114111 ∧ 0 ≤ g.width ∧ g.width ≤ 4096)
def kOk (k : Kern) : Bool := decide ((0 ≤ k.a ∧ k.a ≤ 1114111) ∧ (0 ≤ k.b ∧ k.b ≤ 1114111) ∧ -4096 ≤ k.by' ∧ k.by' ≤ 4096)
def gRise (gs : List Glyph) (i : Nat) : Bool := decide (0 < i → (nth gs (i - 1)).hi < (nth gs i).lo)
def kRise (ks : List Kern) (i : Nat) : Bool := decide (0 < i → (nth ks (i - 1)).a < (nth ks i).a ∨ (nth ks (i - 1)).a = (nth ks i).a ∧ (nth ks (i - 1)).b < (nth ks i).b)
def gAll (gs : List Glyph) : Bool := allTo gs.length fun i => gOk (nth gs i) && gRise gs i
def kAll (ks : List Kern) : Bool := allTo ks.length fun i => kOk (nth ks i) && kRise ks i
def checkS (f : Font) : Int := if 1024 < f.gs.length ∨ 1024 < f.ks.length then 2 else if widthN f.other && gAll f.gs && kAll f.ks then 0 else 110
theorem checkS_long {f : Font} (h : 1024 < f.gs.length ∨ 1024 < f.ks.length) : checkS f = 2 := by unfold checkS; rw [if_pos h]
theorem checkS_short {f : Font} (h : ¬ (1024 < f.gs.length ∨ 1024 < f.ks.length)) : checkS f = if widthN f.other && gAll f.gs && kAll f.ks then 0 else 110 := by unfold checkS; rw [if_neg h]
end Go.Ab
