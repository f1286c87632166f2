/- AlignEnds: the law. -/
import Derived.Test.YtdgdefemmjngnaaDoorD21
import Derived.Test.YtdgdefemmjngnaaDoorS21
set_option linter.unusedVariables false
set_option linter.unusedSimpArgs false
set_option linter.unusedSectionVars false
set_option linter.deprecated false
namespace Go.Ab
open Go.Proofs
set_option maxRecDepth 100000
set_option maxHeartbeats 4000000
def apT (ts : List (Option Nat)) (fl : Fl) (e : Bool) (sz : Nat) : List (Option Nat) := if e then ts else bumpT ts fl.2.2 sz
def apF (fl : Fl) (e : Bool) (n : Nat) : Fl := if e then fl else (false, false, some n)
theorem append_Rif {P : Program} {α : Type} {E : α → List V} {sz : Nat} {h : Heap} {fl : Fl} {l m : List α} [hE : EncC E sz] {ts : Array TypeId} {fl2 : Fl} (ht : apok P ts sz = true) (ha : App h.ts sz fl) (hl : l.length + m.length ≤ 4294967296) :
    appendV P h false ts (R fl E l) (R fl2 E m) = some (R (apF fl m.isEmpty h.ts.length) E (l ++ m), ⟨h.bs, apT h.ts fl m.isEmpty sz⟩) := by
  unfold apT apF
  cases m with
  | nil =>
    obtain ⟨b, h1, h2⟩ := apok_apz ht
    simp only [List.isEmpty_nil, if_true, List.append_nil]
    exact append_R_nil h1 (by simpa using hl) h2
  | cons x m =>
    rw [append_Rn ht (by simp) ha hl]; rfl
theorem App_if {ts : List (Option Nat)} {sz n : Nat} {fl : Fl} {e : Bool} (ha : App ts sz fl) (hn : n = ts.length) : App (apT ts fl e sz) sz (apF fl e n) := by
  subst hn
  unfold apT apF
  cases e
  · exact App.new _ _ _
  · exact ha
attribute [local simp] App.full App_if
theorem cW5 (h : Heap) (a b c d : List (List UInt8)) (x : List UInt8) (hl : ∀ l ∈ [a, b, c, d, [x]], l.length < 1099511627776 ∧ ∀ x ∈ l, x.length < 1099511627776) : Ci cfg (.func (.func 22) [] []) [.row false true [R fl0 eS a, R fl0 eS b, R fl0 eS c, R fl0 eS d, R (false, true, none) eS [x]] 5 none] h = some (.ret (.bool (wordsL [a, b, c, d, [x]])), h) :=
  Ci_K cfg rfl rfl (by simp) (by simp; rfl) (C22 [a, b, c, d, [x]] (by simp) hl)
theorem C7 (a b c d : List (List UInt8)) (x : List UInt8) (hs : a.length < 1099511627776 ∧ b.length < 1099511627776 ∧ c.length < 1099511627776 ∧ d.length < 1099511627776) (ha : ∀ x ∈ a, x.length < 1099511627776) (hb : ∀ x ∈ b, x.length < 1099511627776) (hc : ∀ x ∈ c, x.length < 1099511627776) (hd : ∀ x ∈ d, x.length < 1099511627776) (hx : x.length < 1099511627776) : Kc cfg 7 [R fl0 eS a, R fl0 eS b, R fl0 eS c, R fl0 eS d, .str x] (.ret (.bool true)) := by
  have hl : ∀ l ∈ [a, b, c, d, [x]], l.length < 1099511627776 ∧ ∀ x ∈ l, x.length < 1099511627776 := by
    intro l hl
    simp at hl
    rcases hl with rfl | rfl | rfl | rfl | rfl
    · exact ⟨hs.1, ha⟩
    · exact ⟨hs.2.1, hb⟩
    · exact ⟨hs.2.2.1, hc⟩
    · exact ⟨hs.2.2.2, hd⟩
    · simpa using hx
  have hnil : V.row false true [] 0 none = R (false, true, none) eS [] := rfl
  have hW := fun h => cW5 h a b c d x hl
  cases hw : wordsL [a, b, c, d, [x]] with
  | false =>
    refine outS_of_wp cfg (fn := Tryd.f7) Tryd.func7 rfl (by simp [Tryd.f7]) ?_
    simp (disch := first | assumption | omega | (simp; done) | (simp; omega)) [-getElem?_pos, List.getElem?_cons_zero, List.getElem?_cons_succ, Tryd.f7, fold_S1, hW, hw]
    repeat' (first | (refine wpc_split _ (fun hc => ?_) (fun hc => ?_) <;> (try simp at hc)) | (refine ww_split _ (fun hc => ?_) (fun hc => ?_) <;> (try simp at hc)) | (refine wp_drawF (by kernel_rfl) ?_) | (refine wk_yldW _ ?_) | (refine layOwe _ (by kernel_rfl) ?_) | (refine owe ?_ (fun ho => ?_)) | (simp (disch := first | assumption | omega | (simp; done) | (simp; omega)) [fold_S1, hW, hw, -getElem?_pos, List.getElem?_cons_zero, List.getElem?_cons_succ]))
  | true =>
    obtain ⟨a1, a2⟩ := wordsL_mem hw (show a ∈ [a, b, c, d, [x]] by simp)
    obtain ⟨b1, b2⟩ := wordsL_mem hw (show b ∈ [a, b, c, d, [x]] by simp)
    obtain ⟨c1, c2⟩ := wordsL_mem hw (show c ∈ [a, b, c, d, [x]] by simp)
    obtain ⟨d1, d2⟩ := wordsL_mem hw (show d ∈ [a, b, c, d, [x]] by simp)
    obtain ⟨-, x2⟩ := wordsL_mem hw (show [x] ∈ [a, b, c, d, [x]] by simp)
    have hs1 : a.length < 1099511627776 ∧ b.length < 1099511627776 := ⟨hs.1, hs.2.1⟩
    have cab : costL a b = lev a b := by unfold costL; rw [if_pos (errS_zero ⟨by omega, a2⟩ ⟨by omega, b2⟩)]
    have car : costL (c ++ (a ++ d)) (c ++ (b ++ d)) = lev a b := by
      unfold costL
      rw [if_pos (errS_zero ⟨by simp; omega, by simp [List.all_append, a2, c2, d2]⟩ ⟨by simp; omega, by simp [List.all_append, b2, c2, d2]⟩), lev_pre, lev_suf]
    have cmo : costL (a ++ [x]) b = lev (a ++ [x]) b := by
      unfold costL
      rw [if_pos (errS_zero ⟨by simp; omega, by rw [List.all_append, a2, x2]; rfl⟩ ⟨by omega, b2⟩)]
    obtain ⟨k1, k2⟩ := lev_last x a b
    have n1 := lev_nonneg a b
    have n2 := lev_nonneg (a ++ [x]) b
    have m1 := lev_max a b
    have hC1 := S23 (c ++ (a ++ d)) (c ++ (b ++ d)) (by simp; omega) (by intro y hy; simp at hy; rcases hy with h | h | h; exact hc y h; exact ha y h; exact hd y h) (by intro y hy; simp at hy; rcases hy with h | h | h; exact hc y h; exact hb y h; exact hd y h)
    have hC2 := S23 (a ++ [x]) b (by simp; omega) (by intro y hy; simp at hy; rcases hy with h | h; exact ha y h; rw [h]; exact hx) hb
    generalize lev a b = n at *
    generalize lev (a ++ [x]) b = k at *
    refine outS_of_wp cfg (fn := Tryd.f7) Tryd.func7 rfl (by simp [Tryd.f7]) ?_
    simp (config := { maxSteps := 2000000 }) (disch := first | assumption | omega | (simp; done) | (simp; omega)) [-getElem?_pos, List.getElem?_cons_zero, List.getElem?_cons_succ, Tryd.f7, fold_S1, hnil, hW, hw, cab, car, cmo]
    repeat' (first | (refine wpc_split _ (fun hc => ?_) (fun hc => ?_) <;> (try simp at hc)) | (refine ww_split _ (fun hc => ?_) (fun hc => ?_) <;> (try simp at hc)) | (refine wp_drawF (by kernel_rfl) ?_) | (refine wk_yldW _ ?_) | (refine layOwe _ (by kernel_rfl) ?_) | (refine owe ?_ (fun ho => ?_)) | (simp (config := { maxSteps := 2000000 }) (disch := first | assumption | omega | (simp; done) | (simp; omega)) [fold_S1, hnil, hW, hw, cab, car, cmo, hC1, hC2, emptyH, append_Rif, Tryd.f25, -getElem?_pos, List.getElem?_cons_zero, List.getElem?_cons_succ]))
    all_goals first
      | (exfalso; omega)
      | omega
      | skip
@[simp] theorem S7 (a b c d : List (List UInt8)) (x : List UInt8) (hs : a.length < 1099511627776 ∧ b.length < 1099511627776 ∧ c.length < 1099511627776 ∧ d.length < 1099511627776) (ha : ∀ x ∈ a, x.length < 1099511627776) (hb : ∀ x ∈ b, x.length < 1099511627776) (hc : ∀ x ∈ c, x.length < 1099511627776) (hd : ∀ x ∈ d, x.length < 1099511627776) (hx : x.length < 1099511627776) (q1 q2 q3 q4 : Fl) (hh : Heap) : Ci cfg (.func (.func 7) [] []) [R  q1 eS a, R  q2 eS b, R  q3 eS c, R  q4 eS d, .str x] hh = some (.ret (.bool true), hh) :=
  Ci_K cfg rfl rfl (by simp) (by simp) (C7 a b c d x hs ha hb hc hd hx)
end Go.Ab
