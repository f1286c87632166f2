
import Derived.Test.YtlmhbemgaikmaaaGreatDoorRows
import Derived.Shelf.Strings.OnBuilder
import Derived.Test.YtlmhbemgaikmaaaGreatDoorAbsC
import Derived.Test.YtlmhbemgaikmaaaGreatDoorAbsD
set_option linter.unusedVariables false
set_option linter.unusedSimpArgs false
set_option linter.unusedSectionVars false
set_option linter.deprecated false
namespace Go.Proofs
open Go.Shelf Go.RowKit Go.Lib
set_option maxRecDepth 1000000
def ren156 : Ren where
 f := fun x => match x with
  | 156 => 12
  | 165 => 37
  | 166 => 38
  | 169 => 39
  | 240 => 63
  | 241 => 64
  | 276 => 88
  | 277 => 89
  | n => n
 t := fun x => match x with
  | 31 => 32
  | 9 => 9
  | 3 => 3
  | 4 => 4
  | 0 => 0
  | 20 => 20
  | 72 => 90
  | 76 => 94
  | 70 => 88
  | 37 => 35
  | 75 => 93
  | 127 => 130
  | 164 => 161
  | 5 => 5
  | 80 => 96
  | n => n
 g := fun x => x
theorem lays156 : Lays.n156 Tryz.prog ren156 :=
 { mixed := Eq.refl true, f156 := Eq.trans Tryz.func12 (congrArg some (Eq.refl (Body.n156 ren156))), f165 := Eq.trans Tryz.func37 (congrArg some (Eq.refl (Body.n165 ren156))), f166 := Eq.trans Tryz.func38 (congrArg some (Eq.refl (Body.n166 ren156))), f169 := Eq.trans Tryz.func39 (congrArg some (Eq.refl (Body.n169 ren156))), f240 := Eq.trans Tryz.func63 (congrArg some (Eq.refl (Body.n240 ren156))), f241 := Eq.trans Tryz.func64 (congrArg some (Eq.refl (Body.n241 ren156))), f276 := Eq.trans Tryz.func88 (congrArg some (Eq.refl (Body.n276 ren156))), f277 := Eq.trans Tryz.func89 (congrArg some (Eq.refl (Body.n277 ren156))), t0 := Tryz.underlying0, a0 := Tryz.isAgg0, z0 := Tryz.sizeOf0, v0 := Tryz.zeroValue0, t3 := Tryz.underlying3, a3 := Tryz.isAgg3, z3 := Tryz.sizeOf3, v3 := Tryz.zeroValue3, t4 := Tryz.underlying4, a4 := Tryz.isAgg4, z4 := Tryz.sizeOf4, v4 := Tryz.zeroValue4, t9 := Tryz.underlying9, a9 := Tryz.isAgg9, z9 := Tryz.sizeOf9, v9 := Tryz.zeroValue9, t20 := Tryz.underlying20, a20 := Tryz.isAgg20, z20 := Tryz.sizeOf20, v20 := Tryz.zeroValue20, t31 := Tryz.underlying32, a31 := Tryz.isAgg32, z31 := Tryz.sizeOf32, v31 := Tryz.zeroValue32, t37 := Tryz.underlying35, a37 := Tryz.isAgg35, z37 := Tryz.sizeOf35, v37 := Tryz.zeroValue35, t70 := Tryz.underlying88, a70 := Tryz.isAgg88, z70 := Tryz.sizeOf88, v70 := Tryz.zeroValue88, t72 := Tryz.underlying90, a72 := Tryz.isAgg90, z72 := Tryz.sizeOf90, v72 := Tryz.zeroValue90, t75 := Tryz.underlying93, a75 := Tryz.isAgg93, z75 := Tryz.sizeOf93, v75 := Tryz.zeroValue93, t76 := Tryz.underlying94, a76 := Tryz.isAgg94, z76 := Tryz.sizeOf94, v76 := Tryz.zeroValue94, t127 := Tryz.underlying130, a127 := Tryz.isAgg130, z127 := Tryz.sizeOf130, v127 := Tryz.zeroValue130, t164 := Tryz.underlying161, a164 := Tryz.isAgg161, z164 := Tryz.sizeOf161, v164 := Tryz.zeroValue161 }
theorem extra156 : Builder.Extra Tryz.prog ren156 where
 sizeBuilder := by kernel_rfl
 liesBuilder := by kernel_rfl
 t5 := Tryz.underlying5
 a5 := Tryz.isAgg5
 z5 := Tryz.sizeOf5
 v5 := Tryz.zeroValue5
 infoByte := by kernel_rfl
 cellsByte := by kernel_rfl
 sizeByte := by kernel_rfl
 neB5 := by decide
end Go.Proofs
namespace Go.Ab
open Go.Proofs Go.RowKit
theorem inv_empty {g : Gh} {n0 : Nat} {w w' : World} (h : Inv g n0 emptyH w) (hb : Below w.heap.size w w') : Inv g n0 emptyH w' := by
 have hs := hb.size
 refine ⟨by have := h.base; omega, fun B o v hg => ?_, fun a b hab => by simp [emptyH] at hab, h.new, fun k sz hk => by simp [emptyH] at hk, h.newt, fun B hB => h.fresh B (by omega)⟩
 rw [hb.cell (h.lt hg)]; exact h.agree B o v hg
def joinB (l : List (List UInt8)) (sep : List UInt8) : List UInt8 := Lib.join l sep
def strsOf : List V → Option (List (List UInt8))
 | [] => some []
 | .str s :: r => (strsOf r).map (s :: ·)
 | _ => none
theorem strsOf_rows : ∀ l : List (List UInt8), strsOf (rows eS l) = some l
 | [] => rfl
 | s :: l => by show (strsOf (rows eS l)).map (s :: ·) = _; rw [strsOf_rows l]; rfl
theorem strsOf_eq : ∀ {cs : List V} {l : List (List UInt8)}, strsOf cs = some l → cs = rows eS l
 | [], l, h => by simp only [strsOf, Option.some.injEq] at h; subst h; rfl
 | .str s :: r, l, h => by
  simp only [strsOf, Option.map_eq_some_iff] at h
  obtain ⟨l', h1, rfl⟩ := h
  rw [strsOf_eq h1]; rfl
 | .undef :: _, _, h => by cases h
 | .bool _ :: _, _, h => by cases h
 | .int _ _ :: _, _, h => by cases h
 | .row _ _ _ _ _ :: _, _, h => by cases h
 | .rptr _ :: _, _, h => by cases h
 | .ptr _ _ :: _, _, h => by cases h
 | .nilptr :: _, _, h => by cases h
 | .slice _ _ _ _ :: _, _, h => by cases h
 | .map _ :: _, _, h => by cases h
 | .nilmap :: _, _, h => by cases h
 | .func _ _ _ :: _, _, h => by cases h
 | .nilfunc :: _, _, h => by cases h
 | .yld _ :: _, _, h => by cases h
 | .iface _ _ :: _, _, h => by cases h
 | .niliface :: _, _, h => by cases h
 | .agg _ :: _, _, h => by cases h
 | .tuple _ :: _, _, h => by cases h
def joinR : List V → Option CRes
 | [.row false false cs n none, .str sep] => match strsOf cs with
  | some l => if n = l.length ∧ l ≠ [] ∧ n ≤ 1000000 ∧ (joinB l sep).length ≤ 1000000 then some (.ret (.str (joinB l sep))) else none
  | none => none
 | _ => none
theorem repC_at {g : Gh} : ∀ {l : List (List UInt8)} {B o : Nat}, RepC g (rows eS l) B o → ∀ (j : Nat) (s : List UInt8), l[j]? = some s → g.G B (o + j) = some (.string ⟨s.toArray⟩)
 | [], _, _, _, _, _, h => by cases h
 | x :: l, B, o, hr, j, s, hj => by
  simp only [rows_cons, eS, List.cons_append, List.nil_append, RepC] at hr
  obtain ⟨⟨v, h1, h2, _⟩, h3⟩ := hr
  cases j with
  | zero => simp at hj; subst hj; simp only [Rep] at h2; subst h2; exact h1
  | succ j => have := repC_at h3 j s (by simpa using hj); rwa [show o + (j + 1) = o + 1 + j by omega]
theorem psim_join (glob : Nat → Option (List V)) {xs : List V} {r : CRes} (h : joinR xs = some r) : PSim Tryz.prog glob 12 xs r := by
 unfold joinR at h
 split at h
 ·rename_i cs n sep
  split at h
  ·rename_i l hl
   split at h
   ·rename_i hc
    obtain ⟨h1, h2, h3, h4⟩ := hc
    simp only [Option.some.injEq] at h
    subst h
    have hcs := strsOf_eq hl
    subst hcs
    intro g n0 w vs hI hG ra
    simp only [RepL, Rep] at ra
    obtain ⟨y, ys, e1, ⟨a, cap, rfl, a1, _, _, _, a5, a6⟩, z, zs, e2, rfl, rfl⟩ := ra
    subst e2
    have hv : vs = #[.slice a n cap, .string ⟨sep.toArray⟩] := Array.ext' e1
    subst hv
    cases a with
    | none =>
     exfalso
     cases l with
     | nil => exact h2 rfl
     | cons x l => have := (a5 rfl).1; simp [eS] at this
    | some A =>
     obtain ⟨b1, b2, _⟩ := a6 A rfl
     have hsp : A.spot = none := b1 (by cases l with
      | nil => exact absurd rfl h2
      | cons x l => simp [eS])
     obtain ⟨B, o, sp⟩ := A
     simp only at hsp b2
     subst hsp
     have hat := repC_at b2
     refine ⟨enters_of Tryz.func12 (by kernel_rfl) rfl _ _, fun cs => ?_⟩
     obtain ⟨x, hx⟩ : ∃ x, l[0]? = some x := by cases l with
      | nil => exact absurd rfl h2
      | cons x l => exact ⟨x, rfl⟩
     have hmm : (l.map fun s => (⟨s.toArray⟩ : ByteArray)).map (·.data.toList) = l := by simp [Function.comp_def]
     have hC := Any.strings_Join lays156 extra156 B o cap (l.map fun s => (⟨s.toArray⟩ : ByteArray)) ⟨sep.toArray⟩ w (fun j x hj => by
       simp only [List.getElem?_map, Option.map_eq_some_iff] at hj
       obtain ⟨s, hs, rfl⟩ := hj
       exact hI.agree _ _ _ (hat j s hs)) (hI.lt (hat 0 x hx)) (by simp; omega) (by simp; omega) (by rw [hmm]; exact Nat.le_trans h4 (by decide))
     rw [hmm, List.length_map, ← h1] at hC
     obtain ⟨e, w', fr, ⟨rfl, hbel⟩, hco, hfn, hlv⟩ := hC cs
     exact ⟨g, w', fr, ⟨.refl _, fun _ _ _ => rfl, hbel.mono hI.base⟩, inv_empty hI hbel, hco, hfn, ⟨.string ⟨(joinB l sep).toArray⟩, by simp [Rep], hlv⟩⟩
   ·cases h
  ·cases h
 ·cases h
end Go.Ab
