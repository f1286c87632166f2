/- The seat's base: how her program is run, and facts of her types. -/
import Derived.Test.YtfgkjpfdpcjciaaDoorAbsD
import Derived.Test.YtfgkjpfdpcjciaaDoorAbsC
import Derived.Test.YtfgkjpfdpcjciaaDoorRows
import Derived.Test.YtfgkjpfdpcjciaaDoorX32
set_option linter.unusedVariables false
set_option linter.unusedSimpArgs false
set_option linter.unusedSectionVars false
set_option linter.deprecated false
namespace Go.Ab
open Go.Proofs
set_option maxRecDepth 100000
def pureL : List Nat := [3, 4, 5, 6, 7, 8, 9, 10, 11, 12, 13, 14, 15, 17, 18, 19, 20, 22, 23, 24, 25, 26, 27, 30, 37, 38, 41, 43, 45, 46, 51, 52, 54, 55, 58, 61, 62, 63, 64, 69, 70, 78, 79, 80, 83, 87]
noncomputable def globs : Nat → Option (List V) := fun g => if g = 1 then some (dV Go.Pinned.utf8First) else if g = 2 then some (dV (H := Unit) Go.Proofs.YtfgkjpfdpcjciaaDoor.Rows.laid_unicode_utf8_acceptRanges) else none
noncomputable def cfg0 : Cfg where
  P := Tryd.prog
  pure := fun f => pureL.contains f
  ext := ext0
  kill := false
  glob := globs
  blk := fun p => ["law.go:31"].contains p
  mrow := fun p => ["law.go:37"].contains p
def extN (f : FuncId) (xs : List V) : Option CRes := if [].contains f then (match xs with
  | [.row false false [] 0 none] => some (.ret (.row false false [] 0 none))
  | _ => none) else none
def extE (f : FuncId) (xs : List V) : Option CRes := if f = 30 then (match xs with
  | [.str [b], .str [46, 63, 33]] => some (.ret (.bool (markB b)))
  | _ => none) else extN f xs
noncomputable def cfg : Cfg := { cfg0 with ext := extE }
@[simp] theorem cfgP : cfg.P = Tryd.prog := rfl
@[simp] theorem cfgG : cfg.glob = globs := rfl
theorem cfgp (f : FuncId) : cfg.pure f = pureL.contains f := rfl
@[simp] theorem cfgK : cfg.kill = false := rfl
@[simp] theorem cfgB (p : String) : cfg.blk p = ["law.go:31"].contains p := rfl
@[simp] theorem cfgM (p : String) : cfg.mrow p = ["law.go:37"].contains p := rfl
theorem hP : PrOk Tryd.prog := prOk_of (by kernel_rfl) (by kernel_rfl)
/-- what is said of a function -/
abbrev PS (f : FuncId) (xs : List V) (r : CRes) : Prop := PSim Tryd.prog globs f xs r
theorem hX : ExtOk cfg := by
  intro f xs r h
  change extE f xs = some r at h
  unfold extE at h
  split at h
  · rename_i hf
    split at h
    · simp only [Option.some.injEq] at h
      subst h
      subst hf
      exact psim_ca _ _
    · cases h
  rename_i hca
  clear hca
  unfold extN at h
  split at h
  · rename_i hf
    split at h
    · simp only [Option.some.injEq] at h
      subst h
      simp at hf
    · cases h
  · cases h
theorem ps_of {f : FuncId} {xs : List V} {r : CRes} (h : Kc cfg f xs r) : PS f xs r := psim_of_inf (c := cfg) hP hX h
/-- by the kernel alone -/
theorem kc_run {f : FuncId} {xs : List V} {r : CRes} {n : Nat} (h : outS (bodyS cfg (run cfg n).E (run cfg n).D f xs emptyH) = some r) : Kc cfg f xs r := by
  unfold Kc
  cases hb : bodyS cfg (run cfg n).E (run cfg n).D f xs emptyH with
  | none => rw [hb] at h; cases h
  | some y =>
    have hD : DAp (fun _ => Di cfg) (run cfg n).D := fun f a h p r hd => ⟨0, fun _ _ => Di_some.2 ⟨n, hd⟩⟩
    obtain ⟨N, hN⟩ := bodyS_ap (Ei_up cfg n) hD hb
    rw [hN N (Nat.le_refl _), ← hb]
    exact h
@[simp] theorem dn_loop_exit' {s : St} {b : Code} {K : List Fr} {Q : Ax → St → Prop} (i : Nat) : dn cfg (.exit i) s (.loop b :: K) Q = dn cfg (.exit i) s K Q := dn_loop_exit cfg rfl i
@[simp] theorem dn_loop_ret' {s : St} {b : Code} {K : List Fr} {Q : Ax → St → Prop} : dn cfg .ret s (.loop b :: K) Q = dn cfg .ret s K Q := dn_loop_ret cfg rfl
@[simp] theorem dn_loop_panic' {s : St} {b : Code} {K : List Fr} {Q : Ax → St → Prop} (v : V) : dn cfg (.panic v) s (.loop b :: K) Q = dn cfg (.panic v) s K Q := dn_loop_panic cfg rfl v
@[simp] theorem sz0 : szO Tryd.prog 0 = some 1 := by kernel_rfl
@[simp] theorem ag0 : isAggO Tryd.prog 0 = some false := by kernel_rfl
@[simp] theorem by0 : bytesO Tryd.prog 0 = some 0 := by kernel_rfl
@[simp] theorem sz1 : szO Tryd.prog 1 = some 1 := by kernel_rfl
@[simp] theorem ag1 : isAggO Tryd.prog 1 = some false := by kernel_rfl
@[simp] theorem zc1 : zeroCs Tryd.prog 1 = some [V.nilfunc] := by kernel_rfl
@[simp] theorem zv1 : zeroV Tryd.prog 1 = some V.nilfunc := by kernel_rfl
@[simp] theorem by1 : bytesO Tryd.prog 1 = some 8 := by kernel_rfl
@[simp] theorem sz2 : szO Tryd.prog 2 = some 1 := by kernel_rfl
@[simp] theorem ag2 : isAggO Tryd.prog 2 = some false := by kernel_rfl
@[simp] theorem zc2 : zeroCs Tryd.prog 2 = some [V.int IntKind.i64 (0)] := by kernel_rfl
@[simp] theorem zv2 : zeroV Tryd.prog 2 = some (V.int IntKind.i64 (0)) := by kernel_rfl
@[simp] theorem by2 : bytesO Tryd.prog 2 = some 8 := by kernel_rfl
@[simp] theorem sz3 : szO Tryd.prog 3 = some 1 := by kernel_rfl
@[simp] theorem ag3 : isAggO Tryd.prog 3 = some false := by kernel_rfl
@[simp] theorem zc3 : zeroCs Tryd.prog 3 = some [V.int IntKind.i64 (0)] := by kernel_rfl
@[simp] theorem zv3 : zeroV Tryd.prog 3 = some (V.int IntKind.i64 (0)) := by kernel_rfl
@[simp] theorem by3 : bytesO Tryd.prog 3 = some 8 := by kernel_rfl
@[simp] theorem sz4 : szO Tryd.prog 4 = some 1 := by kernel_rfl
@[simp] theorem ag4 : isAggO Tryd.prog 4 = some false := by kernel_rfl
@[simp] theorem zc4 : zeroCs Tryd.prog 4 = some [V.bool false] := by kernel_rfl
@[simp] theorem zv4 : zeroV Tryd.prog 4 = some (V.bool false) := by kernel_rfl
@[simp] theorem by4 : bytesO Tryd.prog 4 = some 1 := by kernel_rfl
@[simp] theorem sz5 : szO Tryd.prog 5 = some 1 := by kernel_rfl
@[simp] theorem ag5 : isAggO Tryd.prog 5 = some false := by kernel_rfl
@[simp] theorem zc5 : zeroCs Tryd.prog 5 = some [V.int IntKind.u8 (0)] := by kernel_rfl
@[simp] theorem zv5 : zeroV Tryd.prog 5 = some (V.int IntKind.u8 (0)) := by kernel_rfl
@[simp] theorem by5 : bytesO Tryd.prog 5 = some 1 := by kernel_rfl
@[simp] theorem sz6 : szO Tryd.prog 6 = some 1 := by kernel_rfl
@[simp] theorem ag6 : isAggO Tryd.prog 6 = some false := by kernel_rfl
@[simp] theorem zc6 : zeroCs Tryd.prog 6 = some [V.int IntKind.u8 (0)] := by kernel_rfl
@[simp] theorem zv6 : zeroV Tryd.prog 6 = some (V.int IntKind.u8 (0)) := by kernel_rfl
@[simp] theorem by6 : bytesO Tryd.prog 6 = some 1 := by kernel_rfl
@[simp] theorem sz7 : szO Tryd.prog 7 = some 4 := by kernel_rfl
@[simp] theorem ag7 : isAggO Tryd.prog 7 = some true := by kernel_rfl
@[simp] theorem zc7 : zeroCs Tryd.prog 7 = some [V.int IntKind.i64 (0), V.int IntKind.i64 (0), V.bool false, V.int IntKind.u8 (0)] := by kernel_rfl
@[simp] theorem pl7 : placesO Tryd.prog 7 = some [(0, 1), (1, 1), (2, 1), (3, 1)] := by kernel_rfl
@[simp] theorem zv7 : zeroV Tryd.prog 7 = some (V.agg [V.int IntKind.i64 (0), V.int IntKind.i64 (0), V.bool false, V.int IntKind.u8 (0)]) := by kernel_rfl
@[simp] theorem by7 : bytesO Tryd.prog 7 = some 24 := by kernel_rfl
@[simp] theorem fo7_0 : fieldO Tryd.prog 7 0 = some (0, 2, 1) := by kernel_rfl
@[simp] theorem fo7_1 : fieldO Tryd.prog 7 1 = some (1, 3, 1) := by kernel_rfl
@[simp] theorem fo7_2 : fieldO Tryd.prog 7 2 = some (2, 4, 1) := by kernel_rfl
@[simp] theorem fo7_3 : fieldO Tryd.prog 7 3 = some (3, 6, 1) := by kernel_rfl
@[simp] theorem sz8 : szO Tryd.prog 8 = some 4 := by kernel_rfl
@[simp] theorem ag8 : isAggO Tryd.prog 8 = some true := by kernel_rfl
@[simp] theorem zc8 : zeroCs Tryd.prog 8 = some [V.int IntKind.i64 (0), V.int IntKind.i64 (0), V.bool false, V.int IntKind.u8 (0)] := by kernel_rfl
@[simp] theorem pl8 : placesO Tryd.prog 8 = some [(0, 1), (1, 1), (2, 1), (3, 1)] := by kernel_rfl
@[simp] theorem zv8 : zeroV Tryd.prog 8 = some (V.agg [V.int IntKind.i64 (0), V.int IntKind.i64 (0), V.bool false, V.int IntKind.u8 (0)]) := by kernel_rfl
@[simp] theorem by8 : bytesO Tryd.prog 8 = some 24 := by kernel_rfl
@[simp] theorem fo8_0 : fieldO Tryd.prog 8 0 = some (0, 2, 1) := by kernel_rfl
@[simp] theorem fo8_1 : fieldO Tryd.prog 8 1 = some (1, 3, 1) := by kernel_rfl
@[simp] theorem fo8_2 : fieldO Tryd.prog 8 2 = some (2, 4, 1) := by kernel_rfl
@[simp] theorem fo8_3 : fieldO Tryd.prog 8 3 = some (3, 6, 1) := by kernel_rfl
@[simp] theorem sz9 : szO Tryd.prog 9 = some 1 := by kernel_rfl
@[simp] theorem ag9 : isAggO Tryd.prog 9 = some false := by kernel_rfl
@[simp] theorem zc9 : zeroCs Tryd.prog 9 = some [V.str []] := by kernel_rfl
@[simp] theorem zv9 : zeroV Tryd.prog 9 = some (V.str []) := by kernel_rfl
@[simp] theorem by9 : bytesO Tryd.prog 9 = some 16 := by kernel_rfl
@[simp] theorem sz10 : szO Tryd.prog 10 = some 1 := by kernel_rfl
@[simp] theorem ag10 : isAggO Tryd.prog 10 = some false := by kernel_rfl
@[simp] theorem zc10 : zeroCs Tryd.prog 10 = some [V.str []] := by kernel_rfl
@[simp] theorem zv10 : zeroV Tryd.prog 10 = some (V.str []) := by kernel_rfl
@[simp] theorem by10 : bytesO Tryd.prog 10 = some 16 := by kernel_rfl
@[simp] theorem sz11 : szO Tryd.prog 11 = some 1 := by kernel_rfl
@[simp] theorem ag11 : isAggO Tryd.prog 11 = some false := by kernel_rfl
@[simp] theorem zc11 : zeroCs Tryd.prog 11 = some [V.str []] := by kernel_rfl
@[simp] theorem zv11 : zeroV Tryd.prog 11 = some (V.str []) := by kernel_rfl
@[simp] theorem by11 : bytesO Tryd.prog 11 = some 16 := by kernel_rfl
@[simp] theorem sz12 : szO Tryd.prog 12 = some 1 := by kernel_rfl
@[simp] theorem ag12 : isAggO Tryd.prog 12 = some false := by kernel_rfl
@[simp] theorem zc12 : zeroCs Tryd.prog 12 = some [V.int IntKind.u64 (0)] := by kernel_rfl
@[simp] theorem zv12 : zeroV Tryd.prog 12 = some (V.int IntKind.u64 (0)) := by kernel_rfl
@[simp] theorem by12 : bytesO Tryd.prog 12 = some 8 := by kernel_rfl
@[simp] theorem sz13 : szO Tryd.prog 13 = some 2 := by kernel_rfl
@[simp] theorem ag13 : isAggO Tryd.prog 13 = some true := by kernel_rfl
@[simp] theorem zc13 : zeroCs Tryd.prog 13 = some [V.str [], V.int IntKind.u64 (0)] := by kernel_rfl
@[simp] theorem pl13 : placesO Tryd.prog 13 = some [(0, 1), (1, 1)] := by kernel_rfl
@[simp] theorem zv13 : zeroV Tryd.prog 13 = some (V.agg [V.str [], V.int IntKind.u64 (0)]) := by kernel_rfl
@[simp] theorem by13 : bytesO Tryd.prog 13 = some 24 := by kernel_rfl
@[simp] theorem fo13_0 : fieldO Tryd.prog 13 0 = some (0, 9, 1) := by kernel_rfl
@[simp] theorem fo13_1 : fieldO Tryd.prog 13 1 = some (1, 12, 1) := by kernel_rfl
@[simp] theorem sz14 : szO Tryd.prog 14 = some 2 := by kernel_rfl
@[simp] theorem ag14 : isAggO Tryd.prog 14 = some true := by kernel_rfl
@[simp] theorem zc14 : zeroCs Tryd.prog 14 = some [V.str [], V.int IntKind.u64 (0)] := by kernel_rfl
@[simp] theorem pl14 : placesO Tryd.prog 14 = some [(0, 1), (1, 1)] := by kernel_rfl
@[simp] theorem zv14 : zeroV Tryd.prog 14 = some (V.agg [V.str [], V.int IntKind.u64 (0)]) := by kernel_rfl
@[simp] theorem by14 : bytesO Tryd.prog 14 = some 24 := by kernel_rfl
@[simp] theorem fo14_0 : fieldO Tryd.prog 14 0 = some (0, 9, 1) := by kernel_rfl
@[simp] theorem fo14_1 : fieldO Tryd.prog 14 1 = some (1, 12, 1) := by kernel_rfl
@[simp] theorem sz15 : szO Tryd.prog 15 = some 1 := by kernel_rfl
@[simp] theorem ag15 : isAggO Tryd.prog 15 = some false := by kernel_rfl
@[simp] theorem zc15 : zeroCs Tryd.prog 15 = some [V.nilptr] := by kernel_rfl
@[simp] theorem zv15 : zeroV Tryd.prog 15 = some V.nilptr := by kernel_rfl
@[simp] theorem by15 : bytesO Tryd.prog 15 = some 8 := by kernel_rfl
@[simp] theorem sz16 : szO Tryd.prog 16 = some 1 := by kernel_rfl
@[simp] theorem ag16 : isAggO Tryd.prog 16 = some false := by kernel_rfl
@[simp] theorem zc16 : zeroCs Tryd.prog 16 = some [V.nilptr] := by kernel_rfl
@[simp] theorem zv16 : zeroV Tryd.prog 16 = some V.nilptr := by kernel_rfl
@[simp] theorem by16 : bytesO Tryd.prog 16 = some 8 := by kernel_rfl
@[simp] theorem sz17 : szO Tryd.prog 17 = some 1 := by kernel_rfl
@[simp] theorem ag17 : isAggO Tryd.prog 17 = some false := by kernel_rfl
@[simp] theorem zc17 : zeroCs Tryd.prog 17 = some [V.nilptr] := by kernel_rfl
@[simp] theorem zv17 : zeroV Tryd.prog 17 = some V.nilptr := by kernel_rfl
@[simp] theorem by17 : bytesO Tryd.prog 17 = some 8 := by kernel_rfl
@[simp] theorem sz18 : szO Tryd.prog 18 = some 1 := by kernel_rfl
@[simp] theorem ag18 : isAggO Tryd.prog 18 = some true := by kernel_rfl
@[simp] theorem zc18 : zeroCs Tryd.prog 18 = some [V.nilptr] := by kernel_rfl
@[simp] theorem pl18 : placesO Tryd.prog 18 = some [(0, 1)] := by kernel_rfl
@[simp] theorem zv18 : zeroV Tryd.prog 18 = some (V.agg [V.nilptr]) := by kernel_rfl
@[simp] theorem by18 : bytesO Tryd.prog 18 = some 8 := by kernel_rfl
@[simp] theorem fo18_0 : fieldO Tryd.prog 18 0 = some (0, 17, 1) := by kernel_rfl
@[simp] theorem sz19 : szO Tryd.prog 19 = some 1 := by kernel_rfl
@[simp] theorem ag19 : isAggO Tryd.prog 19 = some true := by kernel_rfl
@[simp] theorem zc19 : zeroCs Tryd.prog 19 = some [V.nilptr] := by kernel_rfl
@[simp] theorem pl19 : placesO Tryd.prog 19 = some [(0, 1)] := by kernel_rfl
@[simp] theorem zv19 : zeroV Tryd.prog 19 = some (V.agg [V.nilptr]) := by kernel_rfl
@[simp] theorem by19 : bytesO Tryd.prog 19 = some 8 := by kernel_rfl
@[simp] theorem fo19_0 : fieldO Tryd.prog 19 0 = some (0, 17, 1) := by kernel_rfl
@[simp] theorem sz20 : szO Tryd.prog 20 = some 1 := by kernel_rfl
@[simp] theorem ag20 : isAggO Tryd.prog 20 = some false := by kernel_rfl
@[simp] theorem zc20 : zeroCs Tryd.prog 20 = some [V.niliface] := by kernel_rfl
@[simp] theorem zv20 : zeroV Tryd.prog 20 = some V.niliface := by kernel_rfl
@[simp] theorem by20 : bytesO Tryd.prog 20 = some 16 := by kernel_rfl
@[simp] theorem sz21 : szO Tryd.prog 21 = some 1 := by kernel_rfl
@[simp] theorem ag21 : isAggO Tryd.prog 21 = some false := by kernel_rfl
@[simp] theorem zc21 : zeroCs Tryd.prog 21 = some [V.int IntKind.i32 (0)] := by kernel_rfl
@[simp] theorem zv21 : zeroV Tryd.prog 21 = some (V.int IntKind.i32 (0)) := by kernel_rfl
@[simp] theorem by21 : bytesO Tryd.prog 21 = some 4 := by kernel_rfl
@[simp] theorem sz22 : szO Tryd.prog 22 = some 1 := by kernel_rfl
@[simp] theorem ag22 : isAggO Tryd.prog 22 = some false := by kernel_rfl
@[simp] theorem zc22 : zeroCs Tryd.prog 22 = some [V.row true true [] 0 none] := by kernel_rfl
@[simp] theorem es22 : esz Tryd.prog 22 = some 5 := by kernel_rfl
@[simp] theorem el22 : elemOfSlice Tryd.prog 22 = some 36 := by kernel_rfl
@[simp] theorem zv22 : zeroV Tryd.prog 22 = some (V.row true true [] 0 none) := by kernel_rfl
@[simp] theorem by22 : bytesO Tryd.prog 22 = some 24 := by kernel_rfl
@[simp] theorem mz22 : mkz Tryd.prog 22 = some (5, 64, [V.str [], V.int IntKind.i64 (0), V.int IntKind.i64 (0), V.int IntKind.i64 (0), V.row true true [] 0 none]) := by kernel_rfl
@[simp] theorem sz23 : szO Tryd.prog 23 = some 1 := by kernel_rfl
@[simp] theorem ag23 : isAggO Tryd.prog 23 = some false := by kernel_rfl
@[simp] theorem zc23 : zeroCs Tryd.prog 23 = some [V.nilfunc] := by kernel_rfl
@[simp] theorem zv23 : zeroV Tryd.prog 23 = some V.nilfunc := by kernel_rfl
@[simp] theorem by23 : bytesO Tryd.prog 23 = some 8 := by kernel_rfl
@[simp] theorem sz24 : szO Tryd.prog 24 = some 1 := by kernel_rfl
@[simp] theorem ag24 : isAggO Tryd.prog 24 = some false := by kernel_rfl
@[simp] theorem zc24 : zeroCs Tryd.prog 24 = some [V.nilfunc] := by kernel_rfl
@[simp] theorem zv24 : zeroV Tryd.prog 24 = some V.nilfunc := by kernel_rfl
@[simp] theorem by24 : bytesO Tryd.prog 24 = some 8 := by kernel_rfl
@[simp] theorem sz25 : szO Tryd.prog 25 = some 1 := by kernel_rfl
@[simp] theorem ag25 : isAggO Tryd.prog 25 = some false := by kernel_rfl
@[simp] theorem zc25 : zeroCs Tryd.prog 25 = some [V.row true true [] 0 none] := by kernel_rfl
@[simp] theorem es25 : esz Tryd.prog 25 = some 1 := by kernel_rfl
@[simp] theorem el25 : elemOfSlice Tryd.prog 25 = some 3 := by kernel_rfl
@[simp] theorem zv25 : zeroV Tryd.prog 25 = some (V.row true true [] 0 none) := by kernel_rfl
@[simp] theorem by25 : bytesO Tryd.prog 25 = some 24 := by kernel_rfl
@[simp] theorem mz25 : mkz Tryd.prog 25 = some (1, 8, [V.int IntKind.i64 (0)]) := by kernel_rfl
@[simp] theorem sz26 : szO Tryd.prog 26 = some 1 := by kernel_rfl
@[simp] theorem ag26 : isAggO Tryd.prog 26 = some false := by kernel_rfl
@[simp] theorem zc26 : zeroCs Tryd.prog 26 = some [V.int IntKind.i64 (0)] := by kernel_rfl
@[simp] theorem zv26 : zeroV Tryd.prog 26 = some (V.int IntKind.i64 (0)) := by kernel_rfl
@[simp] theorem by26 : bytesO Tryd.prog 26 = some 8 := by kernel_rfl
@[simp] theorem sz27 : szO Tryd.prog 27 = some 1 := by kernel_rfl
@[simp] theorem ag27 : isAggO Tryd.prog 27 = some false := by kernel_rfl
@[simp] theorem by27 : bytesO Tryd.prog 27 = some 0 := by kernel_rfl
@[simp] theorem sz28 : szO Tryd.prog 28 = some 1 := by kernel_rfl
@[simp] theorem ag28 : isAggO Tryd.prog 28 = some false := by kernel_rfl
@[simp] theorem zc28 : zeroCs Tryd.prog 28 = some [V.nilfunc] := by kernel_rfl
@[simp] theorem zv28 : zeroV Tryd.prog 28 = some V.nilfunc := by kernel_rfl
@[simp] theorem by28 : bytesO Tryd.prog 28 = some 8 := by kernel_rfl
@[simp] theorem sz29 : szO Tryd.prog 29 = some 1 := by kernel_rfl
@[simp] theorem ag29 : isAggO Tryd.prog 29 = some false := by kernel_rfl
@[simp] theorem by29 : bytesO Tryd.prog 29 = some 0 := by kernel_rfl
@[simp] theorem sz30 : szO Tryd.prog 30 = some 1 := by kernel_rfl
@[simp] theorem ag30 : isAggO Tryd.prog 30 = some false := by kernel_rfl
@[simp] theorem zc30 : zeroCs Tryd.prog 30 = some [V.nilfunc] := by kernel_rfl
@[simp] theorem zv30 : zeroV Tryd.prog 30 = some V.nilfunc := by kernel_rfl
@[simp] theorem by30 : bytesO Tryd.prog 30 = some 8 := by kernel_rfl
@[simp] theorem sz31 : szO Tryd.prog 31 = some 1 := by kernel_rfl
@[simp] theorem ag31 : isAggO Tryd.prog 31 = some false := by kernel_rfl
@[simp] theorem zc31 : zeroCs Tryd.prog 31 = some [V.nilfunc] := by kernel_rfl
@[simp] theorem zv31 : zeroV Tryd.prog 31 = some V.nilfunc := by kernel_rfl
@[simp] theorem by31 : bytesO Tryd.prog 31 = some 8 := by kernel_rfl
@[simp] theorem sz32 : szO Tryd.prog 32 = some 1 := by kernel_rfl
@[simp] theorem ag32 : isAggO Tryd.prog 32 = some false := by kernel_rfl
@[simp] theorem zc32 : zeroCs Tryd.prog 32 = some [V.nilfunc] := by kernel_rfl
@[simp] theorem zv32 : zeroV Tryd.prog 32 = some V.nilfunc := by kernel_rfl
@[simp] theorem by32 : bytesO Tryd.prog 32 = some 8 := by kernel_rfl
@[simp] theorem sz33 : szO Tryd.prog 33 = some 1 := by kernel_rfl
@[simp] theorem ag33 : isAggO Tryd.prog 33 = some false := by kernel_rfl
@[simp] theorem zc33 : zeroCs Tryd.prog 33 = some [V.nilfunc] := by kernel_rfl
@[simp] theorem zv33 : zeroV Tryd.prog 33 = some V.nilfunc := by kernel_rfl
@[simp] theorem by33 : bytesO Tryd.prog 33 = some 8 := by kernel_rfl
@[simp] theorem sz34 : szO Tryd.prog 34 = some 1 := by kernel_rfl
@[simp] theorem ag34 : isAggO Tryd.prog 34 = some false := by kernel_rfl
@[simp] theorem zc34 : zeroCs Tryd.prog 34 = some [V.row true true [] 0 none] := by kernel_rfl
@[simp] theorem es34 : esz Tryd.prog 34 = some 1 := by kernel_rfl
@[simp] theorem el34 : elemOfSlice Tryd.prog 34 = some 9 := by kernel_rfl
@[simp] theorem zv34 : zeroV Tryd.prog 34 = some (V.row true true [] 0 none) := by kernel_rfl
@[simp] theorem by34 : bytesO Tryd.prog 34 = some 24 := by kernel_rfl
@[simp] theorem mz34 : mkz Tryd.prog 34 = some (1, 16, [V.str []]) := by kernel_rfl
@[simp] theorem sz35 : szO Tryd.prog 35 = some 5 := by kernel_rfl
@[simp] theorem ag35 : isAggO Tryd.prog 35 = some true := by kernel_rfl
@[simp] theorem zc35 : zeroCs Tryd.prog 35 = some [V.str [], V.int IntKind.i64 (0), V.int IntKind.i64 (0), V.int IntKind.i64 (0), V.row true true [] 0 none] := by kernel_rfl
@[simp] theorem pl35 : placesO Tryd.prog 35 = some [(0, 1), (1, 1), (2, 1), (3, 1), (4, 1)] := by kernel_rfl
@[simp] theorem zv35 : zeroV Tryd.prog 35 = some (V.agg [V.str [], V.int IntKind.i64 (0), V.int IntKind.i64 (0), V.int IntKind.i64 (0), V.row true true [] 0 none]) := by kernel_rfl
@[simp] theorem by35 : bytesO Tryd.prog 35 = some 64 := by kernel_rfl
@[simp] theorem fo35_0 : fieldO Tryd.prog 35 0 = some (0, 9, 1) := by kernel_rfl
@[simp] theorem fo35_1 : fieldO Tryd.prog 35 1 = some (1, 3, 1) := by kernel_rfl
@[simp] theorem fo35_2 : fieldO Tryd.prog 35 2 = some (2, 3, 1) := by kernel_rfl
@[simp] theorem fo35_3 : fieldO Tryd.prog 35 3 = some (3, 3, 1) := by kernel_rfl
@[simp] theorem fo35_4 : fieldO Tryd.prog 35 4 = some (4, 34, 1) := by kernel_rfl
@[simp] theorem sz36 : szO Tryd.prog 36 = some 5 := by kernel_rfl
@[simp] theorem ag36 : isAggO Tryd.prog 36 = some true := by kernel_rfl
@[simp] theorem zc36 : zeroCs Tryd.prog 36 = some [V.str [], V.int IntKind.i64 (0), V.int IntKind.i64 (0), V.int IntKind.i64 (0), V.row true true [] 0 none] := by kernel_rfl
@[simp] theorem pl36 : placesO Tryd.prog 36 = some [(0, 1), (1, 1), (2, 1), (3, 1), (4, 1)] := by kernel_rfl
@[simp] theorem zv36 : zeroV Tryd.prog 36 = some (V.agg [V.str [], V.int IntKind.i64 (0), V.int IntKind.i64 (0), V.int IntKind.i64 (0), V.row true true [] 0 none]) := by kernel_rfl
@[simp] theorem by36 : bytesO Tryd.prog 36 = some 64 := by kernel_rfl
@[simp] theorem fo36_0 : fieldO Tryd.prog 36 0 = some (0, 9, 1) := by kernel_rfl
@[simp] theorem fo36_1 : fieldO Tryd.prog 36 1 = some (1, 3, 1) := by kernel_rfl
@[simp] theorem fo36_2 : fieldO Tryd.prog 36 2 = some (2, 3, 1) := by kernel_rfl
@[simp] theorem fo36_3 : fieldO Tryd.prog 36 3 = some (3, 3, 1) := by kernel_rfl
@[simp] theorem fo36_4 : fieldO Tryd.prog 36 4 = some (4, 34, 1) := by kernel_rfl
@[simp] theorem sz37 : szO Tryd.prog 37 = some 1 := by kernel_rfl
@[simp] theorem ag37 : isAggO Tryd.prog 37 = some false := by kernel_rfl
@[simp] theorem zc37 : zeroCs Tryd.prog 37 = some [V.nilfunc] := by kernel_rfl
@[simp] theorem zv37 : zeroV Tryd.prog 37 = some V.nilfunc := by kernel_rfl
@[simp] theorem by37 : bytesO Tryd.prog 37 = some 8 := by kernel_rfl
@[simp] theorem sz38 : szO Tryd.prog 38 = some 1 := by kernel_rfl
@[simp] theorem ag38 : isAggO Tryd.prog 38 = some false := by kernel_rfl
@[simp] theorem zc38 : zeroCs Tryd.prog 38 = some [V.nilfunc] := by kernel_rfl
@[simp] theorem zv38 : zeroV Tryd.prog 38 = some V.nilfunc := by kernel_rfl
@[simp] theorem by38 : bytesO Tryd.prog 38 = some 8 := by kernel_rfl
@[simp] theorem sz39 : szO Tryd.prog 39 = some 1 := by kernel_rfl
@[simp] theorem ag39 : isAggO Tryd.prog 39 = some false := by kernel_rfl
@[simp] theorem zc39 : zeroCs Tryd.prog 39 = some [V.nilfunc] := by kernel_rfl
@[simp] theorem zv39 : zeroV Tryd.prog 39 = some V.nilfunc := by kernel_rfl
@[simp] theorem by39 : bytesO Tryd.prog 39 = some 8 := by kernel_rfl
@[simp] theorem sz40 : szO Tryd.prog 40 = some 1 := by kernel_rfl
@[simp] theorem ag40 : isAggO Tryd.prog 40 = some false := by kernel_rfl
@[simp] theorem zc40 : zeroCs Tryd.prog 40 = some [V.nilfunc] := by kernel_rfl
@[simp] theorem zv40 : zeroV Tryd.prog 40 = some V.nilfunc := by kernel_rfl
@[simp] theorem by40 : bytesO Tryd.prog 40 = some 8 := by kernel_rfl
@[simp] theorem sz41 : szO Tryd.prog 41 = some 1 := by kernel_rfl
@[simp] theorem ag41 : isAggO Tryd.prog 41 = some false := by kernel_rfl
@[simp] theorem zc41 : zeroCs Tryd.prog 41 = some [V.nilfunc] := by kernel_rfl
@[simp] theorem zv41 : zeroV Tryd.prog 41 = some V.nilfunc := by kernel_rfl
@[simp] theorem by41 : bytesO Tryd.prog 41 = some 8 := by kernel_rfl
@[simp] theorem sz42 : szO Tryd.prog 42 = some 1 := by kernel_rfl
@[simp] theorem ag42 : isAggO Tryd.prog 42 = some false := by kernel_rfl
@[simp] theorem zc42 : zeroCs Tryd.prog 42 = some [V.nilfunc] := by kernel_rfl
@[simp] theorem zv42 : zeroV Tryd.prog 42 = some V.nilfunc := by kernel_rfl
@[simp] theorem by42 : bytesO Tryd.prog 42 = some 8 := by kernel_rfl
@[simp] theorem sz43 : szO Tryd.prog 43 = some 1 := by kernel_rfl
@[simp] theorem ag43 : isAggO Tryd.prog 43 = some false := by kernel_rfl
@[simp] theorem zc43 : zeroCs Tryd.prog 43 = some [V.nilfunc] := by kernel_rfl
@[simp] theorem zv43 : zeroV Tryd.prog 43 = some V.nilfunc := by kernel_rfl
@[simp] theorem by43 : bytesO Tryd.prog 43 = some 8 := by kernel_rfl
@[simp] theorem sz44 : szO Tryd.prog 44 = some 1 := by kernel_rfl
@[simp] theorem ag44 : isAggO Tryd.prog 44 = some false := by kernel_rfl
@[simp] theorem zc44 : zeroCs Tryd.prog 44 = some [V.nilfunc] := by kernel_rfl
@[simp] theorem zv44 : zeroV Tryd.prog 44 = some V.nilfunc := by kernel_rfl
@[simp] theorem by44 : bytesO Tryd.prog 44 = some 8 := by kernel_rfl
@[simp] theorem sz45 : szO Tryd.prog 45 = some 1 := by kernel_rfl
@[simp] theorem ag45 : isAggO Tryd.prog 45 = some false := by kernel_rfl
@[simp] theorem zc45 : zeroCs Tryd.prog 45 = some [V.nilfunc] := by kernel_rfl
@[simp] theorem zv45 : zeroV Tryd.prog 45 = some V.nilfunc := by kernel_rfl
@[simp] theorem by45 : bytesO Tryd.prog 45 = some 8 := by kernel_rfl
@[simp] theorem sz46 : szO Tryd.prog 46 = some 1 := by kernel_rfl
@[simp] theorem ag46 : isAggO Tryd.prog 46 = some false := by kernel_rfl
@[simp] theorem zc46 : zeroCs Tryd.prog 46 = some [V.nilfunc] := by kernel_rfl
@[simp] theorem zv46 : zeroV Tryd.prog 46 = some V.nilfunc := by kernel_rfl
@[simp] theorem by46 : bytesO Tryd.prog 46 = some 8 := by kernel_rfl
@[simp] theorem sz47 : szO Tryd.prog 47 = some 3 := by kernel_rfl
@[simp] theorem ag47 : isAggO Tryd.prog 47 = some true := by kernel_rfl
@[simp] theorem zc47 : zeroCs Tryd.prog 47 = some [V.int IntKind.i64 (0), V.int IntKind.i64 (0), V.bool false] := by kernel_rfl
@[simp] theorem pl47 : placesO Tryd.prog 47 = some [(0, 1), (1, 1), (2, 1)] := by kernel_rfl
@[simp] theorem zv47 : zeroV Tryd.prog 47 = some (V.agg [V.int IntKind.i64 (0), V.int IntKind.i64 (0), V.bool false]) := by kernel_rfl
@[simp] theorem by47 : bytesO Tryd.prog 47 = some 24 := by kernel_rfl
@[simp] theorem fo47_0 : fieldO Tryd.prog 47 0 = some (0, 3, 1) := by kernel_rfl
@[simp] theorem fo47_1 : fieldO Tryd.prog 47 1 = some (1, 3, 1) := by kernel_rfl
@[simp] theorem fo47_2 : fieldO Tryd.prog 47 2 = some (2, 4, 1) := by kernel_rfl
@[simp] theorem sz48 : szO Tryd.prog 48 = some 3 := by kernel_rfl
@[simp] theorem ag48 : isAggO Tryd.prog 48 = some true := by kernel_rfl
@[simp] theorem zc48 : zeroCs Tryd.prog 48 = some [V.int IntKind.i64 (0), V.int IntKind.i64 (0), V.bool false] := by kernel_rfl
@[simp] theorem pl48 : placesO Tryd.prog 48 = some [(0, 1), (1, 1), (2, 1)] := by kernel_rfl
@[simp] theorem zv48 : zeroV Tryd.prog 48 = some (V.agg [V.int IntKind.i64 (0), V.int IntKind.i64 (0), V.bool false]) := by kernel_rfl
@[simp] theorem by48 : bytesO Tryd.prog 48 = some 24 := by kernel_rfl
@[simp] theorem fo48_0 : fieldO Tryd.prog 48 0 = some (0, 3, 1) := by kernel_rfl
@[simp] theorem fo48_1 : fieldO Tryd.prog 48 1 = some (1, 3, 1) := by kernel_rfl
@[simp] theorem fo48_2 : fieldO Tryd.prog 48 2 = some (2, 4, 1) := by kernel_rfl
@[simp] theorem sz49 : szO Tryd.prog 49 = some 1 := by kernel_rfl
@[simp] theorem ag49 : isAggO Tryd.prog 49 = some false := by kernel_rfl
@[simp] theorem zc49 : zeroCs Tryd.prog 49 = some [V.nilfunc] := by kernel_rfl
@[simp] theorem zv49 : zeroV Tryd.prog 49 = some V.nilfunc := by kernel_rfl
@[simp] theorem by49 : bytesO Tryd.prog 49 = some 8 := by kernel_rfl
@[simp] theorem sz50 : szO Tryd.prog 50 = some 1 := by kernel_rfl
@[simp] theorem ag50 : isAggO Tryd.prog 50 = some false := by kernel_rfl
@[simp] theorem zc50 : zeroCs Tryd.prog 50 = some [V.nilfunc] := by kernel_rfl
@[simp] theorem zv50 : zeroV Tryd.prog 50 = some V.nilfunc := by kernel_rfl
@[simp] theorem by50 : bytesO Tryd.prog 50 = some 8 := by kernel_rfl
@[simp] theorem sz51 : szO Tryd.prog 51 = some 1 := by kernel_rfl
@[simp] theorem ag51 : isAggO Tryd.prog 51 = some false := by kernel_rfl
@[simp] theorem zc51 : zeroCs Tryd.prog 51 = some [V.nilfunc] := by kernel_rfl
@[simp] theorem zv51 : zeroV Tryd.prog 51 = some V.nilfunc := by kernel_rfl
@[simp] theorem by51 : bytesO Tryd.prog 51 = some 8 := by kernel_rfl
@[simp] theorem sz52 : szO Tryd.prog 52 = some 1 := by kernel_rfl
@[simp] theorem ag52 : isAggO Tryd.prog 52 = some false := by kernel_rfl
@[simp] theorem zc52 : zeroCs Tryd.prog 52 = some [V.nilfunc] := by kernel_rfl
@[simp] theorem zv52 : zeroV Tryd.prog 52 = some V.nilfunc := by kernel_rfl
@[simp] theorem by52 : bytesO Tryd.prog 52 = some 8 := by kernel_rfl
@[simp] theorem sz53 : szO Tryd.prog 53 = some 2 := by kernel_rfl
@[simp] theorem ag53 : isAggO Tryd.prog 53 = some true := by kernel_rfl
@[simp] theorem zc53 : zeroCs Tryd.prog 53 = some [V.row true true [] 0 none, V.int IntKind.i64 (0)] := by kernel_rfl
@[simp] theorem pl53 : placesO Tryd.prog 53 = some [(0, 1), (1, 1)] := by kernel_rfl
@[simp] theorem zv53 : zeroV Tryd.prog 53 = some (V.agg [V.row true true [] 0 none, V.int IntKind.i64 (0)]) := by kernel_rfl
@[simp] theorem by53 : bytesO Tryd.prog 53 = some 32 := by kernel_rfl
@[simp] theorem fo53_0 : fieldO Tryd.prog 53 0 = some (0, 22, 1) := by kernel_rfl
@[simp] theorem fo53_1 : fieldO Tryd.prog 53 1 = some (1, 3, 1) := by kernel_rfl
@[simp] theorem sz54 : szO Tryd.prog 54 = some 2 := by kernel_rfl
@[simp] theorem ag54 : isAggO Tryd.prog 54 = some true := by kernel_rfl
@[simp] theorem zc54 : zeroCs Tryd.prog 54 = some [V.row true true [] 0 none, V.int IntKind.i64 (0)] := by kernel_rfl
@[simp] theorem pl54 : placesO Tryd.prog 54 = some [(0, 1), (1, 1)] := by kernel_rfl
@[simp] theorem zv54 : zeroV Tryd.prog 54 = some (V.agg [V.row true true [] 0 none, V.int IntKind.i64 (0)]) := by kernel_rfl
@[simp] theorem by54 : bytesO Tryd.prog 54 = some 32 := by kernel_rfl
@[simp] theorem fo54_0 : fieldO Tryd.prog 54 0 = some (0, 22, 1) := by kernel_rfl
@[simp] theorem fo54_1 : fieldO Tryd.prog 54 1 = some (1, 3, 1) := by kernel_rfl
@[simp] theorem sz55 : szO Tryd.prog 55 = some 1 := by kernel_rfl
@[simp] theorem ag55 : isAggO Tryd.prog 55 = some false := by kernel_rfl
@[simp] theorem zc55 : zeroCs Tryd.prog 55 = some [V.nilfunc] := by kernel_rfl
@[simp] theorem zv55 : zeroV Tryd.prog 55 = some V.nilfunc := by kernel_rfl
@[simp] theorem by55 : bytesO Tryd.prog 55 = some 8 := by kernel_rfl
@[simp] theorem sz56 : szO Tryd.prog 56 = some 1 := by kernel_rfl
@[simp] theorem ag56 : isAggO Tryd.prog 56 = some false := by kernel_rfl
@[simp] theorem zc56 : zeroCs Tryd.prog 56 = some [V.nilfunc] := by kernel_rfl
@[simp] theorem zv56 : zeroV Tryd.prog 56 = some V.nilfunc := by kernel_rfl
@[simp] theorem by56 : bytesO Tryd.prog 56 = some 8 := by kernel_rfl
@[simp] theorem sz57 : szO Tryd.prog 57 = some 1 := by kernel_rfl
@[simp] theorem ag57 : isAggO Tryd.prog 57 = some false := by kernel_rfl
@[simp] theorem zc57 : zeroCs Tryd.prog 57 = some [V.nilfunc] := by kernel_rfl
@[simp] theorem zv57 : zeroV Tryd.prog 57 = some V.nilfunc := by kernel_rfl
@[simp] theorem by57 : bytesO Tryd.prog 57 = some 8 := by kernel_rfl
@[simp] theorem sz58 : szO Tryd.prog 58 = some 1 := by kernel_rfl
@[simp] theorem ag58 : isAggO Tryd.prog 58 = some false := by kernel_rfl
@[simp] theorem zc58 : zeroCs Tryd.prog 58 = some [V.row true true [] 0 none] := by kernel_rfl
@[simp] theorem es58 : esz Tryd.prog 58 = some 1 := by kernel_rfl
@[simp] theorem el58 : elemOfSlice Tryd.prog 58 = some 56 := by kernel_rfl
@[simp] theorem zv58 : zeroV Tryd.prog 58 = some (V.row true true [] 0 none) := by kernel_rfl
@[simp] theorem by58 : bytesO Tryd.prog 58 = some 24 := by kernel_rfl
@[simp] theorem mz58 : mkz Tryd.prog 58 = some (1, 8, [V.nilfunc]) := by kernel_rfl
@[simp] theorem sz59 : szO Tryd.prog 59 = some 1 := by kernel_rfl
@[simp] theorem ag59 : isAggO Tryd.prog 59 = some false := by kernel_rfl
@[simp] theorem zc59 : zeroCs Tryd.prog 59 = some [V.nilfunc] := by kernel_rfl
@[simp] theorem zv59 : zeroV Tryd.prog 59 = some V.nilfunc := by kernel_rfl
@[simp] theorem by59 : bytesO Tryd.prog 59 = some 8 := by kernel_rfl
@[simp] theorem sz60 : szO Tryd.prog 60 = some 1 := by kernel_rfl
@[simp] theorem ag60 : isAggO Tryd.prog 60 = some false := by kernel_rfl
@[simp] theorem zc60 : zeroCs Tryd.prog 60 = some [V.nilfunc] := by kernel_rfl
@[simp] theorem zv60 : zeroV Tryd.prog 60 = some V.nilfunc := by kernel_rfl
@[simp] theorem by60 : bytesO Tryd.prog 60 = some 8 := by kernel_rfl
@[simp] theorem sz61 : szO Tryd.prog 61 = some 1 := by kernel_rfl
@[simp] theorem ag61 : isAggO Tryd.prog 61 = some false := by kernel_rfl
@[simp] theorem zc61 : zeroCs Tryd.prog 61 = some [V.nilfunc] := by kernel_rfl
@[simp] theorem zv61 : zeroV Tryd.prog 61 = some V.nilfunc := by kernel_rfl
@[simp] theorem by61 : bytesO Tryd.prog 61 = some 8 := by kernel_rfl
@[simp] theorem sz62 : szO Tryd.prog 62 = some 1 := by kernel_rfl
@[simp] theorem ag62 : isAggO Tryd.prog 62 = some false := by kernel_rfl
@[simp] theorem zc62 : zeroCs Tryd.prog 62 = some [V.nilfunc] := by kernel_rfl
@[simp] theorem zv62 : zeroV Tryd.prog 62 = some V.nilfunc := by kernel_rfl
@[simp] theorem by62 : bytesO Tryd.prog 62 = some 8 := by kernel_rfl
@[simp] theorem sz63 : szO Tryd.prog 63 = some 1 := by kernel_rfl
@[simp] theorem ag63 : isAggO Tryd.prog 63 = some false := by kernel_rfl
@[simp] theorem zc63 : zeroCs Tryd.prog 63 = some [V.nilptr] := by kernel_rfl
@[simp] theorem zv63 : zeroV Tryd.prog 63 = some V.nilptr := by kernel_rfl
@[simp] theorem by63 : bytesO Tryd.prog 63 = some 8 := by kernel_rfl
@[simp] theorem sz64 : szO Tryd.prog 64 = some 1 := by kernel_rfl
@[simp] theorem ag64 : isAggO Tryd.prog 64 = some false := by kernel_rfl
@[simp] theorem zc64 : zeroCs Tryd.prog 64 = some [V.nilfunc] := by kernel_rfl
@[simp] theorem zv64 : zeroV Tryd.prog 64 = some V.nilfunc := by kernel_rfl
@[simp] theorem by64 : bytesO Tryd.prog 64 = some 8 := by kernel_rfl
@[simp] theorem sz65 : szO Tryd.prog 65 = some 1 := by kernel_rfl
@[simp] theorem ag65 : isAggO Tryd.prog 65 = some false := by kernel_rfl
@[simp] theorem zc65 : zeroCs Tryd.prog 65 = some [V.row true true [] 0 none] := by kernel_rfl
@[simp] theorem es65 : esz Tryd.prog 65 = some 1 := by kernel_rfl
@[simp] theorem el65 : elemOfSlice Tryd.prog 65 = some 4 := by kernel_rfl
@[simp] theorem zv65 : zeroV Tryd.prog 65 = some (V.row true true [] 0 none) := by kernel_rfl
@[simp] theorem by65 : bytesO Tryd.prog 65 = some 24 := by kernel_rfl
@[simp] theorem mz65 : mkz Tryd.prog 65 = some (1, 1, [V.bool false]) := by kernel_rfl
@[simp] theorem sz66 : szO Tryd.prog 66 = some 1 := by kernel_rfl
@[simp] theorem ag66 : isAggO Tryd.prog 66 = some false := by kernel_rfl
@[simp] theorem zc66 : zeroCs Tryd.prog 66 = some [V.nilfunc] := by kernel_rfl
@[simp] theorem zv66 : zeroV Tryd.prog 66 = some V.nilfunc := by kernel_rfl
@[simp] theorem by66 : bytesO Tryd.prog 66 = some 8 := by kernel_rfl
@[simp] theorem sz67 : szO Tryd.prog 67 = some 1 := by kernel_rfl
@[simp] theorem ag67 : isAggO Tryd.prog 67 = some false := by kernel_rfl
@[simp] theorem zc67 : zeroCs Tryd.prog 67 = some [V.nilfunc] := by kernel_rfl
@[simp] theorem zv67 : zeroV Tryd.prog 67 = some V.nilfunc := by kernel_rfl
@[simp] theorem by67 : bytesO Tryd.prog 67 = some 8 := by kernel_rfl
@[simp] theorem sz68 : szO Tryd.prog 68 = some 1 := by kernel_rfl
@[simp] theorem ag68 : isAggO Tryd.prog 68 = some false := by kernel_rfl
@[simp] theorem zc68 : zeroCs Tryd.prog 68 = some [V.nilfunc] := by kernel_rfl
@[simp] theorem zv68 : zeroV Tryd.prog 68 = some V.nilfunc := by kernel_rfl
@[simp] theorem by68 : bytesO Tryd.prog 68 = some 8 := by kernel_rfl
@[simp] theorem sz69 : szO Tryd.prog 69 = some 1 := by kernel_rfl
@[simp] theorem ag69 : isAggO Tryd.prog 69 = some false := by kernel_rfl
@[simp] theorem by69 : bytesO Tryd.prog 69 = some 0 := by kernel_rfl
@[simp] theorem sz70 : szO Tryd.prog 70 = some 1 := by kernel_rfl
@[simp] theorem ag70 : isAggO Tryd.prog 70 = some false := by kernel_rfl
@[simp] theorem zc70 : zeroCs Tryd.prog 70 = some [V.nilfunc] := by kernel_rfl
@[simp] theorem zv70 : zeroV Tryd.prog 70 = some V.nilfunc := by kernel_rfl
@[simp] theorem by70 : bytesO Tryd.prog 70 = some 8 := by kernel_rfl
@[simp] theorem sz71 : szO Tryd.prog 71 = some 1 := by kernel_rfl
@[simp] theorem ag71 : isAggO Tryd.prog 71 = some false := by kernel_rfl
@[simp] theorem zc71 : zeroCs Tryd.prog 71 = some [V.nilfunc] := by kernel_rfl
@[simp] theorem zv71 : zeroV Tryd.prog 71 = some V.nilfunc := by kernel_rfl
@[simp] theorem by71 : bytesO Tryd.prog 71 = some 8 := by kernel_rfl
@[simp] theorem sz72 : szO Tryd.prog 72 = some 1 := by kernel_rfl
@[simp] theorem ag72 : isAggO Tryd.prog 72 = some false := by kernel_rfl
@[simp] theorem zc72 : zeroCs Tryd.prog 72 = some [V.nilfunc] := by kernel_rfl
@[simp] theorem zv72 : zeroV Tryd.prog 72 = some V.nilfunc := by kernel_rfl
@[simp] theorem by72 : bytesO Tryd.prog 72 = some 8 := by kernel_rfl
@[simp] theorem sz73 : szO Tryd.prog 73 = some 1 := by kernel_rfl
@[simp] theorem ag73 : isAggO Tryd.prog 73 = some false := by kernel_rfl
@[simp] theorem zc73 : zeroCs Tryd.prog 73 = some [V.nilfunc] := by kernel_rfl
@[simp] theorem zv73 : zeroV Tryd.prog 73 = some V.nilfunc := by kernel_rfl
@[simp] theorem by73 : bytesO Tryd.prog 73 = some 8 := by kernel_rfl
@[simp] theorem sz74 : szO Tryd.prog 74 = some 256 := by kernel_rfl
@[simp] theorem ag74 : isAggO Tryd.prog 74 = some true := by kernel_rfl
@[simp] theorem zc74 : zeroCs Tryd.prog 74 = some (tab 256 (fun _ => V.bool false)) := by kernel_rfl
@[simp] theorem by74 : bytesO Tryd.prog 74 = some 256 := by kernel_rfl
@[simp] theorem sz75 : szO Tryd.prog 75 = some 256 := by kernel_rfl
@[simp] theorem ag75 : isAggO Tryd.prog 75 = some true := by kernel_rfl
@[simp] theorem zc75 : zeroCs Tryd.prog 75 = some (tab 256 (fun _ => V.bool false)) := by kernel_rfl
@[simp] theorem by75 : bytesO Tryd.prog 75 = some 256 := by kernel_rfl
@[simp] theorem sz76 : szO Tryd.prog 76 = some 1 := by kernel_rfl
@[simp] theorem ag76 : isAggO Tryd.prog 76 = some false := by kernel_rfl
@[simp] theorem by76 : bytesO Tryd.prog 76 = some 0 := by kernel_rfl
@[simp] theorem sz77 : szO Tryd.prog 77 = some 1 := by kernel_rfl
@[simp] theorem ag77 : isAggO Tryd.prog 77 = some false := by kernel_rfl
@[simp] theorem zc77 : zeroCs Tryd.prog 77 = some [V.nilfunc] := by kernel_rfl
@[simp] theorem zv77 : zeroV Tryd.prog 77 = some V.nilfunc := by kernel_rfl
@[simp] theorem by77 : bytesO Tryd.prog 77 = some 8 := by kernel_rfl
@[simp] theorem sz78 : szO Tryd.prog 78 = some 1 := by kernel_rfl
@[simp] theorem ag78 : isAggO Tryd.prog 78 = some false := by kernel_rfl
@[simp] theorem zc78 : zeroCs Tryd.prog 78 = some [V.nilfunc] := by kernel_rfl
@[simp] theorem zv78 : zeroV Tryd.prog 78 = some V.nilfunc := by kernel_rfl
@[simp] theorem by78 : bytesO Tryd.prog 78 = some 8 := by kernel_rfl
@[simp] theorem sz79 : szO Tryd.prog 79 = some 1 := by kernel_rfl
@[simp] theorem ag79 : isAggO Tryd.prog 79 = some false := by kernel_rfl
@[simp] theorem zc79 : zeroCs Tryd.prog 79 = some [V.nilfunc] := by kernel_rfl
@[simp] theorem zv79 : zeroV Tryd.prog 79 = some V.nilfunc := by kernel_rfl
@[simp] theorem by79 : bytesO Tryd.prog 79 = some 8 := by kernel_rfl
@[simp] theorem sz80 : szO Tryd.prog 80 = some 1 := by kernel_rfl
@[simp] theorem ag80 : isAggO Tryd.prog 80 = some false := by kernel_rfl
@[simp] theorem zc80 : zeroCs Tryd.prog 80 = some [V.nilfunc] := by kernel_rfl
@[simp] theorem zv80 : zeroV Tryd.prog 80 = some V.nilfunc := by kernel_rfl
@[simp] theorem by80 : bytesO Tryd.prog 80 = some 8 := by kernel_rfl
@[simp] theorem sz81 : szO Tryd.prog 81 = some 1 := by kernel_rfl
@[simp] theorem ag81 : isAggO Tryd.prog 81 = some false := by kernel_rfl
@[simp] theorem zc81 : zeroCs Tryd.prog 81 = some [V.nilfunc] := by kernel_rfl
@[simp] theorem zv81 : zeroV Tryd.prog 81 = some V.nilfunc := by kernel_rfl
@[simp] theorem by81 : bytesO Tryd.prog 81 = some 8 := by kernel_rfl
@[simp] theorem sz82 : szO Tryd.prog 82 = some 1 := by kernel_rfl
@[simp] theorem ag82 : isAggO Tryd.prog 82 = some false := by kernel_rfl
@[simp] theorem zc82 : zeroCs Tryd.prog 82 = some [V.nilfunc] := by kernel_rfl
@[simp] theorem zv82 : zeroV Tryd.prog 82 = some V.nilfunc := by kernel_rfl
@[simp] theorem by82 : bytesO Tryd.prog 82 = some 8 := by kernel_rfl
@[simp] theorem sz83 : szO Tryd.prog 83 = some 1 := by kernel_rfl
@[simp] theorem ag83 : isAggO Tryd.prog 83 = some false := by kernel_rfl
@[simp] theorem zc83 : zeroCs Tryd.prog 83 = some [V.nilfunc] := by kernel_rfl
@[simp] theorem zv83 : zeroV Tryd.prog 83 = some V.nilfunc := by kernel_rfl
@[simp] theorem by83 : bytesO Tryd.prog 83 = some 8 := by kernel_rfl
@[simp] theorem sz84 : szO Tryd.prog 84 = some 1 := by kernel_rfl
@[simp] theorem ag84 : isAggO Tryd.prog 84 = some false := by kernel_rfl
@[simp] theorem zc84 : zeroCs Tryd.prog 84 = some [V.int IntKind.u64 (0)] := by kernel_rfl
@[simp] theorem zv84 : zeroV Tryd.prog 84 = some (V.int IntKind.u64 (0)) := by kernel_rfl
@[simp] theorem by84 : bytesO Tryd.prog 84 = some 8 := by kernel_rfl
@[simp] theorem sz85 : szO Tryd.prog 85 = some 1 := by kernel_rfl
@[simp] theorem ag85 : isAggO Tryd.prog 85 = some false := by kernel_rfl
@[simp] theorem zc85 : zeroCs Tryd.prog 85 = some [V.nilptr] := by kernel_rfl
@[simp] theorem zv85 : zeroV Tryd.prog 85 = some V.nilptr := by kernel_rfl
@[simp] theorem by85 : bytesO Tryd.prog 85 = some 8 := by kernel_rfl
@[simp] theorem sz86 : szO Tryd.prog 86 = some 1 := by kernel_rfl
@[simp] theorem ag86 : isAggO Tryd.prog 86 = some false := by kernel_rfl
@[simp] theorem zc86 : zeroCs Tryd.prog 86 = some [V.nilfunc] := by kernel_rfl
@[simp] theorem zv86 : zeroV Tryd.prog 86 = some V.nilfunc := by kernel_rfl
@[simp] theorem by86 : bytesO Tryd.prog 86 = some 8 := by kernel_rfl
@[simp] theorem sz87 : szO Tryd.prog 87 = some 1 := by kernel_rfl
@[simp] theorem ag87 : isAggO Tryd.prog 87 = some false := by kernel_rfl
@[simp] theorem zc87 : zeroCs Tryd.prog 87 = some [V.nilfunc] := by kernel_rfl
@[simp] theorem zv87 : zeroV Tryd.prog 87 = some V.nilfunc := by kernel_rfl
@[simp] theorem by87 : bytesO Tryd.prog 87 = some 8 := by kernel_rfl
@[simp] theorem sz88 : szO Tryd.prog 88 = some 1 := by kernel_rfl
@[simp] theorem ag88 : isAggO Tryd.prog 88 = some false := by kernel_rfl
@[simp] theorem zc88 : zeroCs Tryd.prog 88 = some [V.nilfunc] := by kernel_rfl
@[simp] theorem zv88 : zeroV Tryd.prog 88 = some V.nilfunc := by kernel_rfl
@[simp] theorem by88 : bytesO Tryd.prog 88 = some 8 := by kernel_rfl
@[simp] theorem sz89 : szO Tryd.prog 89 = some 2 := by kernel_rfl
@[simp] theorem ag89 : isAggO Tryd.prog 89 = some true := by kernel_rfl
@[simp] theorem zc89 : zeroCs Tryd.prog 89 = some [V.int IntKind.i64 (0), V.nilfunc] := by kernel_rfl
@[simp] theorem pl89 : placesO Tryd.prog 89 = some [(0, 1), (1, 1)] := by kernel_rfl
@[simp] theorem zv89 : zeroV Tryd.prog 89 = some (V.agg [V.int IntKind.i64 (0), V.nilfunc]) := by kernel_rfl
@[simp] theorem by89 : bytesO Tryd.prog 89 = some 16 := by kernel_rfl
@[simp] theorem fo89_0 : fieldO Tryd.prog 89 0 = some (0, 3, 1) := by kernel_rfl
@[simp] theorem fo89_1 : fieldO Tryd.prog 89 1 = some (1, 73, 1) := by kernel_rfl
@[simp] theorem sz90 : szO Tryd.prog 90 = some 2 := by kernel_rfl
@[simp] theorem ag90 : isAggO Tryd.prog 90 = some true := by kernel_rfl
@[simp] theorem zc90 : zeroCs Tryd.prog 90 = some [V.int IntKind.i64 (0), V.nilfunc] := by kernel_rfl
@[simp] theorem pl90 : placesO Tryd.prog 90 = some [(0, 1), (1, 1)] := by kernel_rfl
@[simp] theorem zv90 : zeroV Tryd.prog 90 = some (V.agg [V.int IntKind.i64 (0), V.nilfunc]) := by kernel_rfl
@[simp] theorem by90 : bytesO Tryd.prog 90 = some 16 := by kernel_rfl
@[simp] theorem fo90_0 : fieldO Tryd.prog 90 0 = some (0, 3, 1) := by kernel_rfl
@[simp] theorem fo90_1 : fieldO Tryd.prog 90 1 = some (1, 73, 1) := by kernel_rfl
@[simp] theorem sz91 : szO Tryd.prog 91 = some 1 := by kernel_rfl
@[simp] theorem ag91 : isAggO Tryd.prog 91 = some false := by kernel_rfl
@[simp] theorem zc91 : zeroCs Tryd.prog 91 = some [V.row true true [] 0 none] := by kernel_rfl
@[simp] theorem es91 : esz Tryd.prog 91 = some 2 := by kernel_rfl
@[simp] theorem el91 : elemOfSlice Tryd.prog 91 = some 90 := by kernel_rfl
@[simp] theorem zv91 : zeroV Tryd.prog 91 = some (V.row true true [] 0 none) := by kernel_rfl
@[simp] theorem by91 : bytesO Tryd.prog 91 = some 24 := by kernel_rfl
@[simp] theorem mz91 : mkz Tryd.prog 91 = some (2, 16, [V.int IntKind.i64 (0), V.nilfunc]) := by kernel_rfl
@[simp] theorem sz92 : szO Tryd.prog 92 = some 1 := by kernel_rfl
@[simp] theorem ag92 : isAggO Tryd.prog 92 = some false := by kernel_rfl
@[simp] theorem zc92 : zeroCs Tryd.prog 92 = some [V.nilfunc] := by kernel_rfl
@[simp] theorem zv92 : zeroV Tryd.prog 92 = some V.nilfunc := by kernel_rfl
@[simp] theorem by92 : bytesO Tryd.prog 92 = some 8 := by kernel_rfl
@[simp] theorem sz93 : szO Tryd.prog 93 = some 1 := by kernel_rfl
@[simp] theorem ag93 : isAggO Tryd.prog 93 = some false := by kernel_rfl
@[simp] theorem zc93 : zeroCs Tryd.prog 93 = some [V.nilfunc] := by kernel_rfl
@[simp] theorem zv93 : zeroV Tryd.prog 93 = some V.nilfunc := by kernel_rfl
@[simp] theorem by93 : bytesO Tryd.prog 93 = some 8 := by kernel_rfl
@[simp] theorem sz94 : szO Tryd.prog 94 = some 1 := by kernel_rfl
@[simp] theorem ag94 : isAggO Tryd.prog 94 = some false := by kernel_rfl
@[simp] theorem by94 : bytesO Tryd.prog 94 = some 0 := by kernel_rfl
@[simp] theorem sz95 : szO Tryd.prog 95 = some 1 := by kernel_rfl
@[simp] theorem ag95 : isAggO Tryd.prog 95 = some false := by kernel_rfl
@[simp] theorem zc95 : zeroCs Tryd.prog 95 = some [V.nilfunc] := by kernel_rfl
@[simp] theorem zv95 : zeroV Tryd.prog 95 = some V.nilfunc := by kernel_rfl
@[simp] theorem by95 : bytesO Tryd.prog 95 = some 8 := by kernel_rfl
@[simp] theorem sz96 : szO Tryd.prog 96 = some 1 := by kernel_rfl
@[simp] theorem ag96 : isAggO Tryd.prog 96 = some false := by kernel_rfl
@[simp] theorem zc96 : zeroCs Tryd.prog 96 = some [V.nilfunc] := by kernel_rfl
@[simp] theorem zv96 : zeroV Tryd.prog 96 = some V.nilfunc := by kernel_rfl
@[simp] theorem by96 : bytesO Tryd.prog 96 = some 8 := by kernel_rfl
@[simp] theorem sz97 : szO Tryd.prog 97 = some 0 := by kernel_rfl
@[simp] theorem ag97 : isAggO Tryd.prog 97 = some true := by kernel_rfl
@[simp] theorem zc97 : zeroCs Tryd.prog 97 = some [] := by kernel_rfl
@[simp] theorem pl97 : placesO Tryd.prog 97 = some [] := by kernel_rfl
@[simp] theorem zv97 : zeroV Tryd.prog 97 = some (V.agg []) := by kernel_rfl
@[simp] theorem by97 : bytesO Tryd.prog 97 = some 0 := by kernel_rfl
@[simp] theorem sz98 : szO Tryd.prog 98 = some 0 := by kernel_rfl
@[simp] theorem ag98 : isAggO Tryd.prog 98 = some true := by kernel_rfl
@[simp] theorem zc98 : zeroCs Tryd.prog 98 = some [] := by kernel_rfl
@[simp] theorem pl98 : placesO Tryd.prog 98 = some [] := by kernel_rfl
@[simp] theorem zv98 : zeroV Tryd.prog 98 = some (V.agg []) := by kernel_rfl
@[simp] theorem by98 : bytesO Tryd.prog 98 = some 0 := by kernel_rfl
@[simp] theorem sz99 : szO Tryd.prog 99 = some 1 := by kernel_rfl
@[simp] theorem ag99 : isAggO Tryd.prog 99 = some false := by kernel_rfl
@[simp] theorem by99 : bytesO Tryd.prog 99 = some 0 := by kernel_rfl
@[simp] theorem sz100 : szO Tryd.prog 100 = some 1 := by kernel_rfl
@[simp] theorem ag100 : isAggO Tryd.prog 100 = some false := by kernel_rfl
@[simp] theorem zc100 : zeroCs Tryd.prog 100 = some [V.nilfunc] := by kernel_rfl
@[simp] theorem zv100 : zeroV Tryd.prog 100 = some V.nilfunc := by kernel_rfl
@[simp] theorem by100 : bytesO Tryd.prog 100 = some 8 := by kernel_rfl
@[simp] theorem sz101 : szO Tryd.prog 101 = some 1 := by kernel_rfl
@[simp] theorem ag101 : isAggO Tryd.prog 101 = some false := by kernel_rfl
@[simp] theorem zc101 : zeroCs Tryd.prog 101 = some [V.nilfunc] := by kernel_rfl
@[simp] theorem zv101 : zeroV Tryd.prog 101 = some V.nilfunc := by kernel_rfl
@[simp] theorem by101 : bytesO Tryd.prog 101 = some 8 := by kernel_rfl
@[simp] theorem sz102 : szO Tryd.prog 102 = some 1 := by kernel_rfl
@[simp] theorem ag102 : isAggO Tryd.prog 102 = some false := by kernel_rfl
@[simp] theorem zc102 : zeroCs Tryd.prog 102 = some [V.nilfunc] := by kernel_rfl
@[simp] theorem zv102 : zeroV Tryd.prog 102 = some V.nilfunc := by kernel_rfl
@[simp] theorem by102 : bytesO Tryd.prog 102 = some 8 := by kernel_rfl
@[simp] theorem sz103 : szO Tryd.prog 103 = some 1 := by kernel_rfl
@[simp] theorem ag103 : isAggO Tryd.prog 103 = some false := by kernel_rfl
@[simp] theorem zc103 : zeroCs Tryd.prog 103 = some [V.nilfunc] := by kernel_rfl
@[simp] theorem zv103 : zeroV Tryd.prog 103 = some V.nilfunc := by kernel_rfl
@[simp] theorem by103 : bytesO Tryd.prog 103 = some 8 := by kernel_rfl
@[simp] theorem sz104 : szO Tryd.prog 104 = some 1 := by kernel_rfl
@[simp] theorem ag104 : isAggO Tryd.prog 104 = some false := by kernel_rfl
@[simp] theorem zc104 : zeroCs Tryd.prog 104 = some [V.nilfunc] := by kernel_rfl
@[simp] theorem zv104 : zeroV Tryd.prog 104 = some V.nilfunc := by kernel_rfl
@[simp] theorem by104 : bytesO Tryd.prog 104 = some 8 := by kernel_rfl
@[simp] theorem sz105 : szO Tryd.prog 105 = some 1 := by kernel_rfl
@[simp] theorem ag105 : isAggO Tryd.prog 105 = some false := by kernel_rfl
@[simp] theorem zc105 : zeroCs Tryd.prog 105 = some [V.nilfunc] := by kernel_rfl
@[simp] theorem zv105 : zeroV Tryd.prog 105 = some V.nilfunc := by kernel_rfl
@[simp] theorem by105 : bytesO Tryd.prog 105 = some 8 := by kernel_rfl
@[simp] theorem sz106 : szO Tryd.prog 106 = some 2 := by kernel_rfl
@[simp] theorem ag106 : isAggO Tryd.prog 106 = some true := by kernel_rfl
@[simp] theorem zc106 : zeroCs Tryd.prog 106 = some [V.int IntKind.i64 (0), V.int IntKind.i64 (0)] := by kernel_rfl
@[simp] theorem zv106 : zeroV Tryd.prog 106 = some (V.agg [V.int IntKind.i64 (0), V.int IntKind.i64 (0)]) := by kernel_rfl
@[simp] theorem by106 : bytesO Tryd.prog 106 = some 16 := by kernel_rfl
@[simp] theorem sz107 : szO Tryd.prog 107 = some 1 := by kernel_rfl
@[simp] theorem ag107 : isAggO Tryd.prog 107 = some false := by kernel_rfl
@[simp] theorem zc107 : zeroCs Tryd.prog 107 = some [V.nilfunc] := by kernel_rfl
@[simp] theorem zv107 : zeroV Tryd.prog 107 = some V.nilfunc := by kernel_rfl
@[simp] theorem by107 : bytesO Tryd.prog 107 = some 8 := by kernel_rfl
@[simp] theorem sz108 : szO Tryd.prog 108 = some 1 := by kernel_rfl
@[simp] theorem ag108 : isAggO Tryd.prog 108 = some false := by kernel_rfl
@[simp] theorem zc108 : zeroCs Tryd.prog 108 = some [V.row true true [] 0 none] := by kernel_rfl
@[simp] theorem es108 : esz Tryd.prog 108 = some 1 := by kernel_rfl
@[simp] theorem el108 : elemOfSlice Tryd.prog 108 = some 5 := by kernel_rfl
@[simp] theorem zv108 : zeroV Tryd.prog 108 = some (V.row true true [] 0 none) := by kernel_rfl
@[simp] theorem by108 : bytesO Tryd.prog 108 = some 24 := by kernel_rfl
@[simp] theorem mz108 : mkz Tryd.prog 108 = some (1, 1, [V.int IntKind.u8 (0)]) := by kernel_rfl
@[simp] theorem sz109 : szO Tryd.prog 109 = some 1 := by kernel_rfl
@[simp] theorem ag109 : isAggO Tryd.prog 109 = some false := by kernel_rfl
@[simp] theorem zc109 : zeroCs Tryd.prog 109 = some [V.nilfunc] := by kernel_rfl
@[simp] theorem zv109 : zeroV Tryd.prog 109 = some V.nilfunc := by kernel_rfl
@[simp] theorem by109 : bytesO Tryd.prog 109 = some 8 := by kernel_rfl
@[simp] theorem sz110 : szO Tryd.prog 110 = some 1 := by kernel_rfl
@[simp] theorem ag110 : isAggO Tryd.prog 110 = some false := by kernel_rfl
@[simp] theorem zc110 : zeroCs Tryd.prog 110 = some [V.nilfunc] := by kernel_rfl
@[simp] theorem zv110 : zeroV Tryd.prog 110 = some V.nilfunc := by kernel_rfl
@[simp] theorem by110 : bytesO Tryd.prog 110 = some 8 := by kernel_rfl
@[simp] theorem sz111 : szO Tryd.prog 111 = some 1 := by kernel_rfl
@[simp] theorem ag111 : isAggO Tryd.prog 111 = some false := by kernel_rfl
@[simp] theorem by111 : bytesO Tryd.prog 111 = some 0 := by kernel_rfl
@[simp] theorem sz112 : szO Tryd.prog 112 = some 1 := by kernel_rfl
@[simp] theorem ag112 : isAggO Tryd.prog 112 = some false := by kernel_rfl
@[simp] theorem zc112 : zeroCs Tryd.prog 112 = some [V.nilfunc] := by kernel_rfl
@[simp] theorem zv112 : zeroV Tryd.prog 112 = some V.nilfunc := by kernel_rfl
@[simp] theorem by112 : bytesO Tryd.prog 112 = some 8 := by kernel_rfl
@[simp] theorem sz113 : szO Tryd.prog 113 = some 1 := by kernel_rfl
@[simp] theorem ag113 : isAggO Tryd.prog 113 = some false := by kernel_rfl
@[simp] theorem zc113 : zeroCs Tryd.prog 113 = some [V.row true true [] 0 none] := by kernel_rfl
@[simp] theorem es113 : esz Tryd.prog 113 = some 2 := by kernel_rfl
@[simp] theorem el113 : elemOfSlice Tryd.prog 113 = some 106 := by kernel_rfl
@[simp] theorem zv113 : zeroV Tryd.prog 113 = some (V.row true true [] 0 none) := by kernel_rfl
@[simp] theorem by113 : bytesO Tryd.prog 113 = some 24 := by kernel_rfl
@[simp] theorem mz113 : mkz Tryd.prog 113 = some (2, 16, [V.int IntKind.i64 (0), V.int IntKind.i64 (0)]) := by kernel_rfl
@[simp] theorem sz114 : szO Tryd.prog 114 = some 1 := by kernel_rfl
@[simp] theorem ag114 : isAggO Tryd.prog 114 = some false := by kernel_rfl
@[simp] theorem zc114 : zeroCs Tryd.prog 114 = some [V.nilfunc] := by kernel_rfl
@[simp] theorem zv114 : zeroV Tryd.prog 114 = some V.nilfunc := by kernel_rfl
@[simp] theorem by114 : bytesO Tryd.prog 114 = some 8 := by kernel_rfl
@[simp] theorem sz115 : szO Tryd.prog 115 = some 1 := by kernel_rfl
@[simp] theorem ag115 : isAggO Tryd.prog 115 = some false := by kernel_rfl
@[simp] theorem zc115 : zeroCs Tryd.prog 115 = some [V.nilfunc] := by kernel_rfl
@[simp] theorem zv115 : zeroV Tryd.prog 115 = some V.nilfunc := by kernel_rfl
@[simp] theorem by115 : bytesO Tryd.prog 115 = some 8 := by kernel_rfl
@[simp] theorem sz116 : szO Tryd.prog 116 = some 1 := by kernel_rfl
@[simp] theorem ag116 : isAggO Tryd.prog 116 = some false := by kernel_rfl
@[simp] theorem zc116 : zeroCs Tryd.prog 116 = some [V.nilfunc] := by kernel_rfl
@[simp] theorem zv116 : zeroV Tryd.prog 116 = some V.nilfunc := by kernel_rfl
@[simp] theorem by116 : bytesO Tryd.prog 116 = some 8 := by kernel_rfl
@[simp] theorem sz117 : szO Tryd.prog 117 = some 256 := by kernel_rfl
@[simp] theorem ag117 : isAggO Tryd.prog 117 = some true := by kernel_rfl
@[simp] theorem zc117 : zeroCs Tryd.prog 117 = some (tab 256 (fun _ => V.int IntKind.u8 (0))) := by kernel_rfl
@[simp] theorem by117 : bytesO Tryd.prog 117 = some 256 := by kernel_rfl
@[simp] theorem sz118 : szO Tryd.prog 118 = some 2 := by kernel_rfl
@[simp] theorem ag118 : isAggO Tryd.prog 118 = some true := by kernel_rfl
@[simp] theorem zc118 : zeroCs Tryd.prog 118 = some [V.int IntKind.u8 (0), V.int IntKind.u8 (0)] := by kernel_rfl
@[simp] theorem pl118 : placesO Tryd.prog 118 = some [(0, 1), (1, 1)] := by kernel_rfl
@[simp] theorem zv118 : zeroV Tryd.prog 118 = some (V.agg [V.int IntKind.u8 (0), V.int IntKind.u8 (0)]) := by kernel_rfl
@[simp] theorem by118 : bytesO Tryd.prog 118 = some 2 := by kernel_rfl
@[simp] theorem fo118_0 : fieldO Tryd.prog 118 0 = some (0, 5, 1) := by kernel_rfl
@[simp] theorem fo118_1 : fieldO Tryd.prog 118 1 = some (1, 5, 1) := by kernel_rfl
@[simp] theorem sz119 : szO Tryd.prog 119 = some 2 := by kernel_rfl
@[simp] theorem ag119 : isAggO Tryd.prog 119 = some true := by kernel_rfl
@[simp] theorem zc119 : zeroCs Tryd.prog 119 = some [V.int IntKind.u8 (0), V.int IntKind.u8 (0)] := by kernel_rfl
@[simp] theorem pl119 : placesO Tryd.prog 119 = some [(0, 1), (1, 1)] := by kernel_rfl
@[simp] theorem zv119 : zeroV Tryd.prog 119 = some (V.agg [V.int IntKind.u8 (0), V.int IntKind.u8 (0)]) := by kernel_rfl
@[simp] theorem by119 : bytesO Tryd.prog 119 = some 2 := by kernel_rfl
@[simp] theorem fo119_0 : fieldO Tryd.prog 119 0 = some (0, 5, 1) := by kernel_rfl
@[simp] theorem fo119_1 : fieldO Tryd.prog 119 1 = some (1, 5, 1) := by kernel_rfl
@[simp] theorem sz120 : szO Tryd.prog 120 = some 32 := by kernel_rfl
@[simp] theorem ag120 : isAggO Tryd.prog 120 = some true := by kernel_rfl
@[simp] theorem zc120 : zeroCs Tryd.prog 120 = some (tab 32 (fun _ => V.int IntKind.u8 (0))) := by kernel_rfl
@[simp] theorem zv120 : zeroV Tryd.prog 120 = some (V.agg [V.int IntKind.u8 (0), V.int IntKind.u8 (0), V.int IntKind.u8 (0), V.int IntKind.u8 (0), V.int IntKind.u8 (0), V.int IntKind.u8 (0), V.int IntKind.u8 (0), V.int IntKind.u8 (0), V.int IntKind.u8 (0), V.int IntKind.u8 (0), V.int IntKind.u8 (0), V.int IntKind.u8 (0), V.int IntKind.u8 (0), V.int IntKind.u8 (0), V.int IntKind.u8 (0), V.int IntKind.u8 (0), V.int IntKind.u8 (0), V.int IntKind.u8 (0), V.int IntKind.u8 (0), V.int IntKind.u8 (0), V.int IntKind.u8 (0), V.int IntKind.u8 (0), V.int IntKind.u8 (0), V.int IntKind.u8 (0), V.int IntKind.u8 (0), V.int IntKind.u8 (0), V.int IntKind.u8 (0), V.int IntKind.u8 (0), V.int IntKind.u8 (0), V.int IntKind.u8 (0), V.int IntKind.u8 (0), V.int IntKind.u8 (0)]) := by kernel_rfl
@[simp] theorem by120 : bytesO Tryd.prog 120 = some 32 := by kernel_rfl
@[simp] theorem sz121 : szO Tryd.prog 121 = some 1 := by kernel_rfl
@[simp] theorem ag121 : isAggO Tryd.prog 121 = some false := by kernel_rfl
@[simp] theorem zc121 : zeroCs Tryd.prog 121 = some [V.nilfunc] := by kernel_rfl
@[simp] theorem zv121 : zeroV Tryd.prog 121 = some V.nilfunc := by kernel_rfl
@[simp] theorem by121 : bytesO Tryd.prog 121 = some 8 := by kernel_rfl
@[simp] theorem sz122 : szO Tryd.prog 122 = some 4 := by kernel_rfl
@[simp] theorem ag122 : isAggO Tryd.prog 122 = some true := by kernel_rfl
@[simp] theorem zc122 : zeroCs Tryd.prog 122 = some [V.nilptr, V.nilptr, V.nilptr, V.str []] := by kernel_rfl
@[simp] theorem pl122 : placesO Tryd.prog 122 = some [(0, 1), (1, 1), (2, 1), (3, 1)] := by kernel_rfl
@[simp] theorem zv122 : zeroV Tryd.prog 122 = some (V.agg [V.nilptr, V.nilptr, V.nilptr, V.str []]) := by kernel_rfl
@[simp] theorem by122 : bytesO Tryd.prog 122 = some 40 := by kernel_rfl
@[simp] theorem fo122_0 : fieldO Tryd.prog 122 0 = some (0, 17, 1) := by kernel_rfl
@[simp] theorem fo122_1 : fieldO Tryd.prog 122 1 = some (1, 17, 1) := by kernel_rfl
@[simp] theorem fo122_2 : fieldO Tryd.prog 122 2 = some (2, 17, 1) := by kernel_rfl
@[simp] theorem fo122_3 : fieldO Tryd.prog 122 3 = some (3, 9, 1) := by kernel_rfl
@[simp] theorem sz123 : szO Tryd.prog 123 = some 4 := by kernel_rfl
@[simp] theorem ag123 : isAggO Tryd.prog 123 = some true := by kernel_rfl
@[simp] theorem zc123 : zeroCs Tryd.prog 123 = some [V.nilptr, V.nilptr, V.nilptr, V.str []] := by kernel_rfl
@[simp] theorem pl123 : placesO Tryd.prog 123 = some [(0, 1), (1, 1), (2, 1), (3, 1)] := by kernel_rfl
@[simp] theorem zv123 : zeroV Tryd.prog 123 = some (V.agg [V.nilptr, V.nilptr, V.nilptr, V.str []]) := by kernel_rfl
@[simp] theorem by123 : bytesO Tryd.prog 123 = some 40 := by kernel_rfl
@[simp] theorem fo123_0 : fieldO Tryd.prog 123 0 = some (0, 17, 1) := by kernel_rfl
@[simp] theorem fo123_1 : fieldO Tryd.prog 123 1 = some (1, 17, 1) := by kernel_rfl
@[simp] theorem fo123_2 : fieldO Tryd.prog 123 2 = some (2, 17, 1) := by kernel_rfl
@[simp] theorem fo123_3 : fieldO Tryd.prog 123 3 = some (3, 9, 1) := by kernel_rfl
@[simp] theorem sz124 : szO Tryd.prog 124 = some 0 := by kernel_rfl
@[simp] theorem ag124 : isAggO Tryd.prog 124 = some true := by kernel_rfl
@[simp] theorem zc124 : zeroCs Tryd.prog 124 = some [] := by kernel_rfl
@[simp] theorem zv124 : zeroV Tryd.prog 124 = some (V.agg []) := by kernel_rfl
@[simp] theorem by124 : bytesO Tryd.prog 124 = some 0 := by kernel_rfl
@[simp] theorem sz125 : szO Tryd.prog 125 = some 0 := by kernel_rfl
@[simp] theorem ag125 : isAggO Tryd.prog 125 = some true := by kernel_rfl
@[simp] theorem zc125 : zeroCs Tryd.prog 125 = some [] := by kernel_rfl
@[simp] theorem pl125 : placesO Tryd.prog 125 = some [(0, 0)] := by kernel_rfl
@[simp] theorem zv125 : zeroV Tryd.prog 125 = some (V.agg []) := by kernel_rfl
@[simp] theorem by125 : bytesO Tryd.prog 125 = some 0 := by kernel_rfl
@[simp] theorem fo125_0 : fieldO Tryd.prog 125 0 = some (0, 124, 0) := by kernel_rfl
@[simp] theorem sz126 : szO Tryd.prog 126 = some 0 := by kernel_rfl
@[simp] theorem ag126 : isAggO Tryd.prog 126 = some true := by kernel_rfl
@[simp] theorem zc126 : zeroCs Tryd.prog 126 = some [] := by kernel_rfl
@[simp] theorem pl126 : placesO Tryd.prog 126 = some [(0, 0)] := by kernel_rfl
@[simp] theorem zv126 : zeroV Tryd.prog 126 = some (V.agg []) := by kernel_rfl
@[simp] theorem by126 : bytesO Tryd.prog 126 = some 0 := by kernel_rfl
@[simp] theorem fo126_0 : fieldO Tryd.prog 126 0 = some (0, 124, 0) := by kernel_rfl
@[simp] theorem sz127 : szO Tryd.prog 127 = some 1 := by kernel_rfl
@[simp] theorem ag127 : isAggO Tryd.prog 127 = some false := by kernel_rfl
@[simp] theorem zc127 : zeroCs Tryd.prog 127 = some [V.nilfunc] := by kernel_rfl
@[simp] theorem zv127 : zeroV Tryd.prog 127 = some V.nilfunc := by kernel_rfl
@[simp] theorem by127 : bytesO Tryd.prog 127 = some 8 := by kernel_rfl
@[simp] theorem sz128 : szO Tryd.prog 128 = some 1 := by kernel_rfl
@[simp] theorem ag128 : isAggO Tryd.prog 128 = some false := by kernel_rfl
@[simp] theorem zc128 : zeroCs Tryd.prog 128 = some [V.int IntKind.u32 (0)] := by kernel_rfl
@[simp] theorem zv128 : zeroV Tryd.prog 128 = some (V.int IntKind.u32 (0)) := by kernel_rfl
@[simp] theorem by128 : bytesO Tryd.prog 128 = some 4 := by kernel_rfl
@[simp] theorem sz129 : szO Tryd.prog 129 = some 1 := by kernel_rfl
@[simp] theorem ag129 : isAggO Tryd.prog 129 = some false := by kernel_rfl
@[simp] theorem zc129 : zeroCs Tryd.prog 129 = some [V.int IntKind.u8 (0)] := by kernel_rfl
@[simp] theorem zv129 : zeroV Tryd.prog 129 = some (V.int IntKind.u8 (0)) := by kernel_rfl
@[simp] theorem by129 : bytesO Tryd.prog 129 = some 1 := by kernel_rfl
@[simp] theorem sz130 : szO Tryd.prog 130 = some 1 := by kernel_rfl
@[simp] theorem ag130 : isAggO Tryd.prog 130 = some false := by kernel_rfl
@[simp] theorem zc130 : zeroCs Tryd.prog 130 = some [V.int IntKind.u8 (0)] := by kernel_rfl
@[simp] theorem zv130 : zeroV Tryd.prog 130 = some (V.int IntKind.u8 (0)) := by kernel_rfl
@[simp] theorem by130 : bytesO Tryd.prog 130 = some 1 := by kernel_rfl
@[simp] theorem sz131 : szO Tryd.prog 131 = some 1 := by kernel_rfl
@[simp] theorem ag131 : isAggO Tryd.prog 131 = some false := by kernel_rfl
@[simp] theorem zc131 : zeroCs Tryd.prog 131 = some [V.nilfunc] := by kernel_rfl
@[simp] theorem zv131 : zeroV Tryd.prog 131 = some V.nilfunc := by kernel_rfl
@[simp] theorem by131 : bytesO Tryd.prog 131 = some 8 := by kernel_rfl
@[simp] theorem sz132 : szO Tryd.prog 132 = some 1 := by kernel_rfl
@[simp] theorem ag132 : isAggO Tryd.prog 132 = some false := by kernel_rfl
@[simp] theorem zc132 : zeroCs Tryd.prog 132 = some [V.nilptr] := by kernel_rfl
@[simp] theorem zv132 : zeroV Tryd.prog 132 = some V.nilptr := by kernel_rfl
@[simp] theorem by132 : bytesO Tryd.prog 132 = some 8 := by kernel_rfl
@[simp] theorem sz133 : szO Tryd.prog 133 = some 1 := by kernel_rfl
@[simp] theorem ag133 : isAggO Tryd.prog 133 = some false := by kernel_rfl
@[simp] theorem zc133 : zeroCs Tryd.prog 133 = some [V.int IntKind.i32 (0)] := by kernel_rfl
@[simp] theorem zv133 : zeroV Tryd.prog 133 = some (V.int IntKind.i32 (0)) := by kernel_rfl
@[simp] theorem by133 : bytesO Tryd.prog 133 = some 4 := by kernel_rfl
@[simp] theorem sz134 : szO Tryd.prog 134 = some 1 := by kernel_rfl
@[simp] theorem ag134 : isAggO Tryd.prog 134 = some false := by kernel_rfl
@[simp] theorem zc134 : zeroCs Tryd.prog 134 = some [V.int IntKind.i32 (0)] := by kernel_rfl
@[simp] theorem zv134 : zeroV Tryd.prog 134 = some (V.int IntKind.i32 (0)) := by kernel_rfl
@[simp] theorem by134 : bytesO Tryd.prog 134 = some 4 := by kernel_rfl
@[simp] theorem sz135 : szO Tryd.prog 135 = some 11 := by kernel_rfl
@[simp] theorem ag135 : isAggO Tryd.prog 135 = some true := by kernel_rfl
@[simp] theorem zc135 : zeroCs Tryd.prog 135 = some [V.int IntKind.u64 (0), V.int IntKind.u64 (0), V.int IntKind.u32 (0), V.int IntKind.u8 (0), V.int IntKind.u8 (0), V.int IntKind.u8 (0), V.int IntKind.u8 (0), V.nilfunc, V.nilptr, V.int IntKind.i32 (0), V.int IntKind.i32 (0)] := by kernel_rfl
@[simp] theorem pl135 : placesO Tryd.prog 135 = some [(0, 1), (1, 1), (2, 1), (3, 1), (4, 1), (5, 1), (6, 1), (7, 1), (8, 1), (9, 1), (10, 1)] := by kernel_rfl
@[simp] theorem zv135 : zeroV Tryd.prog 135 = some (V.agg [V.int IntKind.u64 (0), V.int IntKind.u64 (0), V.int IntKind.u32 (0), V.int IntKind.u8 (0), V.int IntKind.u8 (0), V.int IntKind.u8 (0), V.int IntKind.u8 (0), V.nilfunc, V.nilptr, V.int IntKind.i32 (0), V.int IntKind.i32 (0)]) := by kernel_rfl
@[simp] theorem by135 : bytesO Tryd.prog 135 = some 48 := by kernel_rfl
@[simp] theorem fo135_0 : fieldO Tryd.prog 135 0 = some (0, 12, 1) := by kernel_rfl
@[simp] theorem fo135_1 : fieldO Tryd.prog 135 1 = some (1, 12, 1) := by kernel_rfl
@[simp] theorem fo135_2 : fieldO Tryd.prog 135 2 = some (2, 128, 1) := by kernel_rfl
@[simp] theorem fo135_3 : fieldO Tryd.prog 135 3 = some (3, 129, 1) := by kernel_rfl
@[simp] theorem fo135_4 : fieldO Tryd.prog 135 4 = some (4, 5, 1) := by kernel_rfl
@[simp] theorem fo135_5 : fieldO Tryd.prog 135 5 = some (5, 5, 1) := by kernel_rfl
@[simp] theorem fo135_6 : fieldO Tryd.prog 135 6 = some (6, 130, 1) := by kernel_rfl
@[simp] theorem fo135_7 : fieldO Tryd.prog 135 7 = some (7, 131, 1) := by kernel_rfl
@[simp] theorem fo135_8 : fieldO Tryd.prog 135 8 = some (8, 132, 1) := by kernel_rfl
@[simp] theorem fo135_9 : fieldO Tryd.prog 135 9 = some (9, 133, 1) := by kernel_rfl
@[simp] theorem fo135_10 : fieldO Tryd.prog 135 10 = some (10, 134, 1) := by kernel_rfl
@[simp] theorem sz136 : szO Tryd.prog 136 = some 11 := by kernel_rfl
@[simp] theorem ag136 : isAggO Tryd.prog 136 = some true := by kernel_rfl
@[simp] theorem zc136 : zeroCs Tryd.prog 136 = some [V.int IntKind.u64 (0), V.int IntKind.u64 (0), V.int IntKind.u32 (0), V.int IntKind.u8 (0), V.int IntKind.u8 (0), V.int IntKind.u8 (0), V.int IntKind.u8 (0), V.nilfunc, V.nilptr, V.int IntKind.i32 (0), V.int IntKind.i32 (0)] := by kernel_rfl
@[simp] theorem pl136 : placesO Tryd.prog 136 = some [(0, 1), (1, 1), (2, 1), (3, 1), (4, 1), (5, 1), (6, 1), (7, 1), (8, 1), (9, 1), (10, 1)] := by kernel_rfl
@[simp] theorem zv136 : zeroV Tryd.prog 136 = some (V.agg [V.int IntKind.u64 (0), V.int IntKind.u64 (0), V.int IntKind.u32 (0), V.int IntKind.u8 (0), V.int IntKind.u8 (0), V.int IntKind.u8 (0), V.int IntKind.u8 (0), V.nilfunc, V.nilptr, V.int IntKind.i32 (0), V.int IntKind.i32 (0)]) := by kernel_rfl
@[simp] theorem by136 : bytesO Tryd.prog 136 = some 48 := by kernel_rfl
@[simp] theorem fo136_0 : fieldO Tryd.prog 136 0 = some (0, 12, 1) := by kernel_rfl
@[simp] theorem fo136_1 : fieldO Tryd.prog 136 1 = some (1, 12, 1) := by kernel_rfl
@[simp] theorem fo136_2 : fieldO Tryd.prog 136 2 = some (2, 128, 1) := by kernel_rfl
@[simp] theorem fo136_3 : fieldO Tryd.prog 136 3 = some (3, 129, 1) := by kernel_rfl
@[simp] theorem fo136_4 : fieldO Tryd.prog 136 4 = some (4, 5, 1) := by kernel_rfl
@[simp] theorem fo136_5 : fieldO Tryd.prog 136 5 = some (5, 5, 1) := by kernel_rfl
@[simp] theorem fo136_6 : fieldO Tryd.prog 136 6 = some (6, 130, 1) := by kernel_rfl
@[simp] theorem fo136_7 : fieldO Tryd.prog 136 7 = some (7, 131, 1) := by kernel_rfl
@[simp] theorem fo136_8 : fieldO Tryd.prog 136 8 = some (8, 132, 1) := by kernel_rfl
@[simp] theorem fo136_9 : fieldO Tryd.prog 136 9 = some (9, 133, 1) := by kernel_rfl
@[simp] theorem fo136_10 : fieldO Tryd.prog 136 10 = some (10, 134, 1) := by kernel_rfl
@[simp] theorem sz137 : szO Tryd.prog 137 = some 1 := by kernel_rfl
@[simp] theorem ag137 : isAggO Tryd.prog 137 = some false := by kernel_rfl
@[simp] theorem zc137 : zeroCs Tryd.prog 137 = some [V.nilptr] := by kernel_rfl
@[simp] theorem zv137 : zeroV Tryd.prog 137 = some V.nilptr := by kernel_rfl
@[simp] theorem by137 : bytesO Tryd.prog 137 = some 8 := by kernel_rfl
@[simp] theorem ib108 : isBs Tryd.prog 108 = true := by kernel_rfl
@[simp] theorem ibb108 : isBb Tryd.prog 108 = true := by kernel_rfl
@[simp] theorem az74 : arrz Tryd.prog 74 = some (256, 1) := by kernel_rfl
@[simp] theorem az75 : arrz Tryd.prog 75 = some (256, 1) := by kernel_rfl
@[simp] theorem az106 : arrz Tryd.prog 106 = some (2, 1) := by kernel_rfl
@[simp] theorem az117 : arrz Tryd.prog 117 = some (256, 1) := by kernel_rfl
@[simp] theorem az120 : arrz Tryd.prog 120 = some (16, 2) := by kernel_rfl
@[simp] theorem az124 : arrz Tryd.prog 124 = some (0, 1) := by kernel_rfl
@[simp] theorem ap22 : apz Tryd.prog #[22, 22] = some (5, 64) := by kernel_rfl
@[simp] theorem ap25 : apz Tryd.prog #[25, 25] = some (1, 8) := by kernel_rfl
@[simp] theorem ap34 : apz Tryd.prog #[34, 34] = some (1, 16) := by kernel_rfl
@[simp] theorem ap58 : apz Tryd.prog #[58, 58] = some (1, 8) := by kernel_rfl
@[simp] theorem ap65 : apz Tryd.prog #[65, 65] = some (1, 1) := by kernel_rfl
@[simp] theorem ap91 : apz Tryd.prog #[91, 91] = some (2, 16) := by kernel_rfl
@[simp] theorem ap108 : apz Tryd.prog #[108, 108] = some (1, 1) := by kernel_rfl
@[simp] theorem ap113 : apz Tryd.prog #[113, 113] = some (2, 16) := by kernel_rfl
attribute [simp] Tryd.underlying0 Tryd.underlying1 Tryd.underlying2 Tryd.underlying3 Tryd.underlying4 Tryd.underlying5 Tryd.underlying6 Tryd.underlying7 Tryd.underlying8 Tryd.underlying9 Tryd.underlying10 Tryd.underlying11 Tryd.underlying12 Tryd.underlying13 Tryd.underlying14 Tryd.underlying15 Tryd.underlying16 Tryd.underlying17 Tryd.underlying18 Tryd.underlying19 Tryd.underlying20 Tryd.underlying21 Tryd.underlying22 Tryd.underlying23 Tryd.underlying24 Tryd.underlying25 Tryd.underlying26 Tryd.underlying27 Tryd.underlying28 Tryd.underlying29 Tryd.underlying30 Tryd.underlying31 Tryd.underlying32 Tryd.underlying33 Tryd.underlying34 Tryd.underlying35 Tryd.underlying36 Tryd.underlying37 Tryd.underlying38 Tryd.underlying39 Tryd.underlying40 Tryd.underlying41 Tryd.underlying42 Tryd.underlying43 Tryd.underlying44 Tryd.underlying45 Tryd.underlying46 Tryd.underlying47 Tryd.underlying48 Tryd.underlying49 Tryd.underlying50 Tryd.underlying51 Tryd.underlying52 Tryd.underlying53 Tryd.underlying54 Tryd.underlying55 Tryd.underlying56 Tryd.underlying57 Tryd.underlying58 Tryd.underlying59 Tryd.underlying60 Tryd.underlying61 Tryd.underlying62 Tryd.underlying63 Tryd.underlying64 Tryd.underlying65 Tryd.underlying66 Tryd.underlying67 Tryd.underlying68 Tryd.underlying69 Tryd.underlying70 Tryd.underlying71 Tryd.underlying72 Tryd.underlying73 Tryd.underlying74 Tryd.underlying75 Tryd.underlying76 Tryd.underlying77 Tryd.underlying78 Tryd.underlying79 Tryd.underlying80 Tryd.underlying81 Tryd.underlying82 Tryd.underlying83 Tryd.underlying84 Tryd.underlying85 Tryd.underlying86 Tryd.underlying87 Tryd.underlying88 Tryd.underlying89 Tryd.underlying90 Tryd.underlying91 Tryd.underlying92 Tryd.underlying93 Tryd.underlying94 Tryd.underlying95 Tryd.underlying96 Tryd.underlying97 Tryd.underlying98 Tryd.underlying99 Tryd.underlying100 Tryd.underlying101 Tryd.underlying102 Tryd.underlying103 Tryd.underlying104 Tryd.underlying105 Tryd.underlying106 Tryd.underlying107 Tryd.underlying108 Tryd.underlying109 Tryd.underlying110 Tryd.underlying111 Tryd.underlying112 Tryd.underlying113 Tryd.underlying114 Tryd.underlying115 Tryd.underlying116 Tryd.underlying117 Tryd.underlying118 Tryd.underlying119 Tryd.underlying120 Tryd.underlying121 Tryd.underlying122 Tryd.underlying123 Tryd.underlying124 Tryd.underlying125 Tryd.underlying126 Tryd.underlying127 Tryd.underlying128 Tryd.underlying129 Tryd.underlying130 Tryd.underlying131 Tryd.underlying132 Tryd.underlying133 Tryd.underlying134 Tryd.underlying135 Tryd.underlying136 Tryd.underlying137
@[simp] theorem pu3 : cfg.pure 3 = true := rfl
@[simp] theorem pu4 : cfg.pure 4 = true := rfl
@[simp] theorem pu5 : cfg.pure 5 = true := rfl
@[simp] theorem pu6 : cfg.pure 6 = true := rfl
@[simp] theorem pu7 : cfg.pure 7 = true := rfl
@[simp] theorem pu8 : cfg.pure 8 = true := rfl
@[simp] theorem pu9 : cfg.pure 9 = true := rfl
@[simp] theorem pu10 : cfg.pure 10 = true := rfl
@[simp] theorem pu11 : cfg.pure 11 = true := rfl
@[simp] theorem pu12 : cfg.pure 12 = true := rfl
@[simp] theorem pu13 : cfg.pure 13 = true := rfl
@[simp] theorem pu14 : cfg.pure 14 = true := rfl
@[simp] theorem pu15 : cfg.pure 15 = true := rfl
@[simp] theorem pu17 : cfg.pure 17 = true := rfl
@[simp] theorem pu18 : cfg.pure 18 = true := rfl
@[simp] theorem pu19 : cfg.pure 19 = true := rfl
@[simp] theorem pu20 : cfg.pure 20 = true := rfl
@[simp] theorem pu22 : cfg.pure 22 = true := rfl
@[simp] theorem pu23 : cfg.pure 23 = true := rfl
@[simp] theorem pu24 : cfg.pure 24 = true := rfl
@[simp] theorem pu25 : cfg.pure 25 = true := rfl
@[simp] theorem pu26 : cfg.pure 26 = true := rfl
@[simp] theorem pu27 : cfg.pure 27 = true := rfl
@[simp] theorem pu30 : cfg.pure 30 = true := rfl
@[simp] theorem pu37 : cfg.pure 37 = true := rfl
@[simp] theorem pu38 : cfg.pure 38 = true := rfl
@[simp] theorem pu41 : cfg.pure 41 = true := rfl
@[simp] theorem pu43 : cfg.pure 43 = true := rfl
@[simp] theorem pu45 : cfg.pure 45 = true := rfl
@[simp] theorem pu46 : cfg.pure 46 = true := rfl
@[simp] theorem pu51 : cfg.pure 51 = true := rfl
@[simp] theorem pu52 : cfg.pure 52 = true := rfl
@[simp] theorem pu54 : cfg.pure 54 = true := rfl
@[simp] theorem pu55 : cfg.pure 55 = true := rfl
@[simp] theorem pu58 : cfg.pure 58 = true := rfl
@[simp] theorem pu61 : cfg.pure 61 = true := rfl
@[simp] theorem pu62 : cfg.pure 62 = true := rfl
@[simp] theorem pu63 : cfg.pure 63 = true := rfl
@[simp] theorem pu64 : cfg.pure 64 = true := rfl
@[simp] theorem pu69 : cfg.pure 69 = true := rfl
@[simp] theorem pu70 : cfg.pure 70 = true := rfl
@[simp] theorem pu78 : cfg.pure 78 = true := rfl
@[simp] theorem pu79 : cfg.pure 79 = true := rfl
@[simp] theorem pu80 : cfg.pure 80 = true := rfl
@[simp] theorem pu83 : cfg.pure 83 = true := rfl
@[simp] theorem pu87 : cfg.pure 87 = true := rfl
@[simp] theorem I16 {k : CC} {K : List Fr} {Q : Ax → St → Prop} {fi ca ar : List V} {h : Heap} (hl : (fi ++ ar ++ ca).length ≤ 12) : wk cfg k K Q (Ci cfg (.func (.func 16) fi ca) ar h) = wp cfg (codeOf Tryd.f16) ⟨tab 12 (lf (fi ++ ar ++ ca)), h, [], .no, none⟩ (.call ([ResultVar.tmp 2]) k :: K) Q := wk_fun cfg rfl Tryd.func16 rfl hl
@[simp] theorem I21 {k : CC} {K : List Fr} {Q : Ax → St → Prop} {fi ca ar : List V} {h : Heap} (hl : (fi ++ ar ++ ca).length ≤ 15) : wk cfg k K Q (Ci cfg (.func (.func 21) fi ca) ar h) = wp cfg (codeOf Tryd.f21) ⟨tab 15 (lf (fi ++ ar ++ ca)), h, [], .no, none⟩ (.call ([ResultVar.tmp 6]) k :: K) Q := wk_fun cfg rfl Tryd.func21 rfl hl
@[simp] theorem I28 {k : CC} {K : List Fr} {Q : Ax → St → Prop} {fi ca ar : List V} {h : Heap} (hl : (fi ++ ar ++ ca).length ≤ 9) : wk cfg k K Q (Ci cfg (.func (.func 28) fi ca) ar h) = wp cfg (codeOf Tryd.f28) ⟨tab 9 (lf (fi ++ ar ++ ca)), h, [], .no, none⟩ (.call ([ResultVar.tmp 5]) k :: K) Q := wk_fun cfg rfl Tryd.func28 rfl hl
@[simp] theorem I29 {k : CC} {K : List Fr} {Q : Ax → St → Prop} {fi ca ar : List V} {h : Heap} (hl : (fi ++ ar ++ ca).length ≤ 20) : wk cfg k K Q (Ci cfg (.func (.func 29) fi ca) ar h) = wp cfg (codeOf Tryd.f29) ⟨tab 20 (lf (fi ++ ar ++ ca)), h, [], .no, none⟩ (.call ([ResultVar.tmp 5]) k :: K) Q := wk_fun cfg rfl Tryd.func29 rfl hl
@[simp] theorem I31 {k : CC} {K : List Fr} {Q : Ax → St → Prop} {fi ca ar : List V} {h : Heap} (hl : (fi ++ ar ++ ca).length ≤ 11) : wk cfg k K Q (Ci cfg (.func (.func 31) fi ca) ar h) = wp cfg (codeOf Tryd.f31) ⟨tab 11 (lf (fi ++ ar ++ ca)), h, [], .no, none⟩ (.call ([ResultVar.tmp 5]) k :: K) Q := wk_fun cfg rfl Tryd.func31 rfl hl
@[simp] theorem I32 {k : CC} {K : List Fr} {Q : Ax → St → Prop} {fi ca ar : List V} {h : Heap} (hl : (fi ++ ar ++ ca).length ≤ 21) : wk cfg k K Q (Ci cfg (.func (.func 32) fi ca) ar h) = wp cfg (codeOf Tryd.f32) ⟨tab 21 (lf (fi ++ ar ++ ca)), h, [], .no, none⟩ (.call ([ResultVar.tmp 6]) k :: K) Q := wk_fun cfg rfl Tryd.func32 rfl hl
@[simp] theorem I33 {k : CC} {K : List Fr} {Q : Ax → St → Prop} {fi ca ar : List V} {h : Heap} (hl : (fi ++ ar ++ ca).length ≤ 18) : wk cfg k K Q (Ci cfg (.func (.func 33) fi ca) ar h) = wp cfg (codeOf Tryd.f33) ⟨tab 18 (lf (fi ++ ar ++ ca)), h, [], .no, none⟩ (.call ([ResultVar.tmp 5]) k :: K) Q := wk_fun cfg rfl Tryd.func33 rfl hl
@[simp] theorem I34 {k : CC} {K : List Fr} {Q : Ax → St → Prop} {fi ca ar : List V} {h : Heap} (hl : (fi ++ ar ++ ca).length ≤ 28) : wk cfg k K Q (Ci cfg (.func (.func 34) fi ca) ar h) = wp cfg (codeOf Tryd.f34) ⟨tab 28 (lf (fi ++ ar ++ ca)), h, [], .no, none⟩ (.call ([]) k :: K) Q := wk_fun cfg rfl Tryd.func34 rfl hl
@[simp] theorem I35 {k : CC} {K : List Fr} {Q : Ax → St → Prop} {fi ca ar : List V} {h : Heap} (hl : (fi ++ ar ++ ca).length ≤ 19) : wk cfg k K Q (Ci cfg (.func (.func 35) fi ca) ar h) = wp cfg (codeOf Tryd.f35) ⟨tab 19 (lf (fi ++ ar ++ ca)), h, [], .no, none⟩ (.call ([ResultVar.tmp 4]) k :: K) Q := wk_fun cfg rfl Tryd.func35 rfl hl
@[simp] theorem I36 {k : CC} {K : List Fr} {Q : Ax → St → Prop} {fi ca ar : List V} {h : Heap} (hl : (fi ++ ar ++ ca).length ≤ 9) : wk cfg k K Q (Ci cfg (.func (.func 36) fi ca) ar h) = wp cfg (codeOf Tryd.f36) ⟨tab 9 (lf (fi ++ ar ++ ca)), h, [], .no, none⟩ (.call ([ResultVar.tmp 4]) k :: K) Q := wk_fun cfg rfl Tryd.func36 rfl hl
@[simp] theorem I39 {k : CC} {K : List Fr} {Q : Ax → St → Prop} {fi ca ar : List V} {h : Heap} (hl : (fi ++ ar ++ ca).length ≤ 19) : wk cfg k K Q (Ci cfg (.func (.func 39) fi ca) ar h) = wp cfg (codeOf Tryd.f39) ⟨tab 19 (lf (fi ++ ar ++ ca)), h, [], .no, none⟩ (.call ([]) k :: K) Q := wk_fun cfg rfl Tryd.func39 rfl hl
@[simp] theorem I40 {k : CC} {K : List Fr} {Q : Ax → St → Prop} {fi ca ar : List V} {h : Heap} (hl : (fi ++ ar ++ ca).length ≤ 41) : wk cfg k K Q (Ci cfg (.func (.func 40) fi ca) ar h) = wp cfg (codeOf Tryd.f40) ⟨tab 41 (lf (fi ++ ar ++ ca)), h, [], .no, none⟩ (.call ([]) k :: K) Q := wk_fun cfg rfl Tryd.func40 rfl hl
@[simp] theorem I42 {k : CC} {K : List Fr} {Q : Ax → St → Prop} {fi ca ar : List V} {h : Heap} (hl : (fi ++ ar ++ ca).length ≤ 55) : wk cfg k K Q (Ci cfg (.func (.func 42) fi ca) ar h) = wp cfg (codeOf Tryd.f42) ⟨tab 55 (lf (fi ++ ar ++ ca)), h, [], .no, none⟩ (.call ([ResultVar.tmp 4]) k :: K) Q := wk_fun cfg rfl Tryd.func42 rfl hl
@[simp] theorem I44 {k : CC} {K : List Fr} {Q : Ax → St → Prop} {fi ca ar : List V} {h : Heap} (hl : (fi ++ ar ++ ca).length ≤ 8) : wk cfg k K Q (Ci cfg (.func (.func 44) fi ca) ar h) = wp cfg (codeOf Tryd.f44) ⟨tab 8 (lf (fi ++ ar ++ ca)), h, [], .no, none⟩ (.call ([]) k :: K) Q := wk_fun cfg rfl Tryd.func44 rfl hl
@[simp] theorem I47 {k : CC} {K : List Fr} {Q : Ax → St → Prop} {fi ca ar : List V} {h : Heap} (hl : (fi ++ ar ++ ca).length ≤ 187) : wk cfg k K Q (Ci cfg (.func (.func 47) fi ca) ar h) = wp cfg (codeOf Tryd.f47) ⟨tab 187 (lf (fi ++ ar ++ ca)), h, [], .no, none⟩ (.call ([ResultVar.tmp 4]) k :: K) Q := wk_fun cfg rfl Tryd.func47 rfl hl
@[simp] theorem I48 {k : CC} {K : List Fr} {Q : Ax → St → Prop} {fi ca ar : List V} {h : Heap} (hl : (fi ++ ar ++ ca).length ≤ 5) : wk cfg k K Q (Ci cfg (.func (.func 48) fi ca) ar h) = wp cfg (codeOf Tryd.f48) ⟨tab 5 (lf (fi ++ ar ++ ca)), h, [], .no, none⟩ (.call ([ResultVar.tmp 2]) k :: K) Q := wk_fun cfg rfl Tryd.func48 rfl hl
@[simp] theorem I49 {k : CC} {K : List Fr} {Q : Ax → St → Prop} {fi ca ar : List V} {h : Heap} (hl : (fi ++ ar ++ ca).length ≤ 21) : wk cfg k K Q (Ci cfg (.func (.func 49) fi ca) ar h) = wp cfg (codeOf Tryd.f49) ⟨tab 21 (lf (fi ++ ar ++ ca)), h, [], .no, none⟩ (.call ([ResultVar.cell 2 75, ResultVar.tmp 3]) k :: K) Q := wk_fun cfg rfl Tryd.func49 rfl hl
@[simp] theorem I50 {k : CC} {K : List Fr} {Q : Ax → St → Prop} {fi ca ar : List V} {h : Heap} (hl : (fi ++ ar ++ ca).length ≤ 10) : wk cfg k K Q (Ci cfg (.func (.func 50) fi ca) ar h) = wp cfg (codeOf Tryd.f50) ⟨tab 10 (lf (fi ++ ar ++ ca)), h, [], .no, none⟩ (.call ([ResultVar.tmp 4]) k :: K) Q := wk_fun cfg rfl Tryd.func50 rfl hl
@[simp] theorem I53 {k : CC} {K : List Fr} {Q : Ax → St → Prop} {fi ca ar : List V} {h : Heap} (hl : (fi ++ ar ++ ca).length ≤ 18) : wk cfg k K Q (Ci cfg (.func (.func 53) fi ca) ar h) = wp cfg (codeOf Tryd.f53) ⟨tab 18 (lf (fi ++ ar ++ ca)), h, [], .no, none⟩ (.call ([ResultVar.tmp 3]) k :: K) Q := wk_fun cfg rfl Tryd.func53 rfl hl
@[simp] theorem I56 {k : CC} {K : List Fr} {Q : Ax → St → Prop} {fi ca ar : List V} {h : Heap} (hl : (fi ++ ar ++ ca).length ≤ 9) : wk cfg k K Q (Ci cfg (.func (.func 56) fi ca) ar h) = wp cfg (codeOf Tryd.f56) ⟨tab 9 (lf (fi ++ ar ++ ca)), h, [], .no, none⟩ (.call ([ResultVar.tmp 4]) k :: K) Q := wk_fun cfg rfl Tryd.func56 rfl hl
@[simp] theorem I57 {k : CC} {K : List Fr} {Q : Ax → St → Prop} {fi ca ar : List V} {h : Heap} (hl : (fi ++ ar ++ ca).length ≤ 8) : wk cfg k K Q (Ci cfg (.func (.func 57) fi ca) ar h) = wp cfg (codeOf Tryd.f57) ⟨tab 8 (lf (fi ++ ar ++ ca)), h, [], .no, none⟩ (.call ([ResultVar.tmp 4]) k :: K) Q := wk_fun cfg rfl Tryd.func57 rfl hl
@[simp] theorem I59 {k : CC} {K : List Fr} {Q : Ax → St → Prop} {fi ca ar : List V} {h : Heap} (hl : (fi ++ ar ++ ca).length ≤ 6) : wk cfg k K Q (Ci cfg (.func (.func 59) fi ca) ar h) = wp cfg (codeOf Tryd.f59) ⟨tab 6 (lf (fi ++ ar ++ ca)), h, [], .no, none⟩ (.call ([ResultVar.tmp 2]) k :: K) Q := wk_fun cfg rfl Tryd.func59 rfl hl
@[simp] theorem I65 {k : CC} {K : List Fr} {Q : Ax → St → Prop} {fi ca ar : List V} {h : Heap} (hl : (fi ++ ar ++ ca).length ≤ 9) : wk cfg k K Q (Ci cfg (.func (.func 65) fi ca) ar h) = wp cfg (codeOf Tryd.f65) ⟨tab 9 (lf (fi ++ ar ++ ca)), h, [], .no, none⟩ (.call ([ResultVar.tmp 4]) k :: K) Q := wk_fun cfg rfl Tryd.func65 rfl hl
@[simp] theorem I66 {k : CC} {K : List Fr} {Q : Ax → St → Prop} {fi ca ar : List V} {h : Heap} (hl : (fi ++ ar ++ ca).length ≤ 20) : wk cfg k K Q (Ci cfg (.func (.func 66) fi ca) ar h) = wp cfg (codeOf Tryd.f66) ⟨tab 20 (lf (fi ++ ar ++ ca)), h, [], .no, none⟩ (.call ([ResultVar.tmp 0]) k :: K) Q := wk_fun cfg rfl Tryd.func66 rfl hl
@[simp] theorem I67 {k : CC} {K : List Fr} {Q : Ax → St → Prop} {fi ca ar : List V} {h : Heap} (hl : (fi ++ ar ++ ca).length ≤ 19) : wk cfg k K Q (Ci cfg (.func (.func 67) fi ca) ar h) = wp cfg (codeOf Tryd.f67) ⟨tab 19 (lf (fi ++ ar ++ ca)), h, [], .no, none⟩ (.call ([ResultVar.tmp 4]) k :: K) Q := wk_fun cfg rfl Tryd.func67 rfl hl
@[simp] theorem I68 {k : CC} {K : List Fr} {Q : Ax → St → Prop} {fi ca ar : List V} {h : Heap} (hl : (fi ++ ar ++ ca).length ≤ 8) : wk cfg k K Q (Ci cfg (.func (.func 68) fi ca) ar h) = wp cfg (codeOf Tryd.f68) ⟨tab 8 (lf (fi ++ ar ++ ca)), h, [], .no, none⟩ (.call ([ResultVar.tmp 4]) k :: K) Q := wk_fun cfg rfl Tryd.func68 rfl hl
@[simp] theorem I71 {k : CC} {K : List Fr} {Q : Ax → St → Prop} {fi ca ar : List V} {h : Heap} (hl : (fi ++ ar ++ ca).length ≤ 16) : wk cfg k K Q (Ci cfg (.func (.func 71) fi ca) ar h) = wp cfg (codeOf Tryd.f71) ⟨tab 16 (lf (fi ++ ar ++ ca)), h, [], .no, none⟩ (.call ([]) k :: K) Q := wk_fun cfg rfl Tryd.func71 rfl hl
@[simp] theorem I72 {k : CC} {K : List Fr} {Q : Ax → St → Prop} {fi ca ar : List V} {h : Heap} (hl : (fi ++ ar ++ ca).length ≤ 5) : wk cfg k K Q (Ci cfg (.func (.func 72) fi ca) ar h) = wp cfg (codeOf Tryd.f72) ⟨tab 5 (lf (fi ++ ar ++ ca)), h, [], .no, none⟩ (.call ([ResultVar.tmp 2]) k :: K) Q := wk_fun cfg rfl Tryd.func72 rfl hl
@[simp] theorem I73 {k : CC} {K : List Fr} {Q : Ax → St → Prop} {fi ca ar : List V} {h : Heap} (hl : (fi ++ ar ++ ca).length ≤ 4) : wk cfg k K Q (Ci cfg (.func (.func 73) fi ca) ar h) = wp cfg (codeOf Tryd.f73) ⟨tab 4 (lf (fi ++ ar ++ ca)), h, [], .no, none⟩ (.call ([ResultVar.tmp 2]) k :: K) Q := wk_fun cfg rfl Tryd.func73 rfl hl
@[simp] theorem I74 {k : CC} {K : List Fr} {Q : Ax → St → Prop} {fi ca ar : List V} {h : Heap} (hl : (fi ++ ar ++ ca).length ≤ 19) : wk cfg k K Q (Ci cfg (.func (.func 74) fi ca) ar h) = wp cfg (codeOf Tryd.f74) ⟨tab 19 (lf (fi ++ ar ++ ca)), h, [], .no, none⟩ (.call ([ResultVar.tmp 4]) k :: K) Q := wk_fun cfg rfl Tryd.func74 rfl hl
@[simp] theorem I75 {k : CC} {K : List Fr} {Q : Ax → St → Prop} {fi ca ar : List V} {h : Heap} (hl : (fi ++ ar ++ ca).length ≤ 17) : wk cfg k K Q (Ci cfg (.func (.func 75) fi ca) ar h) = wp cfg (codeOf Tryd.f75) ⟨tab 17 (lf (fi ++ ar ++ ca)), h, [], .no, none⟩ (.call ([ResultVar.tmp 2]) k :: K) Q := wk_fun cfg rfl Tryd.func75 rfl hl
@[simp] theorem I76 {k : CC} {K : List Fr} {Q : Ax → St → Prop} {fi ca ar : List V} {h : Heap} (hl : (fi ++ ar ++ ca).length ≤ 4) : wk cfg k K Q (Ci cfg (.func (.func 76) fi ca) ar h) = wp cfg (codeOf Tryd.f76) ⟨tab 4 (lf (fi ++ ar ++ ca)), h, [], .no, none⟩ (.call ([ResultVar.tmp 2]) k :: K) Q := wk_fun cfg rfl Tryd.func76 rfl hl
@[simp] theorem I81 {k : CC} {K : List Fr} {Q : Ax → St → Prop} {fi ca ar : List V} {h : Heap} (hl : (fi ++ ar ++ ca).length ≤ 13) : wk cfg k K Q (Ci cfg (.func (.func 81) fi ca) ar h) = wp cfg (codeOf Tryd.f81) ⟨tab 13 (lf (fi ++ ar ++ ca)), h, [], .no, none⟩ (.call ([ResultVar.tmp 4]) k :: K) Q := wk_fun cfg rfl Tryd.func81 rfl hl
@[simp] theorem I82 {k : CC} {K : List Fr} {Q : Ax → St → Prop} {fi ca ar : List V} {h : Heap} (hl : (fi ++ ar ++ ca).length ≤ 29) : wk cfg k K Q (Ci cfg (.func (.func 82) fi ca) ar h) = wp cfg (codeOf Tryd.f82) ⟨tab 29 (lf (fi ++ ar ++ ca)), h, [], .no, none⟩ (.call ([]) k :: K) Q := wk_fun cfg rfl Tryd.func82 rfl hl
@[simp] theorem I84 {k : CC} {K : List Fr} {Q : Ax → St → Prop} {fi ca ar : List V} {h : Heap} (hl : (fi ++ ar ++ ca).length ≤ 7) : wk cfg k K Q (Ci cfg (.func (.func 84) fi ca) ar h) = wp cfg (codeOf Tryd.f84) ⟨tab 7 (lf (fi ++ ar ++ ca)), h, [], .no, none⟩ (.call ([ResultVar.tmp 3]) k :: K) Q := wk_fun cfg rfl Tryd.func84 rfl hl
@[simp] theorem I85 {k : CC} {K : List Fr} {Q : Ax → St → Prop} {fi ca ar : List V} {h : Heap} (hl : (fi ++ ar ++ ca).length ≤ 9) : wk cfg k K Q (Ci cfg (.func (.func 85) fi ca) ar h) = wp cfg (codeOf Tryd.f85) ⟨tab 9 (lf (fi ++ ar ++ ca)), h, [], .no, none⟩ (.call ([ResultVar.tmp 4]) k :: K) Q := wk_fun cfg rfl Tryd.func85 rfl hl
@[simp] theorem I86 {k : CC} {K : List Fr} {Q : Ax → St → Prop} {fi ca ar : List V} {h : Heap} (hl : (fi ++ ar ++ ca).length ≤ 14) : wk cfg k K Q (Ci cfg (.func (.func 86) fi ca) ar h) = wp cfg (codeOf Tryd.f86) ⟨tab 14 (lf (fi ++ ar ++ ca)), h, [], .no, none⟩ (.call ([ResultVar.tmp 3]) k :: K) Q := wk_fun cfg rfl Tryd.func86 rfl hl
@[simp] theorem I88 {k : CC} {K : List Fr} {Q : Ax → St → Prop} {fi ca ar : List V} {h : Heap} (hl : (fi ++ ar ++ ca).length ≤ 19) : wk cfg k K Q (Ci cfg (.func (.func 88) fi ca) ar h) = wp cfg (codeOf Tryd.f88) ⟨tab 19 (lf (fi ++ ar ++ ca)), h, [], .no, none⟩ (.call ([ResultVar.tmp 4]) k :: K) Q := wk_fun cfg rfl Tryd.func88 rfl hl
@[simp] theorem I109 {k : CC} {K : List Fr} {Q : Ax → St → Prop} {fi ca ar : List V} {h : Heap} (hl : (fi ++ ar ++ ca).length ≤ 6) : wk cfg k K Q (Ci cfg (.func (.func 109) fi ca) ar h) = wp cfg (codeOf Tryd.f109) ⟨tab 6 (lf (fi ++ ar ++ ca)), h, [], .no, none⟩ (.call ([]) k :: K) Q := wk_fun cfg rfl Tryd.func109 rfl hl
end Go.Ab
