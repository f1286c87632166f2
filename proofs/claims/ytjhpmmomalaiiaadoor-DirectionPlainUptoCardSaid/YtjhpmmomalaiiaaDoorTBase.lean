/- The seat's base: how her program is run, and facts of her types. -/
import Derived.Test.YtjhpmmomalaiiaaDoorAbsD
import Derived.Test.YtjhpmmomalaiiaaDoorAbsC
import Derived.Test.YtjhpmmomalaiiaaDoorRows
set_option linter.unusedVariables false
set_option linter.unusedSimpArgs false
set_option linter.unusedSectionVars false
set_option linter.deprecated false
namespace Go.Ab
open Go.Proofs
set_option maxRecDepth 100000
def pureL : List Nat := [3, 4, 5, 6, 7, 8, 9, 10, 11, 12, 13, 14, 15, 16, 17, 18, 19, 20, 21, 22, 23, 24, 28, 29, 32, 33, 34, 35, 36, 41, 44, 45, 46, 51, 53, 57]
noncomputable def globs : Nat → Option (List V) := fun g => if g = 0 then some (dV Go.Pinned.utf8First) else if g = 1 then some (dV (H := Unit) Go.Proofs.YtjhpmmomalaiiaaDoor.Rows.laid_unicode_utf8_acceptRanges) else none
noncomputable def cfg0 : Cfg where
  P := Tryd.prog
  pure := fun f => pureL.contains f
  ext := ext0
  kill := false
  glob := globs
  blk := fun p => ["direction.go:80", "ref.go:63", "slices.go:362"].contains p
  mrow := fun p => [].contains p
  bsl := fun p => [].contains p
def extE (f : FuncId) (xs : List V) : Option CRes := if [].contains f then (match xs with
  | [.row false false [] 0 none] => some (.ret (.row false false [] 0 none))
  | _ => none) else none
noncomputable def cfg : Cfg := { cfg0 with ext := extE }
@[simp] theorem cfgP : cfg.P = Tryd.prog := rfl
@[simp] theorem cfgG : cfg.glob = globs := rfl
theorem cfgp (f : FuncId) : cfg.pure f = pureL.contains f := rfl
@[simp] theorem cfgK : cfg.kill = false := rfl
@[simp] theorem cfgB (p : String) : cfg.blk p = ["direction.go:80", "ref.go:63", "slices.go:362"].contains p := rfl
@[simp] theorem cfgM (p : String) : cfg.mrow p = [].contains p := rfl
@[simp] theorem cfgS (p : String) : cfg.bsl p = [].contains p := rfl
theorem hP : PrOk Tryd.prog := prOk_of (by kernel_rfl) (by kernel_rfl)
/-- what is said of a function -/
abbrev PS (f : FuncId) (xs : List V) (r : CRes) : Prop := PSim Tryd.prog globs f xs r
theorem hX : ExtOk cfg := by
  intro f xs r h
  change extE f xs = some r at h
  unfold extE at h
  split at h
  · rename_i hf
    split at h
    · simp only [Option.some.injEq] at h
      subst h
      simp at hf
    · cases h
  · cases h
theorem ps_of {f : FuncId} {xs : List V} {r : CRes} (h : Kc cfg f xs r) : PS f xs r := psim_of_inf (c := cfg) hP hX h
/-- by the kernel alone -/
theorem kc_run {f : FuncId} {xs : List V} {r : CRes} {n : Nat} (h : outS (bodyS cfg (run cfg n).E (run cfg n).D f xs emptyH) = some r) : Kc cfg f xs r := by
  unfold Kc
  cases hb : bodyS cfg (run cfg n).E (run cfg n).D f xs emptyH with
  | none => rw [hb] at h; cases h
  | some y =>
    have hD : DAp (fun _ => Di cfg) (run cfg n).D := fun f a h p r hd => ⟨0, fun _ _ => Di_some.2 ⟨n, hd⟩⟩
    obtain ⟨N, hN⟩ := bodyS_ap (Ei_up cfg n) hD hb
    rw [hN N (Nat.le_refl _), ← hb]
    exact h
@[simp] theorem dn_loop_exit' {s : St} {b : Code} {K : List Fr} {Q : Ax → St → Prop} (i : Nat) : dn cfg (.exit i) s (.loop b :: K) Q = dn cfg (.exit i) s K Q := dn_loop_exit cfg rfl i
@[simp] theorem dn_loop_ret' {s : St} {b : Code} {K : List Fr} {Q : Ax → St → Prop} : dn cfg .ret s (.loop b :: K) Q = dn cfg .ret s K Q := dn_loop_ret cfg rfl
@[simp] theorem dn_loop_panic' {s : St} {b : Code} {K : List Fr} {Q : Ax → St → Prop} (v : V) : dn cfg (.panic v) s (.loop b :: K) Q = dn cfg (.panic v) s K Q := dn_loop_panic cfg rfl v
@[simp] theorem sz0 : szO Tryd.prog 0 = some 1 := by kernel_rfl
@[simp] theorem ag0 : isAggO Tryd.prog 0 = some false := by kernel_rfl
@[simp] theorem by0 : bytesO Tryd.prog 0 = some 0 := by kernel_rfl
@[simp] theorem sz1 : szO Tryd.prog 1 = some 1 := by kernel_rfl
@[simp] theorem ag1 : isAggO Tryd.prog 1 = some false := by kernel_rfl
@[simp] theorem zc1 : zeroCs Tryd.prog 1 = some [V.nilfunc] := by kernel_rfl
@[simp] theorem zv1 : zeroV Tryd.prog 1 = some V.nilfunc := by kernel_rfl
@[simp] theorem by1 : bytesO Tryd.prog 1 = some 8 := by kernel_rfl
@[simp] theorem sz2 : szO Tryd.prog 2 = some 1 := by kernel_rfl
@[simp] theorem ag2 : isAggO Tryd.prog 2 = some false := by kernel_rfl
@[simp] theorem zc2 : zeroCs Tryd.prog 2 = some [V.int IntKind.i64 (0)] := by kernel_rfl
@[simp] theorem zv2 : zeroV Tryd.prog 2 = some (V.int IntKind.i64 (0)) := by kernel_rfl
@[simp] theorem by2 : bytesO Tryd.prog 2 = some 8 := by kernel_rfl
@[simp] theorem sz3 : szO Tryd.prog 3 = some 1 := by kernel_rfl
@[simp] theorem ag3 : isAggO Tryd.prog 3 = some false := by kernel_rfl
@[simp] theorem zc3 : zeroCs Tryd.prog 3 = some [V.int IntKind.i64 (0)] := by kernel_rfl
@[simp] theorem zv3 : zeroV Tryd.prog 3 = some (V.int IntKind.i64 (0)) := by kernel_rfl
@[simp] theorem by3 : bytesO Tryd.prog 3 = some 8 := by kernel_rfl
@[simp] theorem sz4 : szO Tryd.prog 4 = some 1 := by kernel_rfl
@[simp] theorem ag4 : isAggO Tryd.prog 4 = some false := by kernel_rfl
@[simp] theorem zc4 : zeroCs Tryd.prog 4 = some [V.bool false] := by kernel_rfl
@[simp] theorem zv4 : zeroV Tryd.prog 4 = some (V.bool false) := by kernel_rfl
@[simp] theorem by4 : bytesO Tryd.prog 4 = some 1 := by kernel_rfl
@[simp] theorem sz5 : szO Tryd.prog 5 = some 1 := by kernel_rfl
@[simp] theorem ag5 : isAggO Tryd.prog 5 = some false := by kernel_rfl
@[simp] theorem zc5 : zeroCs Tryd.prog 5 = some [V.int IntKind.u8 (0)] := by kernel_rfl
@[simp] theorem zv5 : zeroV Tryd.prog 5 = some (V.int IntKind.u8 (0)) := by kernel_rfl
@[simp] theorem by5 : bytesO Tryd.prog 5 = some 1 := by kernel_rfl
@[simp] theorem sz6 : szO Tryd.prog 6 = some 1 := by kernel_rfl
@[simp] theorem ag6 : isAggO Tryd.prog 6 = some false := by kernel_rfl
@[simp] theorem zc6 : zeroCs Tryd.prog 6 = some [V.int IntKind.u8 (0)] := by kernel_rfl
@[simp] theorem zv6 : zeroV Tryd.prog 6 = some (V.int IntKind.u8 (0)) := by kernel_rfl
@[simp] theorem by6 : bytesO Tryd.prog 6 = some 1 := by kernel_rfl
@[simp] theorem sz7 : szO Tryd.prog 7 = some 4 := by kernel_rfl
@[simp] theorem ag7 : isAggO Tryd.prog 7 = some true := by kernel_rfl
@[simp] theorem zc7 : zeroCs Tryd.prog 7 = some [V.int IntKind.i64 (0), V.int IntKind.i64 (0), V.bool false, V.int IntKind.u8 (0)] := by kernel_rfl
@[simp] theorem pl7 : placesO Tryd.prog 7 = some [(0, 1), (1, 1), (2, 1), (3, 1)] := by kernel_rfl
@[simp] theorem zv7 : zeroV Tryd.prog 7 = some (V.agg [V.int IntKind.i64 (0), V.int IntKind.i64 (0), V.bool false, V.int IntKind.u8 (0)]) := by kernel_rfl
@[simp] theorem by7 : bytesO Tryd.prog 7 = some 24 := by kernel_rfl
@[simp] theorem fo7_0 : fieldO Tryd.prog 7 0 = some (0, 2, 1) := by kernel_rfl
@[simp] theorem fo7_1 : fieldO Tryd.prog 7 1 = some (1, 3, 1) := by kernel_rfl
@[simp] theorem fo7_2 : fieldO Tryd.prog 7 2 = some (2, 4, 1) := by kernel_rfl
@[simp] theorem fo7_3 : fieldO Tryd.prog 7 3 = some (3, 6, 1) := by kernel_rfl
@[simp] theorem sz8 : szO Tryd.prog 8 = some 4 := by kernel_rfl
@[simp] theorem ag8 : isAggO Tryd.prog 8 = some true := by kernel_rfl
@[simp] theorem zc8 : zeroCs Tryd.prog 8 = some [V.int IntKind.i64 (0), V.int IntKind.i64 (0), V.bool false, V.int IntKind.u8 (0)] := by kernel_rfl
@[simp] theorem pl8 : placesO Tryd.prog 8 = some [(0, 1), (1, 1), (2, 1), (3, 1)] := by kernel_rfl
@[simp] theorem zv8 : zeroV Tryd.prog 8 = some (V.agg [V.int IntKind.i64 (0), V.int IntKind.i64 (0), V.bool false, V.int IntKind.u8 (0)]) := by kernel_rfl
@[simp] theorem by8 : bytesO Tryd.prog 8 = some 24 := by kernel_rfl
@[simp] theorem fo8_0 : fieldO Tryd.prog 8 0 = some (0, 2, 1) := by kernel_rfl
@[simp] theorem fo8_1 : fieldO Tryd.prog 8 1 = some (1, 3, 1) := by kernel_rfl
@[simp] theorem fo8_2 : fieldO Tryd.prog 8 2 = some (2, 4, 1) := by kernel_rfl
@[simp] theorem fo8_3 : fieldO Tryd.prog 8 3 = some (3, 6, 1) := by kernel_rfl
@[simp] theorem sz9 : szO Tryd.prog 9 = some 1 := by kernel_rfl
@[simp] theorem ag9 : isAggO Tryd.prog 9 = some false := by kernel_rfl
@[simp] theorem zc9 : zeroCs Tryd.prog 9 = some [V.str []] := by kernel_rfl
@[simp] theorem zv9 : zeroV Tryd.prog 9 = some (V.str []) := by kernel_rfl
@[simp] theorem by9 : bytesO Tryd.prog 9 = some 16 := by kernel_rfl
@[simp] theorem sz10 : szO Tryd.prog 10 = some 1 := by kernel_rfl
@[simp] theorem ag10 : isAggO Tryd.prog 10 = some false := by kernel_rfl
@[simp] theorem zc10 : zeroCs Tryd.prog 10 = some [V.str []] := by kernel_rfl
@[simp] theorem zv10 : zeroV Tryd.prog 10 = some (V.str []) := by kernel_rfl
@[simp] theorem by10 : bytesO Tryd.prog 10 = some 16 := by kernel_rfl
@[simp] theorem sz11 : szO Tryd.prog 11 = some 1 := by kernel_rfl
@[simp] theorem ag11 : isAggO Tryd.prog 11 = some false := by kernel_rfl
@[simp] theorem zc11 : zeroCs Tryd.prog 11 = some [V.str []] := by kernel_rfl
@[simp] theorem zv11 : zeroV Tryd.prog 11 = some (V.str []) := by kernel_rfl
@[simp] theorem by11 : bytesO Tryd.prog 11 = some 16 := by kernel_rfl
@[simp] theorem sz12 : szO Tryd.prog 12 = some 1 := by kernel_rfl
@[simp] theorem ag12 : isAggO Tryd.prog 12 = some false := by kernel_rfl
@[simp] theorem zc12 : zeroCs Tryd.prog 12 = some [V.int IntKind.u64 (0)] := by kernel_rfl
@[simp] theorem zv12 : zeroV Tryd.prog 12 = some (V.int IntKind.u64 (0)) := by kernel_rfl
@[simp] theorem by12 : bytesO Tryd.prog 12 = some 8 := by kernel_rfl
@[simp] theorem sz13 : szO Tryd.prog 13 = some 2 := by kernel_rfl
@[simp] theorem ag13 : isAggO Tryd.prog 13 = some true := by kernel_rfl
@[simp] theorem zc13 : zeroCs Tryd.prog 13 = some [V.str [], V.int IntKind.u64 (0)] := by kernel_rfl
@[simp] theorem pl13 : placesO Tryd.prog 13 = some [(0, 1), (1, 1)] := by kernel_rfl
@[simp] theorem zv13 : zeroV Tryd.prog 13 = some (V.agg [V.str [], V.int IntKind.u64 (0)]) := by kernel_rfl
@[simp] theorem by13 : bytesO Tryd.prog 13 = some 24 := by kernel_rfl
@[simp] theorem fo13_0 : fieldO Tryd.prog 13 0 = some (0, 9, 1) := by kernel_rfl
@[simp] theorem fo13_1 : fieldO Tryd.prog 13 1 = some (1, 12, 1) := by kernel_rfl
@[simp] theorem sz14 : szO Tryd.prog 14 = some 2 := by kernel_rfl
@[simp] theorem ag14 : isAggO Tryd.prog 14 = some true := by kernel_rfl
@[simp] theorem zc14 : zeroCs Tryd.prog 14 = some [V.str [], V.int IntKind.u64 (0)] := by kernel_rfl
@[simp] theorem pl14 : placesO Tryd.prog 14 = some [(0, 1), (1, 1)] := by kernel_rfl
@[simp] theorem zv14 : zeroV Tryd.prog 14 = some (V.agg [V.str [], V.int IntKind.u64 (0)]) := by kernel_rfl
@[simp] theorem by14 : bytesO Tryd.prog 14 = some 24 := by kernel_rfl
@[simp] theorem fo14_0 : fieldO Tryd.prog 14 0 = some (0, 9, 1) := by kernel_rfl
@[simp] theorem fo14_1 : fieldO Tryd.prog 14 1 = some (1, 12, 1) := by kernel_rfl
@[simp] theorem sz15 : szO Tryd.prog 15 = some 1 := by kernel_rfl
@[simp] theorem ag15 : isAggO Tryd.prog 15 = some false := by kernel_rfl
@[simp] theorem zc15 : zeroCs Tryd.prog 15 = some [V.nilptr] := by kernel_rfl
@[simp] theorem zv15 : zeroV Tryd.prog 15 = some V.nilptr := by kernel_rfl
@[simp] theorem by15 : bytesO Tryd.prog 15 = some 8 := by kernel_rfl
@[simp] theorem sz16 : szO Tryd.prog 16 = some 1 := by kernel_rfl
@[simp] theorem ag16 : isAggO Tryd.prog 16 = some false := by kernel_rfl
@[simp] theorem zc16 : zeroCs Tryd.prog 16 = some [V.nilptr] := by kernel_rfl
@[simp] theorem zv16 : zeroV Tryd.prog 16 = some V.nilptr := by kernel_rfl
@[simp] theorem by16 : bytesO Tryd.prog 16 = some 8 := by kernel_rfl
@[simp] theorem sz17 : szO Tryd.prog 17 = some 1 := by kernel_rfl
@[simp] theorem ag17 : isAggO Tryd.prog 17 = some false := by kernel_rfl
@[simp] theorem zc17 : zeroCs Tryd.prog 17 = some [V.nilptr] := by kernel_rfl
@[simp] theorem zv17 : zeroV Tryd.prog 17 = some V.nilptr := by kernel_rfl
@[simp] theorem by17 : bytesO Tryd.prog 17 = some 8 := by kernel_rfl
@[simp] theorem sz18 : szO Tryd.prog 18 = some 1 := by kernel_rfl
@[simp] theorem ag18 : isAggO Tryd.prog 18 = some true := by kernel_rfl
@[simp] theorem zc18 : zeroCs Tryd.prog 18 = some [V.nilptr] := by kernel_rfl
@[simp] theorem pl18 : placesO Tryd.prog 18 = some [(0, 1)] := by kernel_rfl
@[simp] theorem zv18 : zeroV Tryd.prog 18 = some (V.agg [V.nilptr]) := by kernel_rfl
@[simp] theorem by18 : bytesO Tryd.prog 18 = some 8 := by kernel_rfl
@[simp] theorem fo18_0 : fieldO Tryd.prog 18 0 = some (0, 17, 1) := by kernel_rfl
@[simp] theorem sz19 : szO Tryd.prog 19 = some 1 := by kernel_rfl
@[simp] theorem ag19 : isAggO Tryd.prog 19 = some true := by kernel_rfl
@[simp] theorem zc19 : zeroCs Tryd.prog 19 = some [V.nilptr] := by kernel_rfl
@[simp] theorem pl19 : placesO Tryd.prog 19 = some [(0, 1)] := by kernel_rfl
@[simp] theorem zv19 : zeroV Tryd.prog 19 = some (V.agg [V.nilptr]) := by kernel_rfl
@[simp] theorem by19 : bytesO Tryd.prog 19 = some 8 := by kernel_rfl
@[simp] theorem fo19_0 : fieldO Tryd.prog 19 0 = some (0, 17, 1) := by kernel_rfl
@[simp] theorem sz20 : szO Tryd.prog 20 = some 1 := by kernel_rfl
@[simp] theorem ag20 : isAggO Tryd.prog 20 = some false := by kernel_rfl
@[simp] theorem zc20 : zeroCs Tryd.prog 20 = some [V.niliface] := by kernel_rfl
@[simp] theorem zv20 : zeroV Tryd.prog 20 = some V.niliface := by kernel_rfl
@[simp] theorem by20 : bytesO Tryd.prog 20 = some 16 := by kernel_rfl
@[simp] theorem sz21 : szO Tryd.prog 21 = some 1 := by kernel_rfl
@[simp] theorem ag21 : isAggO Tryd.prog 21 = some false := by kernel_rfl
@[simp] theorem zc21 : zeroCs Tryd.prog 21 = some [V.int IntKind.i32 (0)] := by kernel_rfl
@[simp] theorem zv21 : zeroV Tryd.prog 21 = some (V.int IntKind.i32 (0)) := by kernel_rfl
@[simp] theorem by21 : bytesO Tryd.prog 21 = some 4 := by kernel_rfl
@[simp] theorem sz22 : szO Tryd.prog 22 = some 1 := by kernel_rfl
@[simp] theorem ag22 : isAggO Tryd.prog 22 = some false := by kernel_rfl
@[simp] theorem zc22 : zeroCs Tryd.prog 22 = some [V.row true true [] 0 none] := by kernel_rfl
@[simp] theorem es22 : esz Tryd.prog 22 = some 1 := by kernel_rfl
@[simp] theorem el22 : elemOfSlice Tryd.prog 22 = some 3 := by kernel_rfl
@[simp] theorem zv22 : zeroV Tryd.prog 22 = some (V.row true true [] 0 none) := by kernel_rfl
@[simp] theorem by22 : bytesO Tryd.prog 22 = some 24 := by kernel_rfl
@[simp] theorem mz22 : mkz Tryd.prog 22 = some (1, 8, [V.int IntKind.i64 (0)]) := by kernel_rfl
@[simp] theorem sz23 : szO Tryd.prog 23 = some 1 := by kernel_rfl
@[simp] theorem ag23 : isAggO Tryd.prog 23 = some false := by kernel_rfl
@[simp] theorem zc23 : zeroCs Tryd.prog 23 = some [V.nilfunc] := by kernel_rfl
@[simp] theorem zv23 : zeroV Tryd.prog 23 = some V.nilfunc := by kernel_rfl
@[simp] theorem by23 : bytesO Tryd.prog 23 = some 8 := by kernel_rfl
@[simp] theorem sz24 : szO Tryd.prog 24 = some 1 := by kernel_rfl
@[simp] theorem ag24 : isAggO Tryd.prog 24 = some false := by kernel_rfl
@[simp] theorem zc24 : zeroCs Tryd.prog 24 = some [V.nilfunc] := by kernel_rfl
@[simp] theorem zv24 : zeroV Tryd.prog 24 = some V.nilfunc := by kernel_rfl
@[simp] theorem by24 : bytesO Tryd.prog 24 = some 8 := by kernel_rfl
@[simp] theorem sz25 : szO Tryd.prog 25 = some 1 := by kernel_rfl
@[simp] theorem ag25 : isAggO Tryd.prog 25 = some false := by kernel_rfl
@[simp] theorem zc25 : zeroCs Tryd.prog 25 = some [V.int IntKind.i64 (0)] := by kernel_rfl
@[simp] theorem zv25 : zeroV Tryd.prog 25 = some (V.int IntKind.i64 (0)) := by kernel_rfl
@[simp] theorem by25 : bytesO Tryd.prog 25 = some 8 := by kernel_rfl
@[simp] theorem sz26 : szO Tryd.prog 26 = some 1 := by kernel_rfl
@[simp] theorem ag26 : isAggO Tryd.prog 26 = some false := by kernel_rfl
@[simp] theorem by26 : bytesO Tryd.prog 26 = some 0 := by kernel_rfl
@[simp] theorem sz27 : szO Tryd.prog 27 = some 1 := by kernel_rfl
@[simp] theorem ag27 : isAggO Tryd.prog 27 = some false := by kernel_rfl
@[simp] theorem zc27 : zeroCs Tryd.prog 27 = some [V.nilfunc] := by kernel_rfl
@[simp] theorem zv27 : zeroV Tryd.prog 27 = some V.nilfunc := by kernel_rfl
@[simp] theorem by27 : bytesO Tryd.prog 27 = some 8 := by kernel_rfl
@[simp] theorem sz28 : szO Tryd.prog 28 = some 1 := by kernel_rfl
@[simp] theorem ag28 : isAggO Tryd.prog 28 = some false := by kernel_rfl
@[simp] theorem zc28 : zeroCs Tryd.prog 28 = some [V.nilfunc] := by kernel_rfl
@[simp] theorem zv28 : zeroV Tryd.prog 28 = some V.nilfunc := by kernel_rfl
@[simp] theorem by28 : bytesO Tryd.prog 28 = some 8 := by kernel_rfl
@[simp] theorem sz29 : szO Tryd.prog 29 = some 1 := by kernel_rfl
@[simp] theorem ag29 : isAggO Tryd.prog 29 = some false := by kernel_rfl
@[simp] theorem zc29 : zeroCs Tryd.prog 29 = some [V.nilfunc] := by kernel_rfl
@[simp] theorem zv29 : zeroV Tryd.prog 29 = some V.nilfunc := by kernel_rfl
@[simp] theorem by29 : bytesO Tryd.prog 29 = some 8 := by kernel_rfl
@[simp] theorem sz30 : szO Tryd.prog 30 = some 1 := by kernel_rfl
@[simp] theorem ag30 : isAggO Tryd.prog 30 = some false := by kernel_rfl
@[simp] theorem zc30 : zeroCs Tryd.prog 30 = some [V.nilfunc] := by kernel_rfl
@[simp] theorem zv30 : zeroV Tryd.prog 30 = some V.nilfunc := by kernel_rfl
@[simp] theorem by30 : bytesO Tryd.prog 30 = some 8 := by kernel_rfl
@[simp] theorem sz31 : szO Tryd.prog 31 = some 1 := by kernel_rfl
@[simp] theorem ag31 : isAggO Tryd.prog 31 = some false := by kernel_rfl
@[simp] theorem by31 : bytesO Tryd.prog 31 = some 0 := by kernel_rfl
@[simp] theorem sz32 : szO Tryd.prog 32 = some 1 := by kernel_rfl
@[simp] theorem ag32 : isAggO Tryd.prog 32 = some false := by kernel_rfl
@[simp] theorem zc32 : zeroCs Tryd.prog 32 = some [V.nilfunc] := by kernel_rfl
@[simp] theorem zv32 : zeroV Tryd.prog 32 = some V.nilfunc := by kernel_rfl
@[simp] theorem by32 : bytesO Tryd.prog 32 = some 8 := by kernel_rfl
@[simp] theorem sz33 : szO Tryd.prog 33 = some 1 := by kernel_rfl
@[simp] theorem ag33 : isAggO Tryd.prog 33 = some false := by kernel_rfl
@[simp] theorem zc33 : zeroCs Tryd.prog 33 = some [V.nilfunc] := by kernel_rfl
@[simp] theorem zv33 : zeroV Tryd.prog 33 = some V.nilfunc := by kernel_rfl
@[simp] theorem by33 : bytesO Tryd.prog 33 = some 8 := by kernel_rfl
@[simp] theorem sz34 : szO Tryd.prog 34 = some 1 := by kernel_rfl
@[simp] theorem ag34 : isAggO Tryd.prog 34 = some false := by kernel_rfl
@[simp] theorem by34 : bytesO Tryd.prog 34 = some 0 := by kernel_rfl
@[simp] theorem sz35 : szO Tryd.prog 35 = some 1 := by kernel_rfl
@[simp] theorem ag35 : isAggO Tryd.prog 35 = some false := by kernel_rfl
@[simp] theorem zc35 : zeroCs Tryd.prog 35 = some [V.nilfunc] := by kernel_rfl
@[simp] theorem zv35 : zeroV Tryd.prog 35 = some V.nilfunc := by kernel_rfl
@[simp] theorem by35 : bytesO Tryd.prog 35 = some 8 := by kernel_rfl
@[simp] theorem sz36 : szO Tryd.prog 36 = some 1 := by kernel_rfl
@[simp] theorem ag36 : isAggO Tryd.prog 36 = some false := by kernel_rfl
@[simp] theorem by36 : bytesO Tryd.prog 36 = some 0 := by kernel_rfl
@[simp] theorem sz37 : szO Tryd.prog 37 = some 1 := by kernel_rfl
@[simp] theorem ag37 : isAggO Tryd.prog 37 = some false := by kernel_rfl
@[simp] theorem zc37 : zeroCs Tryd.prog 37 = some [V.nilfunc] := by kernel_rfl
@[simp] theorem zv37 : zeroV Tryd.prog 37 = some V.nilfunc := by kernel_rfl
@[simp] theorem by37 : bytesO Tryd.prog 37 = some 8 := by kernel_rfl
@[simp] theorem sz38 : szO Tryd.prog 38 = some 1 := by kernel_rfl
@[simp] theorem ag38 : isAggO Tryd.prog 38 = some false := by kernel_rfl
@[simp] theorem zc38 : zeroCs Tryd.prog 38 = some [V.nilfunc] := by kernel_rfl
@[simp] theorem zv38 : zeroV Tryd.prog 38 = some V.nilfunc := by kernel_rfl
@[simp] theorem by38 : bytesO Tryd.prog 38 = some 8 := by kernel_rfl
@[simp] theorem sz39 : szO Tryd.prog 39 = some 1 := by kernel_rfl
@[simp] theorem ag39 : isAggO Tryd.prog 39 = some false := by kernel_rfl
@[simp] theorem zc39 : zeroCs Tryd.prog 39 = some [V.nilfunc] := by kernel_rfl
@[simp] theorem zv39 : zeroV Tryd.prog 39 = some V.nilfunc := by kernel_rfl
@[simp] theorem by39 : bytesO Tryd.prog 39 = some 8 := by kernel_rfl
@[simp] theorem sz40 : szO Tryd.prog 40 = some 1 := by kernel_rfl
@[simp] theorem ag40 : isAggO Tryd.prog 40 = some false := by kernel_rfl
@[simp] theorem zc40 : zeroCs Tryd.prog 40 = some [V.nilmap] := by kernel_rfl
@[simp] theorem zv40 : zeroV Tryd.prog 40 = some V.nilmap := by kernel_rfl
@[simp] theorem by40 : bytesO Tryd.prog 40 = some 8 := by kernel_rfl
@[simp] theorem sz41 : szO Tryd.prog 41 = some 1 := by kernel_rfl
@[simp] theorem ag41 : isAggO Tryd.prog 41 = some false := by kernel_rfl
@[simp] theorem zc41 : zeroCs Tryd.prog 41 = some [V.nilfunc] := by kernel_rfl
@[simp] theorem zv41 : zeroV Tryd.prog 41 = some V.nilfunc := by kernel_rfl
@[simp] theorem by41 : bytesO Tryd.prog 41 = some 8 := by kernel_rfl
@[simp] theorem sz42 : szO Tryd.prog 42 = some 1 := by kernel_rfl
@[simp] theorem ag42 : isAggO Tryd.prog 42 = some false := by kernel_rfl
@[simp] theorem zc42 : zeroCs Tryd.prog 42 = some [V.nilfunc] := by kernel_rfl
@[simp] theorem zv42 : zeroV Tryd.prog 42 = some V.nilfunc := by kernel_rfl
@[simp] theorem by42 : bytesO Tryd.prog 42 = some 8 := by kernel_rfl
@[simp] theorem sz43 : szO Tryd.prog 43 = some 5 := by kernel_rfl
@[simp] theorem ag43 : isAggO Tryd.prog 43 = some true := by kernel_rfl
@[simp] theorem zc43 : zeroCs Tryd.prog 43 = some [V.int IntKind.i64 (0), V.int IntKind.i64 (0), V.int IntKind.i64 (0), V.int IntKind.i64 (0), V.int IntKind.i64 (0)] := by kernel_rfl
@[simp] theorem zv43 : zeroV Tryd.prog 43 = some (V.agg [V.int IntKind.i64 (0), V.int IntKind.i64 (0), V.int IntKind.i64 (0), V.int IntKind.i64 (0), V.int IntKind.i64 (0)]) := by kernel_rfl
@[simp] theorem by43 : bytesO Tryd.prog 43 = some 40 := by kernel_rfl
@[simp] theorem sz44 : szO Tryd.prog 44 = some 1 := by kernel_rfl
@[simp] theorem ag44 : isAggO Tryd.prog 44 = some false := by kernel_rfl
@[simp] theorem zc44 : zeroCs Tryd.prog 44 = some [V.nilfunc] := by kernel_rfl
@[simp] theorem zv44 : zeroV Tryd.prog 44 = some V.nilfunc := by kernel_rfl
@[simp] theorem by44 : bytesO Tryd.prog 44 = some 8 := by kernel_rfl
@[simp] theorem sz45 : szO Tryd.prog 45 = some 1 := by kernel_rfl
@[simp] theorem ag45 : isAggO Tryd.prog 45 = some false := by kernel_rfl
@[simp] theorem zc45 : zeroCs Tryd.prog 45 = some [V.nilfunc] := by kernel_rfl
@[simp] theorem zv45 : zeroV Tryd.prog 45 = some V.nilfunc := by kernel_rfl
@[simp] theorem by45 : bytesO Tryd.prog 45 = some 8 := by kernel_rfl
@[simp] theorem sz46 : szO Tryd.prog 46 = some 1 := by kernel_rfl
@[simp] theorem ag46 : isAggO Tryd.prog 46 = some false := by kernel_rfl
@[simp] theorem zc46 : zeroCs Tryd.prog 46 = some [V.nilfunc] := by kernel_rfl
@[simp] theorem zv46 : zeroV Tryd.prog 46 = some V.nilfunc := by kernel_rfl
@[simp] theorem by46 : bytesO Tryd.prog 46 = some 8 := by kernel_rfl
@[simp] theorem sz47 : szO Tryd.prog 47 = some 1 := by kernel_rfl
@[simp] theorem ag47 : isAggO Tryd.prog 47 = some false := by kernel_rfl
@[simp] theorem zc47 : zeroCs Tryd.prog 47 = some [V.nilfunc] := by kernel_rfl
@[simp] theorem zv47 : zeroV Tryd.prog 47 = some V.nilfunc := by kernel_rfl
@[simp] theorem by47 : bytesO Tryd.prog 47 = some 8 := by kernel_rfl
@[simp] theorem sz48 : szO Tryd.prog 48 = some 1 := by kernel_rfl
@[simp] theorem ag48 : isAggO Tryd.prog 48 = some false := by kernel_rfl
@[simp] theorem zc48 : zeroCs Tryd.prog 48 = some [V.nilfunc] := by kernel_rfl
@[simp] theorem zv48 : zeroV Tryd.prog 48 = some V.nilfunc := by kernel_rfl
@[simp] theorem by48 : bytesO Tryd.prog 48 = some 8 := by kernel_rfl
@[simp] theorem sz49 : szO Tryd.prog 49 = some 1 := by kernel_rfl
@[simp] theorem ag49 : isAggO Tryd.prog 49 = some false := by kernel_rfl
@[simp] theorem zc49 : zeroCs Tryd.prog 49 = some [V.nilfunc] := by kernel_rfl
@[simp] theorem zv49 : zeroV Tryd.prog 49 = some V.nilfunc := by kernel_rfl
@[simp] theorem by49 : bytesO Tryd.prog 49 = some 8 := by kernel_rfl
@[simp] theorem sz50 : szO Tryd.prog 50 = some 2 := by kernel_rfl
@[simp] theorem ag50 : isAggO Tryd.prog 50 = some true := by kernel_rfl
@[simp] theorem zc50 : zeroCs Tryd.prog 50 = some [V.int IntKind.i64 (0), V.int IntKind.i64 (0)] := by kernel_rfl
@[simp] theorem pl50 : placesO Tryd.prog 50 = some [(0, 1), (1, 1)] := by kernel_rfl
@[simp] theorem zv50 : zeroV Tryd.prog 50 = some (V.agg [V.int IntKind.i64 (0), V.int IntKind.i64 (0)]) := by kernel_rfl
@[simp] theorem by50 : bytesO Tryd.prog 50 = some 16 := by kernel_rfl
@[simp] theorem fo50_0 : fieldO Tryd.prog 50 0 = some (0, 3, 1) := by kernel_rfl
@[simp] theorem fo50_1 : fieldO Tryd.prog 50 1 = some (1, 3, 1) := by kernel_rfl
@[simp] theorem sz51 : szO Tryd.prog 51 = some 2 := by kernel_rfl
@[simp] theorem ag51 : isAggO Tryd.prog 51 = some true := by kernel_rfl
@[simp] theorem zc51 : zeroCs Tryd.prog 51 = some [V.int IntKind.i64 (0), V.int IntKind.i64 (0)] := by kernel_rfl
@[simp] theorem pl51 : placesO Tryd.prog 51 = some [(0, 1), (1, 1)] := by kernel_rfl
@[simp] theorem zv51 : zeroV Tryd.prog 51 = some (V.agg [V.int IntKind.i64 (0), V.int IntKind.i64 (0)]) := by kernel_rfl
@[simp] theorem by51 : bytesO Tryd.prog 51 = some 16 := by kernel_rfl
@[simp] theorem fo51_0 : fieldO Tryd.prog 51 0 = some (0, 3, 1) := by kernel_rfl
@[simp] theorem fo51_1 : fieldO Tryd.prog 51 1 = some (1, 3, 1) := by kernel_rfl
@[simp] theorem sz52 : szO Tryd.prog 52 = some 1 := by kernel_rfl
@[simp] theorem ag52 : isAggO Tryd.prog 52 = some false := by kernel_rfl
@[simp] theorem zc52 : zeroCs Tryd.prog 52 = some [V.nilfunc] := by kernel_rfl
@[simp] theorem zv52 : zeroV Tryd.prog 52 = some V.nilfunc := by kernel_rfl
@[simp] theorem by52 : bytesO Tryd.prog 52 = some 8 := by kernel_rfl
@[simp] theorem sz53 : szO Tryd.prog 53 = some 1 := by kernel_rfl
@[simp] theorem ag53 : isAggO Tryd.prog 53 = some false := by kernel_rfl
@[simp] theorem zc53 : zeroCs Tryd.prog 53 = some [V.nilfunc] := by kernel_rfl
@[simp] theorem zv53 : zeroV Tryd.prog 53 = some V.nilfunc := by kernel_rfl
@[simp] theorem by53 : bytesO Tryd.prog 53 = some 8 := by kernel_rfl
@[simp] theorem sz54 : szO Tryd.prog 54 = some 2 := by kernel_rfl
@[simp] theorem ag54 : isAggO Tryd.prog 54 = some true := by kernel_rfl
@[simp] theorem zc54 : zeroCs Tryd.prog 54 = some [V.int IntKind.i64 (0), V.int IntKind.i64 (0)] := by kernel_rfl
@[simp] theorem zv54 : zeroV Tryd.prog 54 = some (V.agg [V.int IntKind.i64 (0), V.int IntKind.i64 (0)]) := by kernel_rfl
@[simp] theorem by54 : bytesO Tryd.prog 54 = some 16 := by kernel_rfl
@[simp] theorem sz55 : szO Tryd.prog 55 = some 1 := by kernel_rfl
@[simp] theorem ag55 : isAggO Tryd.prog 55 = some false := by kernel_rfl
@[simp] theorem zc55 : zeroCs Tryd.prog 55 = some [V.nilfunc] := by kernel_rfl
@[simp] theorem zv55 : zeroV Tryd.prog 55 = some V.nilfunc := by kernel_rfl
@[simp] theorem by55 : bytesO Tryd.prog 55 = some 8 := by kernel_rfl
@[simp] theorem sz56 : szO Tryd.prog 56 = some 1 := by kernel_rfl
@[simp] theorem ag56 : isAggO Tryd.prog 56 = some false := by kernel_rfl
@[simp] theorem zc56 : zeroCs Tryd.prog 56 = some [V.nilfunc] := by kernel_rfl
@[simp] theorem zv56 : zeroV Tryd.prog 56 = some V.nilfunc := by kernel_rfl
@[simp] theorem by56 : bytesO Tryd.prog 56 = some 8 := by kernel_rfl
@[simp] theorem sz57 : szO Tryd.prog 57 = some 1 := by kernel_rfl
@[simp] theorem ag57 : isAggO Tryd.prog 57 = some false := by kernel_rfl
@[simp] theorem zc57 : zeroCs Tryd.prog 57 = some [V.nilfunc] := by kernel_rfl
@[simp] theorem zv57 : zeroV Tryd.prog 57 = some V.nilfunc := by kernel_rfl
@[simp] theorem by57 : bytesO Tryd.prog 57 = some 8 := by kernel_rfl
@[simp] theorem sz58 : szO Tryd.prog 58 = some 1 := by kernel_rfl
@[simp] theorem ag58 : isAggO Tryd.prog 58 = some false := by kernel_rfl
@[simp] theorem zc58 : zeroCs Tryd.prog 58 = some [V.row true true [] 0 none] := by kernel_rfl
@[simp] theorem es58 : esz Tryd.prog 58 = some 1 := by kernel_rfl
@[simp] theorem el58 : elemOfSlice Tryd.prog 58 = some 4 := by kernel_rfl
@[simp] theorem zv58 : zeroV Tryd.prog 58 = some (V.row true true [] 0 none) := by kernel_rfl
@[simp] theorem by58 : bytesO Tryd.prog 58 = some 24 := by kernel_rfl
@[simp] theorem mz58 : mkz Tryd.prog 58 = some (1, 1, [V.bool false]) := by kernel_rfl
@[simp] theorem sz59 : szO Tryd.prog 59 = some 1 := by kernel_rfl
@[simp] theorem ag59 : isAggO Tryd.prog 59 = some false := by kernel_rfl
@[simp] theorem zc59 : zeroCs Tryd.prog 59 = some [V.row true true [] 0 none] := by kernel_rfl
@[simp] theorem es59 : esz Tryd.prog 59 = some 2 := by kernel_rfl
@[simp] theorem el59 : elemOfSlice Tryd.prog 59 = some 62 := by kernel_rfl
@[simp] theorem zv59 : zeroV Tryd.prog 59 = some (V.row true true [] 0 none) := by kernel_rfl
@[simp] theorem by59 : bytesO Tryd.prog 59 = some 24 := by kernel_rfl
@[simp] theorem mz59 : mkz Tryd.prog 59 = some (2, 16, [V.int IntKind.i64 (0), V.nilfunc]) := by kernel_rfl
@[simp] theorem sz60 : szO Tryd.prog 60 = some 1 := by kernel_rfl
@[simp] theorem ag60 : isAggO Tryd.prog 60 = some false := by kernel_rfl
@[simp] theorem zc60 : zeroCs Tryd.prog 60 = some [V.nilfunc] := by kernel_rfl
@[simp] theorem zv60 : zeroV Tryd.prog 60 = some V.nilfunc := by kernel_rfl
@[simp] theorem by60 : bytesO Tryd.prog 60 = some 8 := by kernel_rfl
@[simp] theorem sz61 : szO Tryd.prog 61 = some 2 := by kernel_rfl
@[simp] theorem ag61 : isAggO Tryd.prog 61 = some true := by kernel_rfl
@[simp] theorem zc61 : zeroCs Tryd.prog 61 = some [V.int IntKind.i64 (0), V.nilfunc] := by kernel_rfl
@[simp] theorem pl61 : placesO Tryd.prog 61 = some [(0, 1), (1, 1)] := by kernel_rfl
@[simp] theorem zv61 : zeroV Tryd.prog 61 = some (V.agg [V.int IntKind.i64 (0), V.nilfunc]) := by kernel_rfl
@[simp] theorem by61 : bytesO Tryd.prog 61 = some 16 := by kernel_rfl
@[simp] theorem fo61_0 : fieldO Tryd.prog 61 0 = some (0, 3, 1) := by kernel_rfl
@[simp] theorem fo61_1 : fieldO Tryd.prog 61 1 = some (1, 49, 1) := by kernel_rfl
@[simp] theorem sz62 : szO Tryd.prog 62 = some 2 := by kernel_rfl
@[simp] theorem ag62 : isAggO Tryd.prog 62 = some true := by kernel_rfl
@[simp] theorem zc62 : zeroCs Tryd.prog 62 = some [V.int IntKind.i64 (0), V.nilfunc] := by kernel_rfl
@[simp] theorem pl62 : placesO Tryd.prog 62 = some [(0, 1), (1, 1)] := by kernel_rfl
@[simp] theorem zv62 : zeroV Tryd.prog 62 = some (V.agg [V.int IntKind.i64 (0), V.nilfunc]) := by kernel_rfl
@[simp] theorem by62 : bytesO Tryd.prog 62 = some 16 := by kernel_rfl
@[simp] theorem fo62_0 : fieldO Tryd.prog 62 0 = some (0, 3, 1) := by kernel_rfl
@[simp] theorem fo62_1 : fieldO Tryd.prog 62 1 = some (1, 49, 1) := by kernel_rfl
@[simp] theorem sz63 : szO Tryd.prog 63 = some 0 := by kernel_rfl
@[simp] theorem ag63 : isAggO Tryd.prog 63 = some true := by kernel_rfl
@[simp] theorem zc63 : zeroCs Tryd.prog 63 = some [] := by kernel_rfl
@[simp] theorem pl63 : placesO Tryd.prog 63 = some [] := by kernel_rfl
@[simp] theorem zv63 : zeroV Tryd.prog 63 = some (V.agg []) := by kernel_rfl
@[simp] theorem by63 : bytesO Tryd.prog 63 = some 0 := by kernel_rfl
@[simp] theorem sz64 : szO Tryd.prog 64 = some 0 := by kernel_rfl
@[simp] theorem ag64 : isAggO Tryd.prog 64 = some true := by kernel_rfl
@[simp] theorem zc64 : zeroCs Tryd.prog 64 = some [] := by kernel_rfl
@[simp] theorem pl64 : placesO Tryd.prog 64 = some [] := by kernel_rfl
@[simp] theorem zv64 : zeroV Tryd.prog 64 = some (V.agg []) := by kernel_rfl
@[simp] theorem by64 : bytesO Tryd.prog 64 = some 0 := by kernel_rfl
@[simp] theorem sz65 : szO Tryd.prog 65 = some 1 := by kernel_rfl
@[simp] theorem ag65 : isAggO Tryd.prog 65 = some false := by kernel_rfl
@[simp] theorem by65 : bytesO Tryd.prog 65 = some 0 := by kernel_rfl
@[simp] theorem sz66 : szO Tryd.prog 66 = some 1 := by kernel_rfl
@[simp] theorem ag66 : isAggO Tryd.prog 66 = some false := by kernel_rfl
@[simp] theorem zc66 : zeroCs Tryd.prog 66 = some [V.nilfunc] := by kernel_rfl
@[simp] theorem zv66 : zeroV Tryd.prog 66 = some V.nilfunc := by kernel_rfl
@[simp] theorem by66 : bytesO Tryd.prog 66 = some 8 := by kernel_rfl
@[simp] theorem sz67 : szO Tryd.prog 67 = some 1 := by kernel_rfl
@[simp] theorem ag67 : isAggO Tryd.prog 67 = some false := by kernel_rfl
@[simp] theorem zc67 : zeroCs Tryd.prog 67 = some [V.nilfunc] := by kernel_rfl
@[simp] theorem zv67 : zeroV Tryd.prog 67 = some V.nilfunc := by kernel_rfl
@[simp] theorem by67 : bytesO Tryd.prog 67 = some 8 := by kernel_rfl
@[simp] theorem sz68 : szO Tryd.prog 68 = some 1 := by kernel_rfl
@[simp] theorem ag68 : isAggO Tryd.prog 68 = some false := by kernel_rfl
@[simp] theorem zc68 : zeroCs Tryd.prog 68 = some [V.nilfunc] := by kernel_rfl
@[simp] theorem zv68 : zeroV Tryd.prog 68 = some V.nilfunc := by kernel_rfl
@[simp] theorem by68 : bytesO Tryd.prog 68 = some 8 := by kernel_rfl
@[simp] theorem sz69 : szO Tryd.prog 69 = some 1 := by kernel_rfl
@[simp] theorem ag69 : isAggO Tryd.prog 69 = some false := by kernel_rfl
@[simp] theorem zc69 : zeroCs Tryd.prog 69 = some [V.nilfunc] := by kernel_rfl
@[simp] theorem zv69 : zeroV Tryd.prog 69 = some V.nilfunc := by kernel_rfl
@[simp] theorem by69 : bytesO Tryd.prog 69 = some 8 := by kernel_rfl
@[simp] theorem sz70 : szO Tryd.prog 70 = some 1 := by kernel_rfl
@[simp] theorem ag70 : isAggO Tryd.prog 70 = some false := by kernel_rfl
@[simp] theorem zc70 : zeroCs Tryd.prog 70 = some [V.nilfunc] := by kernel_rfl
@[simp] theorem zv70 : zeroV Tryd.prog 70 = some V.nilfunc := by kernel_rfl
@[simp] theorem by70 : bytesO Tryd.prog 70 = some 8 := by kernel_rfl
@[simp] theorem sz71 : szO Tryd.prog 71 = some 1 := by kernel_rfl
@[simp] theorem ag71 : isAggO Tryd.prog 71 = some false := by kernel_rfl
@[simp] theorem zc71 : zeroCs Tryd.prog 71 = some [V.row true true [] 0 none] := by kernel_rfl
@[simp] theorem es71 : esz Tryd.prog 71 = some 1 := by kernel_rfl
@[simp] theorem el71 : elemOfSlice Tryd.prog 71 = some 5 := by kernel_rfl
@[simp] theorem zv71 : zeroV Tryd.prog 71 = some (V.row true true [] 0 none) := by kernel_rfl
@[simp] theorem by71 : bytesO Tryd.prog 71 = some 24 := by kernel_rfl
@[simp] theorem mz71 : mkz Tryd.prog 71 = some (1, 1, [V.int IntKind.u8 (0)]) := by kernel_rfl
@[simp] theorem sz72 : szO Tryd.prog 72 = some 1 := by kernel_rfl
@[simp] theorem ag72 : isAggO Tryd.prog 72 = some false := by kernel_rfl
@[simp] theorem zc72 : zeroCs Tryd.prog 72 = some [V.nilfunc] := by kernel_rfl
@[simp] theorem zv72 : zeroV Tryd.prog 72 = some V.nilfunc := by kernel_rfl
@[simp] theorem by72 : bytesO Tryd.prog 72 = some 8 := by kernel_rfl
@[simp] theorem sz73 : szO Tryd.prog 73 = some 1 := by kernel_rfl
@[simp] theorem ag73 : isAggO Tryd.prog 73 = some false := by kernel_rfl
@[simp] theorem by73 : bytesO Tryd.prog 73 = some 0 := by kernel_rfl
@[simp] theorem sz74 : szO Tryd.prog 74 = some 1 := by kernel_rfl
@[simp] theorem ag74 : isAggO Tryd.prog 74 = some false := by kernel_rfl
@[simp] theorem zc74 : zeroCs Tryd.prog 74 = some [V.nilfunc] := by kernel_rfl
@[simp] theorem zv74 : zeroV Tryd.prog 74 = some V.nilfunc := by kernel_rfl
@[simp] theorem by74 : bytesO Tryd.prog 74 = some 8 := by kernel_rfl
@[simp] theorem sz75 : szO Tryd.prog 75 = some 1 := by kernel_rfl
@[simp] theorem ag75 : isAggO Tryd.prog 75 = some false := by kernel_rfl
@[simp] theorem zc75 : zeroCs Tryd.prog 75 = some [V.nilfunc] := by kernel_rfl
@[simp] theorem zv75 : zeroV Tryd.prog 75 = some V.nilfunc := by kernel_rfl
@[simp] theorem by75 : bytesO Tryd.prog 75 = some 8 := by kernel_rfl
@[simp] theorem sz76 : szO Tryd.prog 76 = some 1 := by kernel_rfl
@[simp] theorem ag76 : isAggO Tryd.prog 76 = some false := by kernel_rfl
@[simp] theorem zc76 : zeroCs Tryd.prog 76 = some [V.nilfunc] := by kernel_rfl
@[simp] theorem zv76 : zeroV Tryd.prog 76 = some V.nilfunc := by kernel_rfl
@[simp] theorem by76 : bytesO Tryd.prog 76 = some 8 := by kernel_rfl
@[simp] theorem sz77 : szO Tryd.prog 77 = some 1 := by kernel_rfl
@[simp] theorem ag77 : isAggO Tryd.prog 77 = some false := by kernel_rfl
@[simp] theorem zc77 : zeroCs Tryd.prog 77 = some [V.nilfunc] := by kernel_rfl
@[simp] theorem zv77 : zeroV Tryd.prog 77 = some V.nilfunc := by kernel_rfl
@[simp] theorem by77 : bytesO Tryd.prog 77 = some 8 := by kernel_rfl
@[simp] theorem sz78 : szO Tryd.prog 78 = some 1 := by kernel_rfl
@[simp] theorem ag78 : isAggO Tryd.prog 78 = some false := by kernel_rfl
@[simp] theorem zc78 : zeroCs Tryd.prog 78 = some [V.nilfunc] := by kernel_rfl
@[simp] theorem zv78 : zeroV Tryd.prog 78 = some V.nilfunc := by kernel_rfl
@[simp] theorem by78 : bytesO Tryd.prog 78 = some 8 := by kernel_rfl
@[simp] theorem sz79 : szO Tryd.prog 79 = some 1 := by kernel_rfl
@[simp] theorem ag79 : isAggO Tryd.prog 79 = some false := by kernel_rfl
@[simp] theorem by79 : bytesO Tryd.prog 79 = some 0 := by kernel_rfl
@[simp] theorem sz80 : szO Tryd.prog 80 = some 1 := by kernel_rfl
@[simp] theorem ag80 : isAggO Tryd.prog 80 = some false := by kernel_rfl
@[simp] theorem zc80 : zeroCs Tryd.prog 80 = some [V.nilfunc] := by kernel_rfl
@[simp] theorem zv80 : zeroV Tryd.prog 80 = some V.nilfunc := by kernel_rfl
@[simp] theorem by80 : bytesO Tryd.prog 80 = some 8 := by kernel_rfl
@[simp] theorem sz81 : szO Tryd.prog 81 = some 1 := by kernel_rfl
@[simp] theorem ag81 : isAggO Tryd.prog 81 = some false := by kernel_rfl
@[simp] theorem zc81 : zeroCs Tryd.prog 81 = some [V.nilfunc] := by kernel_rfl
@[simp] theorem zv81 : zeroV Tryd.prog 81 = some V.nilfunc := by kernel_rfl
@[simp] theorem by81 : bytesO Tryd.prog 81 = some 8 := by kernel_rfl
@[simp] theorem sz82 : szO Tryd.prog 82 = some 1 := by kernel_rfl
@[simp] theorem ag82 : isAggO Tryd.prog 82 = some false := by kernel_rfl
@[simp] theorem zc82 : zeroCs Tryd.prog 82 = some [V.nilfunc] := by kernel_rfl
@[simp] theorem zv82 : zeroV Tryd.prog 82 = some V.nilfunc := by kernel_rfl
@[simp] theorem by82 : bytesO Tryd.prog 82 = some 8 := by kernel_rfl
@[simp] theorem sz83 : szO Tryd.prog 83 = some 1 := by kernel_rfl
@[simp] theorem ag83 : isAggO Tryd.prog 83 = some false := by kernel_rfl
@[simp] theorem zc83 : zeroCs Tryd.prog 83 = some [V.row true true [] 0 none] := by kernel_rfl
@[simp] theorem es83 : esz Tryd.prog 83 = some 2 := by kernel_rfl
@[simp] theorem el83 : elemOfSlice Tryd.prog 83 = some 54 := by kernel_rfl
@[simp] theorem zv83 : zeroV Tryd.prog 83 = some (V.row true true [] 0 none) := by kernel_rfl
@[simp] theorem by83 : bytesO Tryd.prog 83 = some 24 := by kernel_rfl
@[simp] theorem mz83 : mkz Tryd.prog 83 = some (2, 16, [V.int IntKind.i64 (0), V.int IntKind.i64 (0)]) := by kernel_rfl
@[simp] theorem sz84 : szO Tryd.prog 84 = some 1 := by kernel_rfl
@[simp] theorem ag84 : isAggO Tryd.prog 84 = some false := by kernel_rfl
@[simp] theorem zc84 : zeroCs Tryd.prog 84 = some [V.nilfunc] := by kernel_rfl
@[simp] theorem zv84 : zeroV Tryd.prog 84 = some V.nilfunc := by kernel_rfl
@[simp] theorem by84 : bytesO Tryd.prog 84 = some 8 := by kernel_rfl
@[simp] theorem sz85 : szO Tryd.prog 85 = some 1 := by kernel_rfl
@[simp] theorem ag85 : isAggO Tryd.prog 85 = some false := by kernel_rfl
@[simp] theorem zc85 : zeroCs Tryd.prog 85 = some [V.nilfunc] := by kernel_rfl
@[simp] theorem zv85 : zeroV Tryd.prog 85 = some V.nilfunc := by kernel_rfl
@[simp] theorem by85 : bytesO Tryd.prog 85 = some 8 := by kernel_rfl
@[simp] theorem sz86 : szO Tryd.prog 86 = some 1 := by kernel_rfl
@[simp] theorem ag86 : isAggO Tryd.prog 86 = some false := by kernel_rfl
@[simp] theorem zc86 : zeroCs Tryd.prog 86 = some [V.int IntKind.u32 (0)] := by kernel_rfl
@[simp] theorem zv86 : zeroV Tryd.prog 86 = some (V.int IntKind.u32 (0)) := by kernel_rfl
@[simp] theorem by86 : bytesO Tryd.prog 86 = some 4 := by kernel_rfl
@[simp] theorem sz87 : szO Tryd.prog 87 = some 1 := by kernel_rfl
@[simp] theorem ag87 : isAggO Tryd.prog 87 = some false := by kernel_rfl
@[simp] theorem zc87 : zeroCs Tryd.prog 87 = some [V.nilfunc] := by kernel_rfl
@[simp] theorem zv87 : zeroV Tryd.prog 87 = some V.nilfunc := by kernel_rfl
@[simp] theorem by87 : bytesO Tryd.prog 87 = some 8 := by kernel_rfl
@[simp] theorem sz88 : szO Tryd.prog 88 = some 256 := by kernel_rfl
@[simp] theorem ag88 : isAggO Tryd.prog 88 = some true := by kernel_rfl
@[simp] theorem zc88 : zeroCs Tryd.prog 88 = some (tab 256 (fun _ => V.int IntKind.u8 (0))) := by kernel_rfl
@[simp] theorem by88 : bytesO Tryd.prog 88 = some 256 := by kernel_rfl
@[simp] theorem sz89 : szO Tryd.prog 89 = some 1 := by kernel_rfl
@[simp] theorem ag89 : isAggO Tryd.prog 89 = some false := by kernel_rfl
@[simp] theorem zc89 : zeroCs Tryd.prog 89 = some [V.int IntKind.u64 (0)] := by kernel_rfl
@[simp] theorem zv89 : zeroV Tryd.prog 89 = some (V.int IntKind.u64 (0)) := by kernel_rfl
@[simp] theorem by89 : bytesO Tryd.prog 89 = some 8 := by kernel_rfl
@[simp] theorem sz90 : szO Tryd.prog 90 = some 2 := by kernel_rfl
@[simp] theorem ag90 : isAggO Tryd.prog 90 = some true := by kernel_rfl
@[simp] theorem zc90 : zeroCs Tryd.prog 90 = some [V.int IntKind.u8 (0), V.int IntKind.u8 (0)] := by kernel_rfl
@[simp] theorem pl90 : placesO Tryd.prog 90 = some [(0, 1), (1, 1)] := by kernel_rfl
@[simp] theorem zv90 : zeroV Tryd.prog 90 = some (V.agg [V.int IntKind.u8 (0), V.int IntKind.u8 (0)]) := by kernel_rfl
@[simp] theorem by90 : bytesO Tryd.prog 90 = some 2 := by kernel_rfl
@[simp] theorem fo90_0 : fieldO Tryd.prog 90 0 = some (0, 5, 1) := by kernel_rfl
@[simp] theorem fo90_1 : fieldO Tryd.prog 90 1 = some (1, 5, 1) := by kernel_rfl
@[simp] theorem sz91 : szO Tryd.prog 91 = some 2 := by kernel_rfl
@[simp] theorem ag91 : isAggO Tryd.prog 91 = some true := by kernel_rfl
@[simp] theorem zc91 : zeroCs Tryd.prog 91 = some [V.int IntKind.u8 (0), V.int IntKind.u8 (0)] := by kernel_rfl
@[simp] theorem pl91 : placesO Tryd.prog 91 = some [(0, 1), (1, 1)] := by kernel_rfl
@[simp] theorem zv91 : zeroV Tryd.prog 91 = some (V.agg [V.int IntKind.u8 (0), V.int IntKind.u8 (0)]) := by kernel_rfl
@[simp] theorem by91 : bytesO Tryd.prog 91 = some 2 := by kernel_rfl
@[simp] theorem fo91_0 : fieldO Tryd.prog 91 0 = some (0, 5, 1) := by kernel_rfl
@[simp] theorem fo91_1 : fieldO Tryd.prog 91 1 = some (1, 5, 1) := by kernel_rfl
@[simp] theorem sz92 : szO Tryd.prog 92 = some 32 := by kernel_rfl
@[simp] theorem ag92 : isAggO Tryd.prog 92 = some true := by kernel_rfl
@[simp] theorem zc92 : zeroCs Tryd.prog 92 = some (tab 32 (fun _ => V.int IntKind.u8 (0))) := by kernel_rfl
@[simp] theorem zv92 : zeroV Tryd.prog 92 = some (V.agg [V.int IntKind.u8 (0), V.int IntKind.u8 (0), V.int IntKind.u8 (0), V.int IntKind.u8 (0), V.int IntKind.u8 (0), V.int IntKind.u8 (0), V.int IntKind.u8 (0), V.int IntKind.u8 (0), V.int IntKind.u8 (0), V.int IntKind.u8 (0), V.int IntKind.u8 (0), V.int IntKind.u8 (0), V.int IntKind.u8 (0), V.int IntKind.u8 (0), V.int IntKind.u8 (0), V.int IntKind.u8 (0), V.int IntKind.u8 (0), V.int IntKind.u8 (0), V.int IntKind.u8 (0), V.int IntKind.u8 (0), V.int IntKind.u8 (0), V.int IntKind.u8 (0), V.int IntKind.u8 (0), V.int IntKind.u8 (0), V.int IntKind.u8 (0), V.int IntKind.u8 (0), V.int IntKind.u8 (0), V.int IntKind.u8 (0), V.int IntKind.u8 (0), V.int IntKind.u8 (0), V.int IntKind.u8 (0), V.int IntKind.u8 (0)]) := by kernel_rfl
@[simp] theorem by92 : bytesO Tryd.prog 92 = some 32 := by kernel_rfl
@[simp] theorem sz93 : szO Tryd.prog 93 = some 1 := by kernel_rfl
@[simp] theorem ag93 : isAggO Tryd.prog 93 = some false := by kernel_rfl
@[simp] theorem zc93 : zeroCs Tryd.prog 93 = some [V.nilfunc] := by kernel_rfl
@[simp] theorem zv93 : zeroV Tryd.prog 93 = some V.nilfunc := by kernel_rfl
@[simp] theorem by93 : bytesO Tryd.prog 93 = some 8 := by kernel_rfl
@[simp] theorem sz94 : szO Tryd.prog 94 = some 4 := by kernel_rfl
@[simp] theorem ag94 : isAggO Tryd.prog 94 = some true := by kernel_rfl
@[simp] theorem zc94 : zeroCs Tryd.prog 94 = some [V.nilptr, V.nilptr, V.nilptr, V.str []] := by kernel_rfl
@[simp] theorem pl94 : placesO Tryd.prog 94 = some [(0, 1), (1, 1), (2, 1), (3, 1)] := by kernel_rfl
@[simp] theorem zv94 : zeroV Tryd.prog 94 = some (V.agg [V.nilptr, V.nilptr, V.nilptr, V.str []]) := by kernel_rfl
@[simp] theorem by94 : bytesO Tryd.prog 94 = some 40 := by kernel_rfl
@[simp] theorem fo94_0 : fieldO Tryd.prog 94 0 = some (0, 17, 1) := by kernel_rfl
@[simp] theorem fo94_1 : fieldO Tryd.prog 94 1 = some (1, 17, 1) := by kernel_rfl
@[simp] theorem fo94_2 : fieldO Tryd.prog 94 2 = some (2, 17, 1) := by kernel_rfl
@[simp] theorem fo94_3 : fieldO Tryd.prog 94 3 = some (3, 9, 1) := by kernel_rfl
@[simp] theorem sz95 : szO Tryd.prog 95 = some 4 := by kernel_rfl
@[simp] theorem ag95 : isAggO Tryd.prog 95 = some true := by kernel_rfl
@[simp] theorem zc95 : zeroCs Tryd.prog 95 = some [V.nilptr, V.nilptr, V.nilptr, V.str []] := by kernel_rfl
@[simp] theorem pl95 : placesO Tryd.prog 95 = some [(0, 1), (1, 1), (2, 1), (3, 1)] := by kernel_rfl
@[simp] theorem zv95 : zeroV Tryd.prog 95 = some (V.agg [V.nilptr, V.nilptr, V.nilptr, V.str []]) := by kernel_rfl
@[simp] theorem by95 : bytesO Tryd.prog 95 = some 40 := by kernel_rfl
@[simp] theorem fo95_0 : fieldO Tryd.prog 95 0 = some (0, 17, 1) := by kernel_rfl
@[simp] theorem fo95_1 : fieldO Tryd.prog 95 1 = some (1, 17, 1) := by kernel_rfl
@[simp] theorem fo95_2 : fieldO Tryd.prog 95 2 = some (2, 17, 1) := by kernel_rfl
@[simp] theorem fo95_3 : fieldO Tryd.prog 95 3 = some (3, 9, 1) := by kernel_rfl
@[simp] theorem sz96 : szO Tryd.prog 96 = some 0 := by kernel_rfl
@[simp] theorem ag96 : isAggO Tryd.prog 96 = some true := by kernel_rfl
@[simp] theorem zc96 : zeroCs Tryd.prog 96 = some [] := by kernel_rfl
@[simp] theorem zv96 : zeroV Tryd.prog 96 = some (V.agg []) := by kernel_rfl
@[simp] theorem by96 : bytesO Tryd.prog 96 = some 0 := by kernel_rfl
@[simp] theorem sz97 : szO Tryd.prog 97 = some 0 := by kernel_rfl
@[simp] theorem ag97 : isAggO Tryd.prog 97 = some true := by kernel_rfl
@[simp] theorem zc97 : zeroCs Tryd.prog 97 = some [] := by kernel_rfl
@[simp] theorem pl97 : placesO Tryd.prog 97 = some [(0, 0)] := by kernel_rfl
@[simp] theorem zv97 : zeroV Tryd.prog 97 = some (V.agg []) := by kernel_rfl
@[simp] theorem by97 : bytesO Tryd.prog 97 = some 0 := by kernel_rfl
@[simp] theorem fo97_0 : fieldO Tryd.prog 97 0 = some (0, 96, 0) := by kernel_rfl
@[simp] theorem sz98 : szO Tryd.prog 98 = some 0 := by kernel_rfl
@[simp] theorem ag98 : isAggO Tryd.prog 98 = some true := by kernel_rfl
@[simp] theorem zc98 : zeroCs Tryd.prog 98 = some [] := by kernel_rfl
@[simp] theorem pl98 : placesO Tryd.prog 98 = some [(0, 0)] := by kernel_rfl
@[simp] theorem zv98 : zeroV Tryd.prog 98 = some (V.agg []) := by kernel_rfl
@[simp] theorem by98 : bytesO Tryd.prog 98 = some 0 := by kernel_rfl
@[simp] theorem fo98_0 : fieldO Tryd.prog 98 0 = some (0, 96, 0) := by kernel_rfl
@[simp] theorem sz99 : szO Tryd.prog 99 = some 1 := by kernel_rfl
@[simp] theorem ag99 : isAggO Tryd.prog 99 = some false := by kernel_rfl
@[simp] theorem zc99 : zeroCs Tryd.prog 99 = some [V.nilfunc] := by kernel_rfl
@[simp] theorem zv99 : zeroV Tryd.prog 99 = some V.nilfunc := by kernel_rfl
@[simp] theorem by99 : bytesO Tryd.prog 99 = some 8 := by kernel_rfl
@[simp] theorem sz100 : szO Tryd.prog 100 = some 1 := by kernel_rfl
@[simp] theorem ag100 : isAggO Tryd.prog 100 = some false := by kernel_rfl
@[simp] theorem zc100 : zeroCs Tryd.prog 100 = some [V.int IntKind.u8 (0)] := by kernel_rfl
@[simp] theorem zv100 : zeroV Tryd.prog 100 = some (V.int IntKind.u8 (0)) := by kernel_rfl
@[simp] theorem by100 : bytesO Tryd.prog 100 = some 1 := by kernel_rfl
@[simp] theorem sz101 : szO Tryd.prog 101 = some 1 := by kernel_rfl
@[simp] theorem ag101 : isAggO Tryd.prog 101 = some false := by kernel_rfl
@[simp] theorem zc101 : zeroCs Tryd.prog 101 = some [V.int IntKind.u8 (0)] := by kernel_rfl
@[simp] theorem zv101 : zeroV Tryd.prog 101 = some (V.int IntKind.u8 (0)) := by kernel_rfl
@[simp] theorem by101 : bytesO Tryd.prog 101 = some 1 := by kernel_rfl
@[simp] theorem sz102 : szO Tryd.prog 102 = some 1 := by kernel_rfl
@[simp] theorem ag102 : isAggO Tryd.prog 102 = some false := by kernel_rfl
@[simp] theorem zc102 : zeroCs Tryd.prog 102 = some [V.nilfunc] := by kernel_rfl
@[simp] theorem zv102 : zeroV Tryd.prog 102 = some V.nilfunc := by kernel_rfl
@[simp] theorem by102 : bytesO Tryd.prog 102 = some 8 := by kernel_rfl
@[simp] theorem sz103 : szO Tryd.prog 103 = some 1 := by kernel_rfl
@[simp] theorem ag103 : isAggO Tryd.prog 103 = some false := by kernel_rfl
@[simp] theorem zc103 : zeroCs Tryd.prog 103 = some [V.nilptr] := by kernel_rfl
@[simp] theorem zv103 : zeroV Tryd.prog 103 = some V.nilptr := by kernel_rfl
@[simp] theorem by103 : bytesO Tryd.prog 103 = some 8 := by kernel_rfl
@[simp] theorem sz104 : szO Tryd.prog 104 = some 1 := by kernel_rfl
@[simp] theorem ag104 : isAggO Tryd.prog 104 = some false := by kernel_rfl
@[simp] theorem zc104 : zeroCs Tryd.prog 104 = some [V.int IntKind.i32 (0)] := by kernel_rfl
@[simp] theorem zv104 : zeroV Tryd.prog 104 = some (V.int IntKind.i32 (0)) := by kernel_rfl
@[simp] theorem by104 : bytesO Tryd.prog 104 = some 4 := by kernel_rfl
@[simp] theorem sz105 : szO Tryd.prog 105 = some 1 := by kernel_rfl
@[simp] theorem ag105 : isAggO Tryd.prog 105 = some false := by kernel_rfl
@[simp] theorem zc105 : zeroCs Tryd.prog 105 = some [V.int IntKind.i32 (0)] := by kernel_rfl
@[simp] theorem zv105 : zeroV Tryd.prog 105 = some (V.int IntKind.i32 (0)) := by kernel_rfl
@[simp] theorem by105 : bytesO Tryd.prog 105 = some 4 := by kernel_rfl
@[simp] theorem sz106 : szO Tryd.prog 106 = some 11 := by kernel_rfl
@[simp] theorem ag106 : isAggO Tryd.prog 106 = some true := by kernel_rfl
@[simp] theorem zc106 : zeroCs Tryd.prog 106 = some [V.int IntKind.u64 (0), V.int IntKind.u64 (0), V.int IntKind.u32 (0), V.int IntKind.u8 (0), V.int IntKind.u8 (0), V.int IntKind.u8 (0), V.int IntKind.u8 (0), V.nilfunc, V.nilptr, V.int IntKind.i32 (0), V.int IntKind.i32 (0)] := by kernel_rfl
@[simp] theorem pl106 : placesO Tryd.prog 106 = some [(0, 1), (1, 1), (2, 1), (3, 1), (4, 1), (5, 1), (6, 1), (7, 1), (8, 1), (9, 1), (10, 1)] := by kernel_rfl
@[simp] theorem zv106 : zeroV Tryd.prog 106 = some (V.agg [V.int IntKind.u64 (0), V.int IntKind.u64 (0), V.int IntKind.u32 (0), V.int IntKind.u8 (0), V.int IntKind.u8 (0), V.int IntKind.u8 (0), V.int IntKind.u8 (0), V.nilfunc, V.nilptr, V.int IntKind.i32 (0), V.int IntKind.i32 (0)]) := by kernel_rfl
@[simp] theorem by106 : bytesO Tryd.prog 106 = some 48 := by kernel_rfl
@[simp] theorem fo106_0 : fieldO Tryd.prog 106 0 = some (0, 12, 1) := by kernel_rfl
@[simp] theorem fo106_1 : fieldO Tryd.prog 106 1 = some (1, 12, 1) := by kernel_rfl
@[simp] theorem fo106_2 : fieldO Tryd.prog 106 2 = some (2, 86, 1) := by kernel_rfl
@[simp] theorem fo106_3 : fieldO Tryd.prog 106 3 = some (3, 100, 1) := by kernel_rfl
@[simp] theorem fo106_4 : fieldO Tryd.prog 106 4 = some (4, 5, 1) := by kernel_rfl
@[simp] theorem fo106_5 : fieldO Tryd.prog 106 5 = some (5, 5, 1) := by kernel_rfl
@[simp] theorem fo106_6 : fieldO Tryd.prog 106 6 = some (6, 101, 1) := by kernel_rfl
@[simp] theorem fo106_7 : fieldO Tryd.prog 106 7 = some (7, 102, 1) := by kernel_rfl
@[simp] theorem fo106_8 : fieldO Tryd.prog 106 8 = some (8, 103, 1) := by kernel_rfl
@[simp] theorem fo106_9 : fieldO Tryd.prog 106 9 = some (9, 104, 1) := by kernel_rfl
@[simp] theorem fo106_10 : fieldO Tryd.prog 106 10 = some (10, 105, 1) := by kernel_rfl
@[simp] theorem sz107 : szO Tryd.prog 107 = some 11 := by kernel_rfl
@[simp] theorem ag107 : isAggO Tryd.prog 107 = some true := by kernel_rfl
@[simp] theorem zc107 : zeroCs Tryd.prog 107 = some [V.int IntKind.u64 (0), V.int IntKind.u64 (0), V.int IntKind.u32 (0), V.int IntKind.u8 (0), V.int IntKind.u8 (0), V.int IntKind.u8 (0), V.int IntKind.u8 (0), V.nilfunc, V.nilptr, V.int IntKind.i32 (0), V.int IntKind.i32 (0)] := by kernel_rfl
@[simp] theorem pl107 : placesO Tryd.prog 107 = some [(0, 1), (1, 1), (2, 1), (3, 1), (4, 1), (5, 1), (6, 1), (7, 1), (8, 1), (9, 1), (10, 1)] := by kernel_rfl
@[simp] theorem zv107 : zeroV Tryd.prog 107 = some (V.agg [V.int IntKind.u64 (0), V.int IntKind.u64 (0), V.int IntKind.u32 (0), V.int IntKind.u8 (0), V.int IntKind.u8 (0), V.int IntKind.u8 (0), V.int IntKind.u8 (0), V.nilfunc, V.nilptr, V.int IntKind.i32 (0), V.int IntKind.i32 (0)]) := by kernel_rfl
@[simp] theorem by107 : bytesO Tryd.prog 107 = some 48 := by kernel_rfl
@[simp] theorem fo107_0 : fieldO Tryd.prog 107 0 = some (0, 12, 1) := by kernel_rfl
@[simp] theorem fo107_1 : fieldO Tryd.prog 107 1 = some (1, 12, 1) := by kernel_rfl
@[simp] theorem fo107_2 : fieldO Tryd.prog 107 2 = some (2, 86, 1) := by kernel_rfl
@[simp] theorem fo107_3 : fieldO Tryd.prog 107 3 = some (3, 100, 1) := by kernel_rfl
@[simp] theorem fo107_4 : fieldO Tryd.prog 107 4 = some (4, 5, 1) := by kernel_rfl
@[simp] theorem fo107_5 : fieldO Tryd.prog 107 5 = some (5, 5, 1) := by kernel_rfl
@[simp] theorem fo107_6 : fieldO Tryd.prog 107 6 = some (6, 101, 1) := by kernel_rfl
@[simp] theorem fo107_7 : fieldO Tryd.prog 107 7 = some (7, 102, 1) := by kernel_rfl
@[simp] theorem fo107_8 : fieldO Tryd.prog 107 8 = some (8, 103, 1) := by kernel_rfl
@[simp] theorem fo107_9 : fieldO Tryd.prog 107 9 = some (9, 104, 1) := by kernel_rfl
@[simp] theorem fo107_10 : fieldO Tryd.prog 107 10 = some (10, 105, 1) := by kernel_rfl
@[simp] theorem sz108 : szO Tryd.prog 108 = some 1 := by kernel_rfl
@[simp] theorem ag108 : isAggO Tryd.prog 108 = some false := by kernel_rfl
@[simp] theorem zc108 : zeroCs Tryd.prog 108 = some [V.nilptr] := by kernel_rfl
@[simp] theorem zv108 : zeroV Tryd.prog 108 = some V.nilptr := by kernel_rfl
@[simp] theorem by108 : bytesO Tryd.prog 108 = some 8 := by kernel_rfl
@[simp] theorem ib71 : isBs Tryd.prog 71 = true := by kernel_rfl
@[simp] theorem ibb71 : isBb Tryd.prog 71 = true := by kernel_rfl
@[simp] theorem az43 : arrz Tryd.prog 43 = some (5, 1) := by kernel_rfl
@[simp] theorem az54 : arrz Tryd.prog 54 = some (2, 1) := by kernel_rfl
@[simp] theorem az88 : arrz Tryd.prog 88 = some (256, 1) := by kernel_rfl
@[simp] theorem az92 : arrz Tryd.prog 92 = some (16, 2) := by kernel_rfl
@[simp] theorem az96 : arrz Tryd.prog 96 = some (0, 1) := by kernel_rfl
@[simp] theorem ap22 : apz Tryd.prog #[22, 22] = some (1, 8) := by kernel_rfl
@[simp] theorem ap58 : apz Tryd.prog #[58, 58] = some (1, 1) := by kernel_rfl
@[simp] theorem ap59 : apz Tryd.prog #[59, 59] = some (2, 16) := by kernel_rfl
@[simp] theorem ap71 : apz Tryd.prog #[71, 71] = some (1, 1) := by kernel_rfl
@[simp] theorem ap83 : apz Tryd.prog #[83, 83] = some (2, 16) := by kernel_rfl
attribute [simp] Tryd.underlying0 Tryd.underlying1 Tryd.underlying2 Tryd.underlying3 Tryd.underlying4 Tryd.underlying5 Tryd.underlying6 Tryd.underlying7 Tryd.underlying8 Tryd.underlying9 Tryd.underlying10 Tryd.underlying11 Tryd.underlying12 Tryd.underlying13 Tryd.underlying14 Tryd.underlying15 Tryd.underlying16 Tryd.underlying17 Tryd.underlying18 Tryd.underlying19 Tryd.underlying20 Tryd.underlying21 Tryd.underlying22 Tryd.underlying23 Tryd.underlying24 Tryd.underlying25 Tryd.underlying26 Tryd.underlying27 Tryd.underlying28 Tryd.underlying29 Tryd.underlying30 Tryd.underlying31 Tryd.underlying32 Tryd.underlying33 Tryd.underlying34 Tryd.underlying35 Tryd.underlying36 Tryd.underlying37 Tryd.underlying38 Tryd.underlying39 Tryd.underlying40 Tryd.underlying41 Tryd.underlying42 Tryd.underlying43 Tryd.underlying44 Tryd.underlying45 Tryd.underlying46 Tryd.underlying47 Tryd.underlying48 Tryd.underlying49 Tryd.underlying50 Tryd.underlying51 Tryd.underlying52 Tryd.underlying53 Tryd.underlying54 Tryd.underlying55 Tryd.underlying56 Tryd.underlying57 Tryd.underlying58 Tryd.underlying59 Tryd.underlying60 Tryd.underlying61 Tryd.underlying62 Tryd.underlying63 Tryd.underlying64 Tryd.underlying65 Tryd.underlying66 Tryd.underlying67 Tryd.underlying68 Tryd.underlying69 Tryd.underlying70 Tryd.underlying71 Tryd.underlying72 Tryd.underlying73 Tryd.underlying74 Tryd.underlying75 Tryd.underlying76 Tryd.underlying77 Tryd.underlying78 Tryd.underlying79 Tryd.underlying80 Tryd.underlying81 Tryd.underlying82 Tryd.underlying83 Tryd.underlying84 Tryd.underlying85 Tryd.underlying86 Tryd.underlying87 Tryd.underlying88 Tryd.underlying89 Tryd.underlying90 Tryd.underlying91 Tryd.underlying92 Tryd.underlying93 Tryd.underlying94 Tryd.underlying95 Tryd.underlying96 Tryd.underlying97 Tryd.underlying98 Tryd.underlying99 Tryd.underlying100 Tryd.underlying101 Tryd.underlying102 Tryd.underlying103 Tryd.underlying104 Tryd.underlying105 Tryd.underlying106 Tryd.underlying107 Tryd.underlying108
@[simp] theorem pu3 : cfg.pure 3 = true := rfl
@[simp] theorem pu4 : cfg.pure 4 = true := rfl
@[simp] theorem pu5 : cfg.pure 5 = true := rfl
@[simp] theorem pu6 : cfg.pure 6 = true := rfl
@[simp] theorem pu7 : cfg.pure 7 = true := rfl
@[simp] theorem pu8 : cfg.pure 8 = true := rfl
@[simp] theorem pu9 : cfg.pure 9 = true := rfl
@[simp] theorem pu10 : cfg.pure 10 = true := rfl
@[simp] theorem pu11 : cfg.pure 11 = true := rfl
@[simp] theorem pu12 : cfg.pure 12 = true := rfl
@[simp] theorem pu13 : cfg.pure 13 = true := rfl
@[simp] theorem pu14 : cfg.pure 14 = true := rfl
@[simp] theorem pu15 : cfg.pure 15 = true := rfl
@[simp] theorem pu16 : cfg.pure 16 = true := rfl
@[simp] theorem pu17 : cfg.pure 17 = true := rfl
@[simp] theorem pu18 : cfg.pure 18 = true := rfl
@[simp] theorem pu19 : cfg.pure 19 = true := rfl
@[simp] theorem pu20 : cfg.pure 20 = true := rfl
@[simp] theorem pu21 : cfg.pure 21 = true := rfl
@[simp] theorem pu22 : cfg.pure 22 = true := rfl
@[simp] theorem pu23 : cfg.pure 23 = true := rfl
@[simp] theorem pu24 : cfg.pure 24 = true := rfl
@[simp] theorem pu28 : cfg.pure 28 = true := rfl
@[simp] theorem pu29 : cfg.pure 29 = true := rfl
@[simp] theorem pu32 : cfg.pure 32 = true := rfl
@[simp] theorem pu33 : cfg.pure 33 = true := rfl
@[simp] theorem pu34 : cfg.pure 34 = true := rfl
@[simp] theorem pu35 : cfg.pure 35 = true := rfl
@[simp] theorem pu36 : cfg.pure 36 = true := rfl
@[simp] theorem pu41 : cfg.pure 41 = true := rfl
@[simp] theorem pu44 : cfg.pure 44 = true := rfl
@[simp] theorem pu45 : cfg.pure 45 = true := rfl
@[simp] theorem pu46 : cfg.pure 46 = true := rfl
@[simp] theorem pu51 : cfg.pure 51 = true := rfl
@[simp] theorem pu53 : cfg.pure 53 = true := rfl
@[simp] theorem pu57 : cfg.pure 57 = true := rfl
@[simp] theorem I25 {k : CC} {K : List Fr} {Q : Ax → St → Prop} {fi ca ar : List V} {h : Heap} (hl : (fi ++ ar ++ ca).length ≤ 8) : wk cfg k K Q (Ci cfg (.func (.func 25) fi ca) ar h) = wp cfg (codeOf Tryd.f25) ⟨tab 8 (lf (fi ++ ar ++ ca)), h, [], .no, none⟩ (.call ([ResultVar.tmp 2]) k :: K) Q := wk_fun cfg rfl Tryd.func25 rfl hl
@[simp] theorem I26 {k : CC} {K : List Fr} {Q : Ax → St → Prop} {fi ca ar : List V} {h : Heap} (hl : (fi ++ ar ++ ca).length ≤ 6) : wk cfg k K Q (Ci cfg (.func (.func 26) fi ca) ar h) = wp cfg (codeOf Tryd.f26) ⟨tab 6 (lf (fi ++ ar ++ ca)), h, [], .no, none⟩ (.call ([ResultVar.tmp 4]) k :: K) Q := wk_fun cfg rfl Tryd.func26 rfl hl
@[simp] theorem I27 {k : CC} {K : List Fr} {Q : Ax → St → Prop} {fi ca ar : List V} {h : Heap} (hl : (fi ++ ar ++ ca).length ≤ 5) : wk cfg k K Q (Ci cfg (.func (.func 27) fi ca) ar h) = wp cfg (codeOf Tryd.f27) ⟨tab 5 (lf (fi ++ ar ++ ca)), h, [], .no, none⟩ (.call ([ResultVar.tmp 2]) k :: K) Q := wk_fun cfg rfl Tryd.func27 rfl hl
@[simp] theorem I30 {k : CC} {K : List Fr} {Q : Ax → St → Prop} {fi ca ar : List V} {h : Heap} (hl : (fi ++ ar ++ ca).length ≤ 7) : wk cfg k K Q (Ci cfg (.func (.func 30) fi ca) ar h) = wp cfg (codeOf Tryd.f30) ⟨tab 7 (lf (fi ++ ar ++ ca)), h, [], .no, none⟩ (.call ([ResultVar.tmp 3]) k :: K) Q := wk_fun cfg rfl Tryd.func30 rfl hl
@[simp] theorem I31 {k : CC} {K : List Fr} {Q : Ax → St → Prop} {fi ca ar : List V} {h : Heap} (hl : (fi ++ ar ++ ca).length ≤ 28) : wk cfg k K Q (Ci cfg (.func (.func 31) fi ca) ar h) = wp cfg (codeOf Tryd.f31) ⟨tab 28 (lf (fi ++ ar ++ ca)), h, [], .no, none⟩ (.call ([]) k :: K) Q := wk_fun cfg rfl Tryd.func31 rfl hl
@[simp] theorem I37 {k : CC} {K : List Fr} {Q : Ax → St → Prop} {fi ca ar : List V} {h : Heap} (hl : (fi ++ ar ++ ca).length ≤ 20) : wk cfg k K Q (Ci cfg (.func (.func 37) fi ca) ar h) = wp cfg (codeOf Tryd.f37) ⟨tab 20 (lf (fi ++ ar ++ ca)), h, [], .no, none⟩ (.call ([ResultVar.tmp 0]) k :: K) Q := wk_fun cfg rfl Tryd.func37 rfl hl
@[simp] theorem I38 {k : CC} {K : List Fr} {Q : Ax → St → Prop} {fi ca ar : List V} {h : Heap} (hl : (fi ++ ar ++ ca).length ≤ 16) : wk cfg k K Q (Ci cfg (.func (.func 38) fi ca) ar h) = wp cfg (codeOf Tryd.f38) ⟨tab 16 (lf (fi ++ ar ++ ca)), h, [], .no, none⟩ (.call ([]) k :: K) Q := wk_fun cfg rfl Tryd.func38 rfl hl
@[simp] theorem I39 {k : CC} {K : List Fr} {Q : Ax → St → Prop} {fi ca ar : List V} {h : Heap} (hl : (fi ++ ar ++ ca).length ≤ 5) : wk cfg k K Q (Ci cfg (.func (.func 39) fi ca) ar h) = wp cfg (codeOf Tryd.f39) ⟨tab 5 (lf (fi ++ ar ++ ca)), h, [], .no, none⟩ (.call ([ResultVar.tmp 2]) k :: K) Q := wk_fun cfg rfl Tryd.func39 rfl hl
@[simp] theorem I40 {k : CC} {K : List Fr} {Q : Ax → St → Prop} {fi ca ar : List V} {h : Heap} (hl : (fi ++ ar ++ ca).length ≤ 4) : wk cfg k K Q (Ci cfg (.func (.func 40) fi ca) ar h) = wp cfg (codeOf Tryd.f40) ⟨tab 4 (lf (fi ++ ar ++ ca)), h, [], .no, none⟩ (.call ([ResultVar.tmp 2]) k :: K) Q := wk_fun cfg rfl Tryd.func40 rfl hl
@[simp] theorem I42 {k : CC} {K : List Fr} {Q : Ax → St → Prop} {fi ca ar : List V} {h : Heap} (hl : (fi ++ ar ++ ca).length ≤ 38) : wk cfg k K Q (Ci cfg (.func (.func 42) fi ca) ar h) = wp cfg (codeOf Tryd.f42) ⟨tab 38 (lf (fi ++ ar ++ ca)), h, [], .no, none⟩ (.call ([]) k :: K) Q := wk_fun cfg rfl Tryd.func42 rfl hl
@[simp] theorem I43 {k : CC} {K : List Fr} {Q : Ax → St → Prop} {fi ca ar : List V} {h : Heap} (hl : (fi ++ ar ++ ca).length ≤ 24) : wk cfg k K Q (Ci cfg (.func (.func 43) fi ca) ar h) = wp cfg (codeOf Tryd.f43) ⟨tab 24 (lf (fi ++ ar ++ ca)), h, [], .no, none⟩ (.call ([ResultVar.tmp 2]) k :: K) Q := wk_fun cfg rfl Tryd.func43 rfl hl
@[simp] theorem I47 {k : CC} {K : List Fr} {Q : Ax → St → Prop} {fi ca ar : List V} {h : Heap} (hl : (fi ++ ar ++ ca).length ≤ 17) : wk cfg k K Q (Ci cfg (.func (.func 47) fi ca) ar h) = wp cfg (codeOf Tryd.f47) ⟨tab 17 (lf (fi ++ ar ++ ca)), h, [], .no, none⟩ (.call ([ResultVar.tmp 2]) k :: K) Q := wk_fun cfg rfl Tryd.func47 rfl hl
@[simp] theorem I48 {k : CC} {K : List Fr} {Q : Ax → St → Prop} {fi ca ar : List V} {h : Heap} (hl : (fi ++ ar ++ ca).length ≤ 4) : wk cfg k K Q (Ci cfg (.func (.func 48) fi ca) ar h) = wp cfg (codeOf Tryd.f48) ⟨tab 4 (lf (fi ++ ar ++ ca)), h, [], .no, none⟩ (.call ([ResultVar.tmp 2]) k :: K) Q := wk_fun cfg rfl Tryd.func48 rfl hl
@[simp] theorem I49 {k : CC} {K : List Fr} {Q : Ax → St → Prop} {fi ca ar : List V} {h : Heap} (hl : (fi ++ ar ++ ca).length ≤ 13) : wk cfg k K Q (Ci cfg (.func (.func 49) fi ca) ar h) = wp cfg (codeOf Tryd.f49) ⟨tab 13 (lf (fi ++ ar ++ ca)), h, [], .no, none⟩ (.call ([ResultVar.tmp 4]) k :: K) Q := wk_fun cfg rfl Tryd.func49 rfl hl
@[simp] theorem I50 {k : CC} {K : List Fr} {Q : Ax → St → Prop} {fi ca ar : List V} {h : Heap} (hl : (fi ++ ar ++ ca).length ≤ 29) : wk cfg k K Q (Ci cfg (.func (.func 50) fi ca) ar h) = wp cfg (codeOf Tryd.f50) ⟨tab 29 (lf (fi ++ ar ++ ca)), h, [], .no, none⟩ (.call ([]) k :: K) Q := wk_fun cfg rfl Tryd.func50 rfl hl
@[simp] theorem I52 {k : CC} {K : List Fr} {Q : Ax → St → Prop} {fi ca ar : List V} {h : Heap} (hl : (fi ++ ar ++ ca).length ≤ 16) : wk cfg k K Q (Ci cfg (.func (.func 52) fi ca) ar h) = wp cfg (codeOf Tryd.f52) ⟨tab 16 (lf (fi ++ ar ++ ca)), h, [], .no, none⟩ (.call ([ResultVar.tmp 4]) k :: K) Q := wk_fun cfg rfl Tryd.func52 rfl hl
@[simp] theorem I54 {k : CC} {K : List Fr} {Q : Ax → St → Prop} {fi ca ar : List V} {h : Heap} (hl : (fi ++ ar ++ ca).length ≤ 7) : wk cfg k K Q (Ci cfg (.func (.func 54) fi ca) ar h) = wp cfg (codeOf Tryd.f54) ⟨tab 7 (lf (fi ++ ar ++ ca)), h, [], .no, none⟩ (.call ([ResultVar.tmp 3]) k :: K) Q := wk_fun cfg rfl Tryd.func54 rfl hl
@[simp] theorem I55 {k : CC} {K : List Fr} {Q : Ax → St → Prop} {fi ca ar : List V} {h : Heap} (hl : (fi ++ ar ++ ca).length ≤ 9) : wk cfg k K Q (Ci cfg (.func (.func 55) fi ca) ar h) = wp cfg (codeOf Tryd.f55) ⟨tab 9 (lf (fi ++ ar ++ ca)), h, [], .no, none⟩ (.call ([ResultVar.tmp 4]) k :: K) Q := wk_fun cfg rfl Tryd.func55 rfl hl
@[simp] theorem I56 {k : CC} {K : List Fr} {Q : Ax → St → Prop} {fi ca ar : List V} {h : Heap} (hl : (fi ++ ar ++ ca).length ≤ 14) : wk cfg k K Q (Ci cfg (.func (.func 56) fi ca) ar h) = wp cfg (codeOf Tryd.f56) ⟨tab 14 (lf (fi ++ ar ++ ca)), h, [], .no, none⟩ (.call ([ResultVar.tmp 3]) k :: K) Q := wk_fun cfg rfl Tryd.func56 rfl hl
@[simp] theorem I58 {k : CC} {K : List Fr} {Q : Ax → St → Prop} {fi ca ar : List V} {h : Heap} (hl : (fi ++ ar ++ ca).length ≤ 78) : wk cfg k K Q (Ci cfg (.func (.func 58) fi ca) ar h) = wp cfg (codeOf Tryd.f58) ⟨tab 78 (lf (fi ++ ar ++ ca)), h, [], .no, none⟩ (.call ([ResultVar.tmp 4]) k :: K) Q := wk_fun cfg rfl Tryd.func58 rfl hl
@[simp] theorem I59 {k : CC} {K : List Fr} {Q : Ax → St → Prop} {fi ca ar : List V} {h : Heap} (hl : (fi ++ ar ++ ca).length ≤ 19) : wk cfg k K Q (Ci cfg (.func (.func 59) fi ca) ar h) = wp cfg (codeOf Tryd.f59) ⟨tab 19 (lf (fi ++ ar ++ ca)), h, [], .no, none⟩ (.call ([ResultVar.tmp 4]) k :: K) Q := wk_fun cfg rfl Tryd.func59 rfl hl
@[simp] theorem I80 {k : CC} {K : List Fr} {Q : Ax → St → Prop} {fi ca ar : List V} {h : Heap} (hl : (fi ++ ar ++ ca).length ≤ 6) : wk cfg k K Q (Ci cfg (.func (.func 80) fi ca) ar h) = wp cfg (codeOf Tryd.f80) ⟨tab 6 (lf (fi ++ ar ++ ca)), h, [], .no, none⟩ (.call ([]) k :: K) Q := wk_fun cfg rfl Tryd.func80 rfl hl
end Go.Ab
