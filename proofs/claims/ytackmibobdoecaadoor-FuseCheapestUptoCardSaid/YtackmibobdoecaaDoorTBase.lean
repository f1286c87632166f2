/- The seat's base: how her program is run, and facts of her types. -/
import Derived.Test.YtackmibobdoecaaDoorAbsD
import Derived.Test.YtackmibobdoecaaDoorAbsC
import Derived.Test.YtackmibobdoecaaDoorRows
set_option linter.unusedVariables false
set_option linter.unusedSimpArgs false
set_option linter.unusedSectionVars false
set_option linter.deprecated false
namespace Go.Ab
open Go.Proofs
set_option maxRecDepth 100000
def pureL : List Nat := [3, 4, 5, 6, 7, 8, 9, 10, 11, 12, 13, 14, 15, 16, 17, 18, 19, 20, 21, 22, 23, 24, 25, 27, 28, 30, 31, 32, 35, 36, 37, 38, 40, 41, 42, 43, 44, 46, 47, 54, 55, 56, 57, 58, 59, 61, 66, 67, 68, 69, 70, 73, 75, 76, 77, 78, 79, 81, 89, 90, 91, 94, 98, 99, 100, 101]
noncomputable def globs : Nat → Option (List V) := fun g => if g = 0 then some (dV Go.Pinned.utf8First) else if g = 1 then some (dV (H := Unit) Go.Proofs.YtackmibobdoecaaDoor.Rows.laid_unicode_utf8_acceptRanges) else none
noncomputable def cfg0 : Cfg where
  P := Tryd.prog
  pure := fun f => pureL.contains f
  ext := ext0
  kill := false
  glob := globs
  blk := fun p => [].contains p
  mrow := fun p => ["fuse.go:60", "ref.go:71", "law.go:28"].contains p
def extE (f : FuncId) (xs : List V) : Option CRes := if [].contains f then (match xs with
  | [.row false false [] 0 none] => some (.ret (.row false false [] 0 none))
  | _ => none) else none
noncomputable def cfg : Cfg := { cfg0 with ext := extE }
@[simp] theorem cfgP : cfg.P = Tryd.prog := rfl
@[simp] theorem cfgG : cfg.glob = globs := rfl
theorem cfgp (f : FuncId) : cfg.pure f = pureL.contains f := rfl
@[simp] theorem cfgK : cfg.kill = false := rfl
@[simp] theorem cfgB (p : String) : cfg.blk p = [].contains p := rfl
@[simp] theorem cfgM (p : String) : cfg.mrow p = ["fuse.go:60", "ref.go:71", "law.go:28"].contains p := rfl
theorem hP : PrOk Tryd.prog := prOk_of (by kernel_rfl) (by kernel_rfl)
/-- what is said of a function -/
abbrev PS (f : FuncId) (xs : List V) (r : CRes) : Prop := PSim Tryd.prog globs f xs r
theorem hX : ExtOk cfg := by
  intro f xs r h
  change extE f xs = some r at h
  unfold extE at h
  split at h
  · rename_i hf
    split at h
    · simp only [Option.some.injEq] at h
      subst h
      simp at hf
    · cases h
  · cases h
theorem ps_of {f : FuncId} {xs : List V} {r : CRes} (h : Kc cfg f xs r) : PS f xs r := psim_of_inf (c := cfg) hP hX h
/-- by the kernel alone -/
theorem kc_run {f : FuncId} {xs : List V} {r : CRes} {n : Nat} (h : outS (bodyS cfg (run cfg n).E (run cfg n).D f xs emptyH) = some r) : Kc cfg f xs r := by
  unfold Kc
  cases hb : bodyS cfg (run cfg n).E (run cfg n).D f xs emptyH with
  | none => rw [hb] at h; cases h
  | some y =>
    have hD : DAp (fun _ => Di cfg) (run cfg n).D := fun f a h p r hd => ⟨0, fun _ _ => Di_some.2 ⟨n, hd⟩⟩
    obtain ⟨N, hN⟩ := bodyS_ap (Ei_up cfg n) hD hb
    rw [hN N (Nat.le_refl _), ← hb]
    exact h
@[simp] theorem dn_loop_exit' {s : St} {b : Code} {K : List Fr} {Q : Ax → St → Prop} (i : Nat) : dn cfg (.exit i) s (.loop b :: K) Q = dn cfg (.exit i) s K Q := dn_loop_exit cfg rfl i
@[simp] theorem dn_loop_ret' {s : St} {b : Code} {K : List Fr} {Q : Ax → St → Prop} : dn cfg .ret s (.loop b :: K) Q = dn cfg .ret s K Q := dn_loop_ret cfg rfl
@[simp] theorem dn_loop_panic' {s : St} {b : Code} {K : List Fr} {Q : Ax → St → Prop} (v : V) : dn cfg (.panic v) s (.loop b :: K) Q = dn cfg (.panic v) s K Q := dn_loop_panic cfg rfl v
@[simp] theorem sz0 : szO Tryd.prog 0 = some 1 := by kernel_rfl
@[simp] theorem ag0 : isAggO Tryd.prog 0 = some false := by kernel_rfl
@[simp] theorem by0 : bytesO Tryd.prog 0 = some 0 := by kernel_rfl
@[simp] theorem sz1 : szO Tryd.prog 1 = some 1 := by kernel_rfl
@[simp] theorem ag1 : isAggO Tryd.prog 1 = some false := by kernel_rfl
@[simp] theorem zc1 : zeroCs Tryd.prog 1 = some [V.nilfunc] := by kernel_rfl
@[simp] theorem zv1 : zeroV Tryd.prog 1 = some V.nilfunc := by kernel_rfl
@[simp] theorem by1 : bytesO Tryd.prog 1 = some 8 := by kernel_rfl
@[simp] theorem sz2 : szO Tryd.prog 2 = some 1 := by kernel_rfl
@[simp] theorem ag2 : isAggO Tryd.prog 2 = some false := by kernel_rfl
@[simp] theorem zc2 : zeroCs Tryd.prog 2 = some [V.int IntKind.i64 (0)] := by kernel_rfl
@[simp] theorem zv2 : zeroV Tryd.prog 2 = some (V.int IntKind.i64 (0)) := by kernel_rfl
@[simp] theorem by2 : bytesO Tryd.prog 2 = some 8 := by kernel_rfl
@[simp] theorem sz3 : szO Tryd.prog 3 = some 1 := by kernel_rfl
@[simp] theorem ag3 : isAggO Tryd.prog 3 = some false := by kernel_rfl
@[simp] theorem zc3 : zeroCs Tryd.prog 3 = some [V.int IntKind.i64 (0)] := by kernel_rfl
@[simp] theorem zv3 : zeroV Tryd.prog 3 = some (V.int IntKind.i64 (0)) := by kernel_rfl
@[simp] theorem by3 : bytesO Tryd.prog 3 = some 8 := by kernel_rfl
@[simp] theorem sz4 : szO Tryd.prog 4 = some 1 := by kernel_rfl
@[simp] theorem ag4 : isAggO Tryd.prog 4 = some false := by kernel_rfl
@[simp] theorem zc4 : zeroCs Tryd.prog 4 = some [V.bool false] := by kernel_rfl
@[simp] theorem zv4 : zeroV Tryd.prog 4 = some (V.bool false) := by kernel_rfl
@[simp] theorem by4 : bytesO Tryd.prog 4 = some 1 := by kernel_rfl
@[simp] theorem sz5 : szO Tryd.prog 5 = some 1 := by kernel_rfl
@[simp] theorem ag5 : isAggO Tryd.prog 5 = some false := by kernel_rfl
@[simp] theorem zc5 : zeroCs Tryd.prog 5 = some [V.int IntKind.u8 (0)] := by kernel_rfl
@[simp] theorem zv5 : zeroV Tryd.prog 5 = some (V.int IntKind.u8 (0)) := by kernel_rfl
@[simp] theorem by5 : bytesO Tryd.prog 5 = some 1 := by kernel_rfl
@[simp] theorem sz6 : szO Tryd.prog 6 = some 1 := by kernel_rfl
@[simp] theorem ag6 : isAggO Tryd.prog 6 = some false := by kernel_rfl
@[simp] theorem zc6 : zeroCs Tryd.prog 6 = some [V.int IntKind.u8 (0)] := by kernel_rfl
@[simp] theorem zv6 : zeroV Tryd.prog 6 = some (V.int IntKind.u8 (0)) := by kernel_rfl
@[simp] theorem by6 : bytesO Tryd.prog 6 = some 1 := by kernel_rfl
@[simp] theorem sz7 : szO Tryd.prog 7 = some 4 := by kernel_rfl
@[simp] theorem ag7 : isAggO Tryd.prog 7 = some true := by kernel_rfl
@[simp] theorem zc7 : zeroCs Tryd.prog 7 = some [V.int IntKind.i64 (0), V.int IntKind.i64 (0), V.bool false, V.int IntKind.u8 (0)] := by kernel_rfl
@[simp] theorem pl7 : placesO Tryd.prog 7 = some [(0, 1), (1, 1), (2, 1), (3, 1)] := by kernel_rfl
@[simp] theorem zv7 : zeroV Tryd.prog 7 = some (V.agg [V.int IntKind.i64 (0), V.int IntKind.i64 (0), V.bool false, V.int IntKind.u8 (0)]) := by kernel_rfl
@[simp] theorem by7 : bytesO Tryd.prog 7 = some 24 := by kernel_rfl
@[simp] theorem fo7_0 : fieldO Tryd.prog 7 0 = some (0, 2, 1) := by kernel_rfl
@[simp] theorem fo7_1 : fieldO Tryd.prog 7 1 = some (1, 3, 1) := by kernel_rfl
@[simp] theorem fo7_2 : fieldO Tryd.prog 7 2 = some (2, 4, 1) := by kernel_rfl
@[simp] theorem fo7_3 : fieldO Tryd.prog 7 3 = some (3, 6, 1) := by kernel_rfl
@[simp] theorem sz8 : szO Tryd.prog 8 = some 4 := by kernel_rfl
@[simp] theorem ag8 : isAggO Tryd.prog 8 = some true := by kernel_rfl
@[simp] theorem zc8 : zeroCs Tryd.prog 8 = some [V.int IntKind.i64 (0), V.int IntKind.i64 (0), V.bool false, V.int IntKind.u8 (0)] := by kernel_rfl
@[simp] theorem pl8 : placesO Tryd.prog 8 = some [(0, 1), (1, 1), (2, 1), (3, 1)] := by kernel_rfl
@[simp] theorem zv8 : zeroV Tryd.prog 8 = some (V.agg [V.int IntKind.i64 (0), V.int IntKind.i64 (0), V.bool false, V.int IntKind.u8 (0)]) := by kernel_rfl
@[simp] theorem by8 : bytesO Tryd.prog 8 = some 24 := by kernel_rfl
@[simp] theorem fo8_0 : fieldO Tryd.prog 8 0 = some (0, 2, 1) := by kernel_rfl
@[simp] theorem fo8_1 : fieldO Tryd.prog 8 1 = some (1, 3, 1) := by kernel_rfl
@[simp] theorem fo8_2 : fieldO Tryd.prog 8 2 = some (2, 4, 1) := by kernel_rfl
@[simp] theorem fo8_3 : fieldO Tryd.prog 8 3 = some (3, 6, 1) := by kernel_rfl
@[simp] theorem sz9 : szO Tryd.prog 9 = some 1 := by kernel_rfl
@[simp] theorem ag9 : isAggO Tryd.prog 9 = some false := by kernel_rfl
@[simp] theorem zc9 : zeroCs Tryd.prog 9 = some [V.str []] := by kernel_rfl
@[simp] theorem zv9 : zeroV Tryd.prog 9 = some (V.str []) := by kernel_rfl
@[simp] theorem by9 : bytesO Tryd.prog 9 = some 16 := by kernel_rfl
@[simp] theorem sz10 : szO Tryd.prog 10 = some 1 := by kernel_rfl
@[simp] theorem ag10 : isAggO Tryd.prog 10 = some false := by kernel_rfl
@[simp] theorem zc10 : zeroCs Tryd.prog 10 = some [V.str []] := by kernel_rfl
@[simp] theorem zv10 : zeroV Tryd.prog 10 = some (V.str []) := by kernel_rfl
@[simp] theorem by10 : bytesO Tryd.prog 10 = some 16 := by kernel_rfl
@[simp] theorem sz11 : szO Tryd.prog 11 = some 1 := by kernel_rfl
@[simp] theorem ag11 : isAggO Tryd.prog 11 = some false := by kernel_rfl
@[simp] theorem zc11 : zeroCs Tryd.prog 11 = some [V.str []] := by kernel_rfl
@[simp] theorem zv11 : zeroV Tryd.prog 11 = some (V.str []) := by kernel_rfl
@[simp] theorem by11 : bytesO Tryd.prog 11 = some 16 := by kernel_rfl
@[simp] theorem sz12 : szO Tryd.prog 12 = some 1 := by kernel_rfl
@[simp] theorem ag12 : isAggO Tryd.prog 12 = some false := by kernel_rfl
@[simp] theorem zc12 : zeroCs Tryd.prog 12 = some [V.int IntKind.u64 (0)] := by kernel_rfl
@[simp] theorem zv12 : zeroV Tryd.prog 12 = some (V.int IntKind.u64 (0)) := by kernel_rfl
@[simp] theorem by12 : bytesO Tryd.prog 12 = some 8 := by kernel_rfl
@[simp] theorem sz13 : szO Tryd.prog 13 = some 2 := by kernel_rfl
@[simp] theorem ag13 : isAggO Tryd.prog 13 = some true := by kernel_rfl
@[simp] theorem zc13 : zeroCs Tryd.prog 13 = some [V.str [], V.int IntKind.u64 (0)] := by kernel_rfl
@[simp] theorem pl13 : placesO Tryd.prog 13 = some [(0, 1), (1, 1)] := by kernel_rfl
@[simp] theorem zv13 : zeroV Tryd.prog 13 = some (V.agg [V.str [], V.int IntKind.u64 (0)]) := by kernel_rfl
@[simp] theorem by13 : bytesO Tryd.prog 13 = some 24 := by kernel_rfl
@[simp] theorem fo13_0 : fieldO Tryd.prog 13 0 = some (0, 9, 1) := by kernel_rfl
@[simp] theorem fo13_1 : fieldO Tryd.prog 13 1 = some (1, 12, 1) := by kernel_rfl
@[simp] theorem sz14 : szO Tryd.prog 14 = some 2 := by kernel_rfl
@[simp] theorem ag14 : isAggO Tryd.prog 14 = some true := by kernel_rfl
@[simp] theorem zc14 : zeroCs Tryd.prog 14 = some [V.str [], V.int IntKind.u64 (0)] := by kernel_rfl
@[simp] theorem pl14 : placesO Tryd.prog 14 = some [(0, 1), (1, 1)] := by kernel_rfl
@[simp] theorem zv14 : zeroV Tryd.prog 14 = some (V.agg [V.str [], V.int IntKind.u64 (0)]) := by kernel_rfl
@[simp] theorem by14 : bytesO Tryd.prog 14 = some 24 := by kernel_rfl
@[simp] theorem fo14_0 : fieldO Tryd.prog 14 0 = some (0, 9, 1) := by kernel_rfl
@[simp] theorem fo14_1 : fieldO Tryd.prog 14 1 = some (1, 12, 1) := by kernel_rfl
@[simp] theorem sz15 : szO Tryd.prog 15 = some 1 := by kernel_rfl
@[simp] theorem ag15 : isAggO Tryd.prog 15 = some false := by kernel_rfl
@[simp] theorem zc15 : zeroCs Tryd.prog 15 = some [V.nilptr] := by kernel_rfl
@[simp] theorem zv15 : zeroV Tryd.prog 15 = some V.nilptr := by kernel_rfl
@[simp] theorem by15 : bytesO Tryd.prog 15 = some 8 := by kernel_rfl
@[simp] theorem sz16 : szO Tryd.prog 16 = some 1 := by kernel_rfl
@[simp] theorem ag16 : isAggO Tryd.prog 16 = some false := by kernel_rfl
@[simp] theorem zc16 : zeroCs Tryd.prog 16 = some [V.nilptr] := by kernel_rfl
@[simp] theorem zv16 : zeroV Tryd.prog 16 = some V.nilptr := by kernel_rfl
@[simp] theorem by16 : bytesO Tryd.prog 16 = some 8 := by kernel_rfl
@[simp] theorem sz17 : szO Tryd.prog 17 = some 1 := by kernel_rfl
@[simp] theorem ag17 : isAggO Tryd.prog 17 = some false := by kernel_rfl
@[simp] theorem zc17 : zeroCs Tryd.prog 17 = some [V.nilptr] := by kernel_rfl
@[simp] theorem zv17 : zeroV Tryd.prog 17 = some V.nilptr := by kernel_rfl
@[simp] theorem by17 : bytesO Tryd.prog 17 = some 8 := by kernel_rfl
@[simp] theorem sz18 : szO Tryd.prog 18 = some 1 := by kernel_rfl
@[simp] theorem ag18 : isAggO Tryd.prog 18 = some true := by kernel_rfl
@[simp] theorem zc18 : zeroCs Tryd.prog 18 = some [V.nilptr] := by kernel_rfl
@[simp] theorem pl18 : placesO Tryd.prog 18 = some [(0, 1)] := by kernel_rfl
@[simp] theorem zv18 : zeroV Tryd.prog 18 = some (V.agg [V.nilptr]) := by kernel_rfl
@[simp] theorem by18 : bytesO Tryd.prog 18 = some 8 := by kernel_rfl
@[simp] theorem fo18_0 : fieldO Tryd.prog 18 0 = some (0, 17, 1) := by kernel_rfl
@[simp] theorem sz19 : szO Tryd.prog 19 = some 1 := by kernel_rfl
@[simp] theorem ag19 : isAggO Tryd.prog 19 = some true := by kernel_rfl
@[simp] theorem zc19 : zeroCs Tryd.prog 19 = some [V.nilptr] := by kernel_rfl
@[simp] theorem pl19 : placesO Tryd.prog 19 = some [(0, 1)] := by kernel_rfl
@[simp] theorem zv19 : zeroV Tryd.prog 19 = some (V.agg [V.nilptr]) := by kernel_rfl
@[simp] theorem by19 : bytesO Tryd.prog 19 = some 8 := by kernel_rfl
@[simp] theorem fo19_0 : fieldO Tryd.prog 19 0 = some (0, 17, 1) := by kernel_rfl
@[simp] theorem sz20 : szO Tryd.prog 20 = some 1 := by kernel_rfl
@[simp] theorem ag20 : isAggO Tryd.prog 20 = some false := by kernel_rfl
@[simp] theorem zc20 : zeroCs Tryd.prog 20 = some [V.niliface] := by kernel_rfl
@[simp] theorem zv20 : zeroV Tryd.prog 20 = some V.niliface := by kernel_rfl
@[simp] theorem by20 : bytesO Tryd.prog 20 = some 16 := by kernel_rfl
@[simp] theorem sz21 : szO Tryd.prog 21 = some 1 := by kernel_rfl
@[simp] theorem ag21 : isAggO Tryd.prog 21 = some false := by kernel_rfl
@[simp] theorem zc21 : zeroCs Tryd.prog 21 = some [V.int IntKind.i32 (0)] := by kernel_rfl
@[simp] theorem zv21 : zeroV Tryd.prog 21 = some (V.int IntKind.i32 (0)) := by kernel_rfl
@[simp] theorem by21 : bytesO Tryd.prog 21 = some 4 := by kernel_rfl
@[simp] theorem sz22 : szO Tryd.prog 22 = some 1 := by kernel_rfl
@[simp] theorem ag22 : isAggO Tryd.prog 22 = some false := by kernel_rfl
@[simp] theorem zc22 : zeroCs Tryd.prog 22 = some [V.row true true [] 0 none] := by kernel_rfl
@[simp] theorem es22 : esz Tryd.prog 22 = some 1 := by kernel_rfl
@[simp] theorem el22 : elemOfSlice Tryd.prog 22 = some 37 := by kernel_rfl
@[simp] theorem zv22 : zeroV Tryd.prog 22 = some (V.row true true [] 0 none) := by kernel_rfl
@[simp] theorem by22 : bytesO Tryd.prog 22 = some 24 := by kernel_rfl
@[simp] theorem mz22 : mkz Tryd.prog 22 = some (1, 24, [V.row true true [] 0 none]) := by kernel_rfl
@[simp] theorem sz23 : szO Tryd.prog 23 = some 1 := by kernel_rfl
@[simp] theorem ag23 : isAggO Tryd.prog 23 = some false := by kernel_rfl
@[simp] theorem zc23 : zeroCs Tryd.prog 23 = some [V.nilfunc] := by kernel_rfl
@[simp] theorem zv23 : zeroV Tryd.prog 23 = some V.nilfunc := by kernel_rfl
@[simp] theorem by23 : bytesO Tryd.prog 23 = some 8 := by kernel_rfl
@[simp] theorem sz24 : szO Tryd.prog 24 = some 1 := by kernel_rfl
@[simp] theorem ag24 : isAggO Tryd.prog 24 = some false := by kernel_rfl
@[simp] theorem zc24 : zeroCs Tryd.prog 24 = some [V.nilfunc] := by kernel_rfl
@[simp] theorem zv24 : zeroV Tryd.prog 24 = some V.nilfunc := by kernel_rfl
@[simp] theorem by24 : bytesO Tryd.prog 24 = some 8 := by kernel_rfl
@[simp] theorem sz25 : szO Tryd.prog 25 = some 1 := by kernel_rfl
@[simp] theorem ag25 : isAggO Tryd.prog 25 = some false := by kernel_rfl
@[simp] theorem zc25 : zeroCs Tryd.prog 25 = some [V.int IntKind.i64 (0)] := by kernel_rfl
@[simp] theorem zv25 : zeroV Tryd.prog 25 = some (V.int IntKind.i64 (0)) := by kernel_rfl
@[simp] theorem by25 : bytesO Tryd.prog 25 = some 8 := by kernel_rfl
@[simp] theorem sz26 : szO Tryd.prog 26 = some 1 := by kernel_rfl
@[simp] theorem ag26 : isAggO Tryd.prog 26 = some false := by kernel_rfl
@[simp] theorem by26 : bytesO Tryd.prog 26 = some 0 := by kernel_rfl
@[simp] theorem sz27 : szO Tryd.prog 27 = some 1 := by kernel_rfl
@[simp] theorem ag27 : isAggO Tryd.prog 27 = some false := by kernel_rfl
@[simp] theorem zc27 : zeroCs Tryd.prog 27 = some [V.nilfunc] := by kernel_rfl
@[simp] theorem zv27 : zeroV Tryd.prog 27 = some V.nilfunc := by kernel_rfl
@[simp] theorem by27 : bytesO Tryd.prog 27 = some 8 := by kernel_rfl
@[simp] theorem sz28 : szO Tryd.prog 28 = some 1 := by kernel_rfl
@[simp] theorem ag28 : isAggO Tryd.prog 28 = some false := by kernel_rfl
@[simp] theorem zc28 : zeroCs Tryd.prog 28 = some [V.nilfunc] := by kernel_rfl
@[simp] theorem zv28 : zeroV Tryd.prog 28 = some V.nilfunc := by kernel_rfl
@[simp] theorem by28 : bytesO Tryd.prog 28 = some 8 := by kernel_rfl
@[simp] theorem sz29 : szO Tryd.prog 29 = some 1 := by kernel_rfl
@[simp] theorem ag29 : isAggO Tryd.prog 29 = some false := by kernel_rfl
@[simp] theorem zc29 : zeroCs Tryd.prog 29 = some [V.row true true [] 0 none] := by kernel_rfl
@[simp] theorem es29 : esz Tryd.prog 29 = some 1 := by kernel_rfl
@[simp] theorem el29 : elemOfSlice Tryd.prog 29 = some 9 := by kernel_rfl
@[simp] theorem zv29 : zeroV Tryd.prog 29 = some (V.row true true [] 0 none) := by kernel_rfl
@[simp] theorem by29 : bytesO Tryd.prog 29 = some 24 := by kernel_rfl
@[simp] theorem mz29 : mkz Tryd.prog 29 = some (1, 16, [V.str []]) := by kernel_rfl
@[simp] theorem sz30 : szO Tryd.prog 30 = some 1 := by kernel_rfl
@[simp] theorem ag30 : isAggO Tryd.prog 30 = some false := by kernel_rfl
@[simp] theorem zc30 : zeroCs Tryd.prog 30 = some [V.row true true [] 0 none] := by kernel_rfl
@[simp] theorem es30 : esz Tryd.prog 30 = some 1 := by kernel_rfl
@[simp] theorem el30 : elemOfSlice Tryd.prog 30 = some 3 := by kernel_rfl
@[simp] theorem zv30 : zeroV Tryd.prog 30 = some (V.row true true [] 0 none) := by kernel_rfl
@[simp] theorem by30 : bytesO Tryd.prog 30 = some 24 := by kernel_rfl
@[simp] theorem mz30 : mkz Tryd.prog 30 = some (1, 8, [V.int IntKind.i64 (0)]) := by kernel_rfl
@[simp] theorem sz31 : szO Tryd.prog 31 = some 1 := by kernel_rfl
@[simp] theorem ag31 : isAggO Tryd.prog 31 = some false := by kernel_rfl
@[simp] theorem by31 : bytesO Tryd.prog 31 = some 0 := by kernel_rfl
@[simp] theorem sz32 : szO Tryd.prog 32 = some 1 := by kernel_rfl
@[simp] theorem ag32 : isAggO Tryd.prog 32 = some false := by kernel_rfl
@[simp] theorem zc32 : zeroCs Tryd.prog 32 = some [V.nilfunc] := by kernel_rfl
@[simp] theorem zv32 : zeroV Tryd.prog 32 = some V.nilfunc := by kernel_rfl
@[simp] theorem by32 : bytesO Tryd.prog 32 = some 8 := by kernel_rfl
@[simp] theorem sz33 : szO Tryd.prog 33 = some 1 := by kernel_rfl
@[simp] theorem ag33 : isAggO Tryd.prog 33 = some false := by kernel_rfl
@[simp] theorem zc33 : zeroCs Tryd.prog 33 = some [V.nilfunc] := by kernel_rfl
@[simp] theorem zv33 : zeroV Tryd.prog 33 = some V.nilfunc := by kernel_rfl
@[simp] theorem by33 : bytesO Tryd.prog 33 = some 8 := by kernel_rfl
@[simp] theorem sz34 : szO Tryd.prog 34 = some 1 := by kernel_rfl
@[simp] theorem ag34 : isAggO Tryd.prog 34 = some false := by kernel_rfl
@[simp] theorem zc34 : zeroCs Tryd.prog 34 = some [V.nilfunc] := by kernel_rfl
@[simp] theorem zv34 : zeroV Tryd.prog 34 = some V.nilfunc := by kernel_rfl
@[simp] theorem by34 : bytesO Tryd.prog 34 = some 8 := by kernel_rfl
@[simp] theorem sz35 : szO Tryd.prog 35 = some 1 := by kernel_rfl
@[simp] theorem ag35 : isAggO Tryd.prog 35 = some false := by kernel_rfl
@[simp] theorem by35 : bytesO Tryd.prog 35 = some 0 := by kernel_rfl
@[simp] theorem sz36 : szO Tryd.prog 36 = some 1 := by kernel_rfl
@[simp] theorem ag36 : isAggO Tryd.prog 36 = some false := by kernel_rfl
@[simp] theorem zc36 : zeroCs Tryd.prog 36 = some [V.nilfunc] := by kernel_rfl
@[simp] theorem zv36 : zeroV Tryd.prog 36 = some V.nilfunc := by kernel_rfl
@[simp] theorem by36 : bytesO Tryd.prog 36 = some 8 := by kernel_rfl
@[simp] theorem sz37 : szO Tryd.prog 37 = some 1 := by kernel_rfl
@[simp] theorem ag37 : isAggO Tryd.prog 37 = some false := by kernel_rfl
@[simp] theorem zc37 : zeroCs Tryd.prog 37 = some [V.row true true [] 0 none] := by kernel_rfl
@[simp] theorem es37 : esz Tryd.prog 37 = some 2 := by kernel_rfl
@[simp] theorem el37 : elemOfSlice Tryd.prog 37 = some 40 := by kernel_rfl
@[simp] theorem zv37 : zeroV Tryd.prog 37 = some (V.row true true [] 0 none) := by kernel_rfl
@[simp] theorem by37 : bytesO Tryd.prog 37 = some 24 := by kernel_rfl
@[simp] theorem mz37 : mkz Tryd.prog 37 = some (2, 40, [V.str [], V.row true true [] 0 none]) := by kernel_rfl
@[simp] theorem sz38 : szO Tryd.prog 38 = some 1 := by kernel_rfl
@[simp] theorem ag38 : isAggO Tryd.prog 38 = some false := by kernel_rfl
@[simp] theorem zc38 : zeroCs Tryd.prog 38 = some [V.nilfunc] := by kernel_rfl
@[simp] theorem zv38 : zeroV Tryd.prog 38 = some V.nilfunc := by kernel_rfl
@[simp] theorem by38 : bytesO Tryd.prog 38 = some 8 := by kernel_rfl
@[simp] theorem sz39 : szO Tryd.prog 39 = some 2 := by kernel_rfl
@[simp] theorem ag39 : isAggO Tryd.prog 39 = some true := by kernel_rfl
@[simp] theorem zc39 : zeroCs Tryd.prog 39 = some [V.str [], V.row true true [] 0 none] := by kernel_rfl
@[simp] theorem pl39 : placesO Tryd.prog 39 = some [(0, 1), (1, 1)] := by kernel_rfl
@[simp] theorem zv39 : zeroV Tryd.prog 39 = some (V.agg [V.str [], V.row true true [] 0 none]) := by kernel_rfl
@[simp] theorem by39 : bytesO Tryd.prog 39 = some 40 := by kernel_rfl
@[simp] theorem fo39_0 : fieldO Tryd.prog 39 0 = some (0, 9, 1) := by kernel_rfl
@[simp] theorem fo39_1 : fieldO Tryd.prog 39 1 = some (1, 29, 1) := by kernel_rfl
@[simp] theorem sz40 : szO Tryd.prog 40 = some 2 := by kernel_rfl
@[simp] theorem ag40 : isAggO Tryd.prog 40 = some true := by kernel_rfl
@[simp] theorem zc40 : zeroCs Tryd.prog 40 = some [V.str [], V.row true true [] 0 none] := by kernel_rfl
@[simp] theorem pl40 : placesO Tryd.prog 40 = some [(0, 1), (1, 1)] := by kernel_rfl
@[simp] theorem zv40 : zeroV Tryd.prog 40 = some (V.agg [V.str [], V.row true true [] 0 none]) := by kernel_rfl
@[simp] theorem by40 : bytesO Tryd.prog 40 = some 40 := by kernel_rfl
@[simp] theorem fo40_0 : fieldO Tryd.prog 40 0 = some (0, 9, 1) := by kernel_rfl
@[simp] theorem fo40_1 : fieldO Tryd.prog 40 1 = some (1, 29, 1) := by kernel_rfl
@[simp] theorem sz41 : szO Tryd.prog 41 = some 1 := by kernel_rfl
@[simp] theorem ag41 : isAggO Tryd.prog 41 = some false := by kernel_rfl
@[simp] theorem zc41 : zeroCs Tryd.prog 41 = some [V.nilfunc] := by kernel_rfl
@[simp] theorem zv41 : zeroV Tryd.prog 41 = some V.nilfunc := by kernel_rfl
@[simp] theorem by41 : bytesO Tryd.prog 41 = some 8 := by kernel_rfl
@[simp] theorem sz42 : szO Tryd.prog 42 = some 1 := by kernel_rfl
@[simp] theorem ag42 : isAggO Tryd.prog 42 = some false := by kernel_rfl
@[simp] theorem zc42 : zeroCs Tryd.prog 42 = some [V.nilfunc] := by kernel_rfl
@[simp] theorem zv42 : zeroV Tryd.prog 42 = some V.nilfunc := by kernel_rfl
@[simp] theorem by42 : bytesO Tryd.prog 42 = some 8 := by kernel_rfl
@[simp] theorem sz43 : szO Tryd.prog 43 = some 1 := by kernel_rfl
@[simp] theorem ag43 : isAggO Tryd.prog 43 = some false := by kernel_rfl
@[simp] theorem by43 : bytesO Tryd.prog 43 = some 0 := by kernel_rfl
@[simp] theorem sz44 : szO Tryd.prog 44 = some 1 := by kernel_rfl
@[simp] theorem ag44 : isAggO Tryd.prog 44 = some false := by kernel_rfl
@[simp] theorem zc44 : zeroCs Tryd.prog 44 = some [V.nilfunc] := by kernel_rfl
@[simp] theorem zv44 : zeroV Tryd.prog 44 = some V.nilfunc := by kernel_rfl
@[simp] theorem by44 : bytesO Tryd.prog 44 = some 8 := by kernel_rfl
@[simp] theorem sz45 : szO Tryd.prog 45 = some 1 := by kernel_rfl
@[simp] theorem ag45 : isAggO Tryd.prog 45 = some false := by kernel_rfl
@[simp] theorem zc45 : zeroCs Tryd.prog 45 = some [V.nilfunc] := by kernel_rfl
@[simp] theorem zv45 : zeroV Tryd.prog 45 = some V.nilfunc := by kernel_rfl
@[simp] theorem by45 : bytesO Tryd.prog 45 = some 8 := by kernel_rfl
@[simp] theorem sz46 : szO Tryd.prog 46 = some 1 := by kernel_rfl
@[simp] theorem ag46 : isAggO Tryd.prog 46 = some false := by kernel_rfl
@[simp] theorem zc46 : zeroCs Tryd.prog 46 = some [V.nilfunc] := by kernel_rfl
@[simp] theorem zv46 : zeroV Tryd.prog 46 = some V.nilfunc := by kernel_rfl
@[simp] theorem by46 : bytesO Tryd.prog 46 = some 8 := by kernel_rfl
@[simp] theorem sz47 : szO Tryd.prog 47 = some 1 := by kernel_rfl
@[simp] theorem ag47 : isAggO Tryd.prog 47 = some false := by kernel_rfl
@[simp] theorem zc47 : zeroCs Tryd.prog 47 = some [V.nilfunc] := by kernel_rfl
@[simp] theorem zv47 : zeroV Tryd.prog 47 = some V.nilfunc := by kernel_rfl
@[simp] theorem by47 : bytesO Tryd.prog 47 = some 8 := by kernel_rfl
@[simp] theorem sz48 : szO Tryd.prog 48 = some 1 := by kernel_rfl
@[simp] theorem ag48 : isAggO Tryd.prog 48 = some false := by kernel_rfl
@[simp] theorem zc48 : zeroCs Tryd.prog 48 = some [V.nilfunc] := by kernel_rfl
@[simp] theorem zv48 : zeroV Tryd.prog 48 = some V.nilfunc := by kernel_rfl
@[simp] theorem by48 : bytesO Tryd.prog 48 = some 8 := by kernel_rfl
@[simp] theorem sz49 : szO Tryd.prog 49 = some 1 := by kernel_rfl
@[simp] theorem ag49 : isAggO Tryd.prog 49 = some false := by kernel_rfl
@[simp] theorem zc49 : zeroCs Tryd.prog 49 = some [V.nilfunc] := by kernel_rfl
@[simp] theorem zv49 : zeroV Tryd.prog 49 = some V.nilfunc := by kernel_rfl
@[simp] theorem by49 : bytesO Tryd.prog 49 = some 8 := by kernel_rfl
@[simp] theorem sz50 : szO Tryd.prog 50 = some 1 := by kernel_rfl
@[simp] theorem ag50 : isAggO Tryd.prog 50 = some false := by kernel_rfl
@[simp] theorem zc50 : zeroCs Tryd.prog 50 = some [V.nilmap] := by kernel_rfl
@[simp] theorem zv50 : zeroV Tryd.prog 50 = some V.nilmap := by kernel_rfl
@[simp] theorem by50 : bytesO Tryd.prog 50 = some 8 := by kernel_rfl
@[simp] theorem sz51 : szO Tryd.prog 51 = some 1 := by kernel_rfl
@[simp] theorem ag51 : isAggO Tryd.prog 51 = some false := by kernel_rfl
@[simp] theorem zc51 : zeroCs Tryd.prog 51 = some [V.nilfunc] := by kernel_rfl
@[simp] theorem zv51 : zeroV Tryd.prog 51 = some V.nilfunc := by kernel_rfl
@[simp] theorem by51 : bytesO Tryd.prog 51 = some 8 := by kernel_rfl
@[simp] theorem sz52 : szO Tryd.prog 52 = some 1 := by kernel_rfl
@[simp] theorem ag52 : isAggO Tryd.prog 52 = some false := by kernel_rfl
@[simp] theorem zc52 : zeroCs Tryd.prog 52 = some [V.nilptr] := by kernel_rfl
@[simp] theorem zv52 : zeroV Tryd.prog 52 = some V.nilptr := by kernel_rfl
@[simp] theorem by52 : bytesO Tryd.prog 52 = some 8 := by kernel_rfl
@[simp] theorem sz53 : szO Tryd.prog 53 = some 4 := by kernel_rfl
@[simp] theorem ag53 : isAggO Tryd.prog 53 = some true := by kernel_rfl
@[simp] theorem zc53 : zeroCs Tryd.prog 53 = some [V.row true true [] 0 none, V.row true true [] 0 none, V.row true true [] 0 none, V.int IntKind.i64 (0)] := by kernel_rfl
@[simp] theorem pl53 : placesO Tryd.prog 53 = some [(0, 1), (1, 1), (2, 1), (3, 1)] := by kernel_rfl
@[simp] theorem zv53 : zeroV Tryd.prog 53 = some (V.agg [V.row true true [] 0 none, V.row true true [] 0 none, V.row true true [] 0 none, V.int IntKind.i64 (0)]) := by kernel_rfl
@[simp] theorem by53 : bytesO Tryd.prog 53 = some 80 := by kernel_rfl
@[simp] theorem fo53_0 : fieldO Tryd.prog 53 0 = some (0, 22, 1) := by kernel_rfl
@[simp] theorem fo53_1 : fieldO Tryd.prog 53 1 = some (1, 22, 1) := by kernel_rfl
@[simp] theorem fo53_2 : fieldO Tryd.prog 53 2 = some (2, 37, 1) := by kernel_rfl
@[simp] theorem fo53_3 : fieldO Tryd.prog 53 3 = some (3, 3, 1) := by kernel_rfl
@[simp] theorem sz54 : szO Tryd.prog 54 = some 4 := by kernel_rfl
@[simp] theorem ag54 : isAggO Tryd.prog 54 = some true := by kernel_rfl
@[simp] theorem zc54 : zeroCs Tryd.prog 54 = some [V.row true true [] 0 none, V.row true true [] 0 none, V.row true true [] 0 none, V.int IntKind.i64 (0)] := by kernel_rfl
@[simp] theorem pl54 : placesO Tryd.prog 54 = some [(0, 1), (1, 1), (2, 1), (3, 1)] := by kernel_rfl
@[simp] theorem zv54 : zeroV Tryd.prog 54 = some (V.agg [V.row true true [] 0 none, V.row true true [] 0 none, V.row true true [] 0 none, V.int IntKind.i64 (0)]) := by kernel_rfl
@[simp] theorem by54 : bytesO Tryd.prog 54 = some 80 := by kernel_rfl
@[simp] theorem fo54_0 : fieldO Tryd.prog 54 0 = some (0, 22, 1) := by kernel_rfl
@[simp] theorem fo54_1 : fieldO Tryd.prog 54 1 = some (1, 22, 1) := by kernel_rfl
@[simp] theorem fo54_2 : fieldO Tryd.prog 54 2 = some (2, 37, 1) := by kernel_rfl
@[simp] theorem fo54_3 : fieldO Tryd.prog 54 3 = some (3, 3, 1) := by kernel_rfl
@[simp] theorem sz55 : szO Tryd.prog 55 = some 1 := by kernel_rfl
@[simp] theorem ag55 : isAggO Tryd.prog 55 = some false := by kernel_rfl
@[simp] theorem zc55 : zeroCs Tryd.prog 55 = some [V.nilfunc] := by kernel_rfl
@[simp] theorem zv55 : zeroV Tryd.prog 55 = some V.nilfunc := by kernel_rfl
@[simp] theorem by55 : bytesO Tryd.prog 55 = some 8 := by kernel_rfl
@[simp] theorem sz56 : szO Tryd.prog 56 = some 1 := by kernel_rfl
@[simp] theorem ag56 : isAggO Tryd.prog 56 = some false := by kernel_rfl
@[simp] theorem zc56 : zeroCs Tryd.prog 56 = some [V.nilfunc] := by kernel_rfl
@[simp] theorem zv56 : zeroV Tryd.prog 56 = some V.nilfunc := by kernel_rfl
@[simp] theorem by56 : bytesO Tryd.prog 56 = some 8 := by kernel_rfl
@[simp] theorem sz57 : szO Tryd.prog 57 = some 1 := by kernel_rfl
@[simp] theorem ag57 : isAggO Tryd.prog 57 = some false := by kernel_rfl
@[simp] theorem zc57 : zeroCs Tryd.prog 57 = some [V.nilfunc] := by kernel_rfl
@[simp] theorem zv57 : zeroV Tryd.prog 57 = some V.nilfunc := by kernel_rfl
@[simp] theorem by57 : bytesO Tryd.prog 57 = some 8 := by kernel_rfl
@[simp] theorem sz58 : szO Tryd.prog 58 = some 1 := by kernel_rfl
@[simp] theorem ag58 : isAggO Tryd.prog 58 = some false := by kernel_rfl
@[simp] theorem zc58 : zeroCs Tryd.prog 58 = some [V.nilfunc] := by kernel_rfl
@[simp] theorem zv58 : zeroV Tryd.prog 58 = some V.nilfunc := by kernel_rfl
@[simp] theorem by58 : bytesO Tryd.prog 58 = some 8 := by kernel_rfl
@[simp] theorem sz59 : szO Tryd.prog 59 = some 1 := by kernel_rfl
@[simp] theorem ag59 : isAggO Tryd.prog 59 = some false := by kernel_rfl
@[simp] theorem zc59 : zeroCs Tryd.prog 59 = some [V.nilfunc] := by kernel_rfl
@[simp] theorem zv59 : zeroV Tryd.prog 59 = some V.nilfunc := by kernel_rfl
@[simp] theorem by59 : bytesO Tryd.prog 59 = some 8 := by kernel_rfl
@[simp] theorem sz60 : szO Tryd.prog 60 = some 1 := by kernel_rfl
@[simp] theorem ag60 : isAggO Tryd.prog 60 = some false := by kernel_rfl
@[simp] theorem zc60 : zeroCs Tryd.prog 60 = some [V.nilptr] := by kernel_rfl
@[simp] theorem zv60 : zeroV Tryd.prog 60 = some V.nilptr := by kernel_rfl
@[simp] theorem by60 : bytesO Tryd.prog 60 = some 8 := by kernel_rfl
@[simp] theorem sz61 : szO Tryd.prog 61 = some 2 := by kernel_rfl
@[simp] theorem ag61 : isAggO Tryd.prog 61 = some true := by kernel_rfl
@[simp] theorem zc61 : zeroCs Tryd.prog 61 = some [V.row true true [] 0 none, V.row true true [] 0 none] := by kernel_rfl
@[simp] theorem pl61 : placesO Tryd.prog 61 = some [(0, 1), (1, 1)] := by kernel_rfl
@[simp] theorem zv61 : zeroV Tryd.prog 61 = some (V.agg [V.row true true [] 0 none, V.row true true [] 0 none]) := by kernel_rfl
@[simp] theorem by61 : bytesO Tryd.prog 61 = some 48 := by kernel_rfl
@[simp] theorem fo61_0 : fieldO Tryd.prog 61 0 = some (0, 29, 1) := by kernel_rfl
@[simp] theorem fo61_1 : fieldO Tryd.prog 61 1 = some (1, 29, 1) := by kernel_rfl
@[simp] theorem sz62 : szO Tryd.prog 62 = some 2 := by kernel_rfl
@[simp] theorem ag62 : isAggO Tryd.prog 62 = some true := by kernel_rfl
@[simp] theorem zc62 : zeroCs Tryd.prog 62 = some [V.row true true [] 0 none, V.row true true [] 0 none] := by kernel_rfl
@[simp] theorem pl62 : placesO Tryd.prog 62 = some [(0, 1), (1, 1)] := by kernel_rfl
@[simp] theorem zv62 : zeroV Tryd.prog 62 = some (V.agg [V.row true true [] 0 none, V.row true true [] 0 none]) := by kernel_rfl
@[simp] theorem by62 : bytesO Tryd.prog 62 = some 48 := by kernel_rfl
@[simp] theorem fo62_0 : fieldO Tryd.prog 62 0 = some (0, 29, 1) := by kernel_rfl
@[simp] theorem fo62_1 : fieldO Tryd.prog 62 1 = some (1, 29, 1) := by kernel_rfl
@[simp] theorem sz63 : szO Tryd.prog 63 = some 1 := by kernel_rfl
@[simp] theorem ag63 : isAggO Tryd.prog 63 = some false := by kernel_rfl
@[simp] theorem zc63 : zeroCs Tryd.prog 63 = some [V.nilfunc] := by kernel_rfl
@[simp] theorem zv63 : zeroV Tryd.prog 63 = some V.nilfunc := by kernel_rfl
@[simp] theorem by63 : bytesO Tryd.prog 63 = some 8 := by kernel_rfl
@[simp] theorem sz64 : szO Tryd.prog 64 = some 1 := by kernel_rfl
@[simp] theorem ag64 : isAggO Tryd.prog 64 = some false := by kernel_rfl
@[simp] theorem zc64 : zeroCs Tryd.prog 64 = some [V.row true true [] 0 none] := by kernel_rfl
@[simp] theorem es64 : esz Tryd.prog 64 = some 1 := by kernel_rfl
@[simp] theorem el64 : elemOfSlice Tryd.prog 64 = some 30 := by kernel_rfl
@[simp] theorem zv64 : zeroV Tryd.prog 64 = some (V.row true true [] 0 none) := by kernel_rfl
@[simp] theorem by64 : bytesO Tryd.prog 64 = some 24 := by kernel_rfl
@[simp] theorem mz64 : mkz Tryd.prog 64 = some (1, 24, [V.row true true [] 0 none]) := by kernel_rfl
@[simp] theorem sz65 : szO Tryd.prog 65 = some 1 := by kernel_rfl
@[simp] theorem ag65 : isAggO Tryd.prog 65 = some false := by kernel_rfl
@[simp] theorem zc65 : zeroCs Tryd.prog 65 = some [V.nilfunc] := by kernel_rfl
@[simp] theorem zv65 : zeroV Tryd.prog 65 = some V.nilfunc := by kernel_rfl
@[simp] theorem by65 : bytesO Tryd.prog 65 = some 8 := by kernel_rfl
@[simp] theorem sz66 : szO Tryd.prog 66 = some 1 := by kernel_rfl
@[simp] theorem ag66 : isAggO Tryd.prog 66 = some false := by kernel_rfl
@[simp] theorem zc66 : zeroCs Tryd.prog 66 = some [V.row true true [] 0 none] := by kernel_rfl
@[simp] theorem es66 : esz Tryd.prog 66 = some 1 := by kernel_rfl
@[simp] theorem el66 : elemOfSlice Tryd.prog 66 = some 71 := by kernel_rfl
@[simp] theorem zv66 : zeroV Tryd.prog 66 = some (V.row true true [] 0 none) := by kernel_rfl
@[simp] theorem by66 : bytesO Tryd.prog 66 = some 24 := by kernel_rfl
@[simp] theorem mz66 : mkz Tryd.prog 66 = some (1, 8, [V.nilfunc]) := by kernel_rfl
@[simp] theorem sz67 : szO Tryd.prog 67 = some 1 := by kernel_rfl
@[simp] theorem ag67 : isAggO Tryd.prog 67 = some false := by kernel_rfl
@[simp] theorem zc67 : zeroCs Tryd.prog 67 = some [V.nilfunc] := by kernel_rfl
@[simp] theorem zv67 : zeroV Tryd.prog 67 = some V.nilfunc := by kernel_rfl
@[simp] theorem by67 : bytesO Tryd.prog 67 = some 8 := by kernel_rfl
@[simp] theorem sz68 : szO Tryd.prog 68 = some 2 := by kernel_rfl
@[simp] theorem ag68 : isAggO Tryd.prog 68 = some true := by kernel_rfl
@[simp] theorem zc68 : zeroCs Tryd.prog 68 = some [V.int IntKind.i64 (0), V.int IntKind.i64 (0)] := by kernel_rfl
@[simp] theorem pl68 : placesO Tryd.prog 68 = some [(0, 1), (1, 1)] := by kernel_rfl
@[simp] theorem zv68 : zeroV Tryd.prog 68 = some (V.agg [V.int IntKind.i64 (0), V.int IntKind.i64 (0)]) := by kernel_rfl
@[simp] theorem by68 : bytesO Tryd.prog 68 = some 16 := by kernel_rfl
@[simp] theorem fo68_0 : fieldO Tryd.prog 68 0 = some (0, 3, 1) := by kernel_rfl
@[simp] theorem fo68_1 : fieldO Tryd.prog 68 1 = some (1, 3, 1) := by kernel_rfl
@[simp] theorem sz69 : szO Tryd.prog 69 = some 2 := by kernel_rfl
@[simp] theorem ag69 : isAggO Tryd.prog 69 = some true := by kernel_rfl
@[simp] theorem zc69 : zeroCs Tryd.prog 69 = some [V.int IntKind.i64 (0), V.int IntKind.i64 (0)] := by kernel_rfl
@[simp] theorem pl69 : placesO Tryd.prog 69 = some [(0, 1), (1, 1)] := by kernel_rfl
@[simp] theorem zv69 : zeroV Tryd.prog 69 = some (V.agg [V.int IntKind.i64 (0), V.int IntKind.i64 (0)]) := by kernel_rfl
@[simp] theorem by69 : bytesO Tryd.prog 69 = some 16 := by kernel_rfl
@[simp] theorem fo69_0 : fieldO Tryd.prog 69 0 = some (0, 3, 1) := by kernel_rfl
@[simp] theorem fo69_1 : fieldO Tryd.prog 69 1 = some (1, 3, 1) := by kernel_rfl
@[simp] theorem sz70 : szO Tryd.prog 70 = some 1 := by kernel_rfl
@[simp] theorem ag70 : isAggO Tryd.prog 70 = some false := by kernel_rfl
@[simp] theorem zc70 : zeroCs Tryd.prog 70 = some [V.nilfunc] := by kernel_rfl
@[simp] theorem zv70 : zeroV Tryd.prog 70 = some V.nilfunc := by kernel_rfl
@[simp] theorem by70 : bytesO Tryd.prog 70 = some 8 := by kernel_rfl
@[simp] theorem sz71 : szO Tryd.prog 71 = some 1 := by kernel_rfl
@[simp] theorem ag71 : isAggO Tryd.prog 71 = some false := by kernel_rfl
@[simp] theorem zc71 : zeroCs Tryd.prog 71 = some [V.nilfunc] := by kernel_rfl
@[simp] theorem zv71 : zeroV Tryd.prog 71 = some V.nilfunc := by kernel_rfl
@[simp] theorem by71 : bytesO Tryd.prog 71 = some 8 := by kernel_rfl
@[simp] theorem sz72 : szO Tryd.prog 72 = some 1 := by kernel_rfl
@[simp] theorem ag72 : isAggO Tryd.prog 72 = some false := by kernel_rfl
@[simp] theorem by72 : bytesO Tryd.prog 72 = some 0 := by kernel_rfl
@[simp] theorem sz73 : szO Tryd.prog 73 = some 1 := by kernel_rfl
@[simp] theorem ag73 : isAggO Tryd.prog 73 = some false := by kernel_rfl
@[simp] theorem zc73 : zeroCs Tryd.prog 73 = some [V.nilfunc] := by kernel_rfl
@[simp] theorem zv73 : zeroV Tryd.prog 73 = some V.nilfunc := by kernel_rfl
@[simp] theorem by73 : bytesO Tryd.prog 73 = some 8 := by kernel_rfl
@[simp] theorem sz74 : szO Tryd.prog 74 = some 1 := by kernel_rfl
@[simp] theorem ag74 : isAggO Tryd.prog 74 = some false := by kernel_rfl
@[simp] theorem zc74 : zeroCs Tryd.prog 74 = some [V.nilfunc] := by kernel_rfl
@[simp] theorem zv74 : zeroV Tryd.prog 74 = some V.nilfunc := by kernel_rfl
@[simp] theorem by74 : bytesO Tryd.prog 74 = some 8 := by kernel_rfl
@[simp] theorem sz75 : szO Tryd.prog 75 = some 1 := by kernel_rfl
@[simp] theorem ag75 : isAggO Tryd.prog 75 = some false := by kernel_rfl
@[simp] theorem zc75 : zeroCs Tryd.prog 75 = some [V.nilfunc] := by kernel_rfl
@[simp] theorem zv75 : zeroV Tryd.prog 75 = some V.nilfunc := by kernel_rfl
@[simp] theorem by75 : bytesO Tryd.prog 75 = some 8 := by kernel_rfl
@[simp] theorem sz76 : szO Tryd.prog 76 = some 1 := by kernel_rfl
@[simp] theorem ag76 : isAggO Tryd.prog 76 = some false := by kernel_rfl
@[simp] theorem zc76 : zeroCs Tryd.prog 76 = some [V.nilfunc] := by kernel_rfl
@[simp] theorem zv76 : zeroV Tryd.prog 76 = some V.nilfunc := by kernel_rfl
@[simp] theorem by76 : bytesO Tryd.prog 76 = some 8 := by kernel_rfl
@[simp] theorem sz77 : szO Tryd.prog 77 = some 1 := by kernel_rfl
@[simp] theorem ag77 : isAggO Tryd.prog 77 = some false := by kernel_rfl
@[simp] theorem zc77 : zeroCs Tryd.prog 77 = some [V.nilfunc] := by kernel_rfl
@[simp] theorem zv77 : zeroV Tryd.prog 77 = some V.nilfunc := by kernel_rfl
@[simp] theorem by77 : bytesO Tryd.prog 77 = some 8 := by kernel_rfl
@[simp] theorem sz78 : szO Tryd.prog 78 = some 1 := by kernel_rfl
@[simp] theorem ag78 : isAggO Tryd.prog 78 = some false := by kernel_rfl
@[simp] theorem zc78 : zeroCs Tryd.prog 78 = some [V.nilfunc] := by kernel_rfl
@[simp] theorem zv78 : zeroV Tryd.prog 78 = some V.nilfunc := by kernel_rfl
@[simp] theorem by78 : bytesO Tryd.prog 78 = some 8 := by kernel_rfl
@[simp] theorem sz79 : szO Tryd.prog 79 = some 1 := by kernel_rfl
@[simp] theorem ag79 : isAggO Tryd.prog 79 = some false := by kernel_rfl
@[simp] theorem zc79 : zeroCs Tryd.prog 79 = some [V.nilfunc] := by kernel_rfl
@[simp] theorem zv79 : zeroV Tryd.prog 79 = some V.nilfunc := by kernel_rfl
@[simp] theorem by79 : bytesO Tryd.prog 79 = some 8 := by kernel_rfl
@[simp] theorem sz80 : szO Tryd.prog 80 = some 1 := by kernel_rfl
@[simp] theorem ag80 : isAggO Tryd.prog 80 = some false := by kernel_rfl
@[simp] theorem zc80 : zeroCs Tryd.prog 80 = some [V.nilfunc] := by kernel_rfl
@[simp] theorem zv80 : zeroV Tryd.prog 80 = some V.nilfunc := by kernel_rfl
@[simp] theorem by80 : bytesO Tryd.prog 80 = some 8 := by kernel_rfl
@[simp] theorem sz81 : szO Tryd.prog 81 = some 1 := by kernel_rfl
@[simp] theorem ag81 : isAggO Tryd.prog 81 = some false := by kernel_rfl
@[simp] theorem zc81 : zeroCs Tryd.prog 81 = some [V.nilfunc] := by kernel_rfl
@[simp] theorem zv81 : zeroV Tryd.prog 81 = some V.nilfunc := by kernel_rfl
@[simp] theorem by81 : bytesO Tryd.prog 81 = some 8 := by kernel_rfl
@[simp] theorem sz82 : szO Tryd.prog 82 = some 1 := by kernel_rfl
@[simp] theorem ag82 : isAggO Tryd.prog 82 = some false := by kernel_rfl
@[simp] theorem zc82 : zeroCs Tryd.prog 82 = some [V.nilfunc] := by kernel_rfl
@[simp] theorem zv82 : zeroV Tryd.prog 82 = some V.nilfunc := by kernel_rfl
@[simp] theorem by82 : bytesO Tryd.prog 82 = some 8 := by kernel_rfl
@[simp] theorem sz83 : szO Tryd.prog 83 = some 1 := by kernel_rfl
@[simp] theorem ag83 : isAggO Tryd.prog 83 = some false := by kernel_rfl
@[simp] theorem zc83 : zeroCs Tryd.prog 83 = some [V.nilmap] := by kernel_rfl
@[simp] theorem zv83 : zeroV Tryd.prog 83 = some V.nilmap := by kernel_rfl
@[simp] theorem by83 : bytesO Tryd.prog 83 = some 8 := by kernel_rfl
@[simp] theorem sz84 : szO Tryd.prog 84 = some 1 := by kernel_rfl
@[simp] theorem ag84 : isAggO Tryd.prog 84 = some false := by kernel_rfl
@[simp] theorem zc84 : zeroCs Tryd.prog 84 = some [V.nilfunc] := by kernel_rfl
@[simp] theorem zv84 : zeroV Tryd.prog 84 = some V.nilfunc := by kernel_rfl
@[simp] theorem by84 : bytesO Tryd.prog 84 = some 8 := by kernel_rfl
@[simp] theorem sz85 : szO Tryd.prog 85 = some 1 := by kernel_rfl
@[simp] theorem ag85 : isAggO Tryd.prog 85 = some false := by kernel_rfl
@[simp] theorem zc85 : zeroCs Tryd.prog 85 = some [V.nilfunc] := by kernel_rfl
@[simp] theorem zv85 : zeroV Tryd.prog 85 = some V.nilfunc := by kernel_rfl
@[simp] theorem by85 : bytesO Tryd.prog 85 = some 8 := by kernel_rfl
@[simp] theorem sz86 : szO Tryd.prog 86 = some 1 := by kernel_rfl
@[simp] theorem ag86 : isAggO Tryd.prog 86 = some false := by kernel_rfl
@[simp] theorem zc86 : zeroCs Tryd.prog 86 = some [V.nilfunc] := by kernel_rfl
@[simp] theorem zv86 : zeroV Tryd.prog 86 = some V.nilfunc := by kernel_rfl
@[simp] theorem by86 : bytesO Tryd.prog 86 = some 8 := by kernel_rfl
@[simp] theorem sz87 : szO Tryd.prog 87 = some 1 := by kernel_rfl
@[simp] theorem ag87 : isAggO Tryd.prog 87 = some false := by kernel_rfl
@[simp] theorem by87 : bytesO Tryd.prog 87 = some 0 := by kernel_rfl
@[simp] theorem sz88 : szO Tryd.prog 88 = some 1 := by kernel_rfl
@[simp] theorem ag88 : isAggO Tryd.prog 88 = some false := by kernel_rfl
@[simp] theorem zc88 : zeroCs Tryd.prog 88 = some [V.nilfunc] := by kernel_rfl
@[simp] theorem zv88 : zeroV Tryd.prog 88 = some V.nilfunc := by kernel_rfl
@[simp] theorem by88 : bytesO Tryd.prog 88 = some 8 := by kernel_rfl
@[simp] theorem sz89 : szO Tryd.prog 89 = some 1 := by kernel_rfl
@[simp] theorem ag89 : isAggO Tryd.prog 89 = some false := by kernel_rfl
@[simp] theorem zc89 : zeroCs Tryd.prog 89 = some [V.nilptr] := by kernel_rfl
@[simp] theorem zv89 : zeroV Tryd.prog 89 = some V.nilptr := by kernel_rfl
@[simp] theorem by89 : bytesO Tryd.prog 89 = some 8 := by kernel_rfl
@[simp] theorem sz90 : szO Tryd.prog 90 = some 1 := by kernel_rfl
@[simp] theorem ag90 : isAggO Tryd.prog 90 = some false := by kernel_rfl
@[simp] theorem zc90 : zeroCs Tryd.prog 90 = some [V.nilfunc] := by kernel_rfl
@[simp] theorem zv90 : zeroV Tryd.prog 90 = some V.nilfunc := by kernel_rfl
@[simp] theorem by90 : bytesO Tryd.prog 90 = some 8 := by kernel_rfl
@[simp] theorem sz91 : szO Tryd.prog 91 = some 1 := by kernel_rfl
@[simp] theorem ag91 : isAggO Tryd.prog 91 = some false := by kernel_rfl
@[simp] theorem zc91 : zeroCs Tryd.prog 91 = some [V.nilfunc] := by kernel_rfl
@[simp] theorem zv91 : zeroV Tryd.prog 91 = some V.nilfunc := by kernel_rfl
@[simp] theorem by91 : bytesO Tryd.prog 91 = some 8 := by kernel_rfl
@[simp] theorem sz92 : szO Tryd.prog 92 = some 1 := by kernel_rfl
@[simp] theorem ag92 : isAggO Tryd.prog 92 = some false := by kernel_rfl
@[simp] theorem zc92 : zeroCs Tryd.prog 92 = some [V.nilfunc] := by kernel_rfl
@[simp] theorem zv92 : zeroV Tryd.prog 92 = some V.nilfunc := by kernel_rfl
@[simp] theorem by92 : bytesO Tryd.prog 92 = some 8 := by kernel_rfl
@[simp] theorem sz93 : szO Tryd.prog 93 = some 1 := by kernel_rfl
@[simp] theorem ag93 : isAggO Tryd.prog 93 = some false := by kernel_rfl
@[simp] theorem zc93 : zeroCs Tryd.prog 93 = some [V.nilfunc] := by kernel_rfl
@[simp] theorem zv93 : zeroV Tryd.prog 93 = some V.nilfunc := by kernel_rfl
@[simp] theorem by93 : bytesO Tryd.prog 93 = some 8 := by kernel_rfl
@[simp] theorem sz94 : szO Tryd.prog 94 = some 1 := by kernel_rfl
@[simp] theorem ag94 : isAggO Tryd.prog 94 = some false := by kernel_rfl
@[simp] theorem zc94 : zeroCs Tryd.prog 94 = some [V.nilfunc] := by kernel_rfl
@[simp] theorem zv94 : zeroV Tryd.prog 94 = some V.nilfunc := by kernel_rfl
@[simp] theorem by94 : bytesO Tryd.prog 94 = some 8 := by kernel_rfl
@[simp] theorem sz95 : szO Tryd.prog 95 = some 1 := by kernel_rfl
@[simp] theorem ag95 : isAggO Tryd.prog 95 = some false := by kernel_rfl
@[simp] theorem by95 : bytesO Tryd.prog 95 = some 0 := by kernel_rfl
@[simp] theorem sz96 : szO Tryd.prog 96 = some 1 := by kernel_rfl
@[simp] theorem ag96 : isAggO Tryd.prog 96 = some false := by kernel_rfl
@[simp] theorem zc96 : zeroCs Tryd.prog 96 = some [V.nilfunc] := by kernel_rfl
@[simp] theorem zv96 : zeroV Tryd.prog 96 = some V.nilfunc := by kernel_rfl
@[simp] theorem by96 : bytesO Tryd.prog 96 = some 8 := by kernel_rfl
@[simp] theorem sz97 : szO Tryd.prog 97 = some 1 := by kernel_rfl
@[simp] theorem ag97 : isAggO Tryd.prog 97 = some false := by kernel_rfl
@[simp] theorem zc97 : zeroCs Tryd.prog 97 = some [V.nilfunc] := by kernel_rfl
@[simp] theorem zv97 : zeroV Tryd.prog 97 = some V.nilfunc := by kernel_rfl
@[simp] theorem by97 : bytesO Tryd.prog 97 = some 8 := by kernel_rfl
@[simp] theorem sz98 : szO Tryd.prog 98 = some 1 := by kernel_rfl
@[simp] theorem ag98 : isAggO Tryd.prog 98 = some false := by kernel_rfl
@[simp] theorem zc98 : zeroCs Tryd.prog 98 = some [V.nilfunc] := by kernel_rfl
@[simp] theorem zv98 : zeroV Tryd.prog 98 = some V.nilfunc := by kernel_rfl
@[simp] theorem by98 : bytesO Tryd.prog 98 = some 8 := by kernel_rfl
@[simp] theorem sz99 : szO Tryd.prog 99 = some 2 := by kernel_rfl
@[simp] theorem ag99 : isAggO Tryd.prog 99 = some true := by kernel_rfl
@[simp] theorem zc99 : zeroCs Tryd.prog 99 = some [V.int IntKind.i64 (0), V.nilfunc] := by kernel_rfl
@[simp] theorem pl99 : placesO Tryd.prog 99 = some [(0, 1), (1, 1)] := by kernel_rfl
@[simp] theorem zv99 : zeroV Tryd.prog 99 = some (V.agg [V.int IntKind.i64 (0), V.nilfunc]) := by kernel_rfl
@[simp] theorem by99 : bytesO Tryd.prog 99 = some 16 := by kernel_rfl
@[simp] theorem fo99_0 : fieldO Tryd.prog 99 0 = some (0, 3, 1) := by kernel_rfl
@[simp] theorem fo99_1 : fieldO Tryd.prog 99 1 = some (1, 98, 1) := by kernel_rfl
@[simp] theorem sz100 : szO Tryd.prog 100 = some 2 := by kernel_rfl
@[simp] theorem ag100 : isAggO Tryd.prog 100 = some true := by kernel_rfl
@[simp] theorem zc100 : zeroCs Tryd.prog 100 = some [V.int IntKind.i64 (0), V.nilfunc] := by kernel_rfl
@[simp] theorem pl100 : placesO Tryd.prog 100 = some [(0, 1), (1, 1)] := by kernel_rfl
@[simp] theorem zv100 : zeroV Tryd.prog 100 = some (V.agg [V.int IntKind.i64 (0), V.nilfunc]) := by kernel_rfl
@[simp] theorem by100 : bytesO Tryd.prog 100 = some 16 := by kernel_rfl
@[simp] theorem fo100_0 : fieldO Tryd.prog 100 0 = some (0, 3, 1) := by kernel_rfl
@[simp] theorem fo100_1 : fieldO Tryd.prog 100 1 = some (1, 98, 1) := by kernel_rfl
@[simp] theorem sz101 : szO Tryd.prog 101 = some 1 := by kernel_rfl
@[simp] theorem ag101 : isAggO Tryd.prog 101 = some false := by kernel_rfl
@[simp] theorem zc101 : zeroCs Tryd.prog 101 = some [V.row true true [] 0 none] := by kernel_rfl
@[simp] theorem es101 : esz Tryd.prog 101 = some 2 := by kernel_rfl
@[simp] theorem el101 : elemOfSlice Tryd.prog 101 = some 100 := by kernel_rfl
@[simp] theorem zv101 : zeroV Tryd.prog 101 = some (V.row true true [] 0 none) := by kernel_rfl
@[simp] theorem by101 : bytesO Tryd.prog 101 = some 24 := by kernel_rfl
@[simp] theorem mz101 : mkz Tryd.prog 101 = some (2, 16, [V.int IntKind.i64 (0), V.nilfunc]) := by kernel_rfl
@[simp] theorem sz102 : szO Tryd.prog 102 = some 1 := by kernel_rfl
@[simp] theorem ag102 : isAggO Tryd.prog 102 = some false := by kernel_rfl
@[simp] theorem zc102 : zeroCs Tryd.prog 102 = some [V.nilfunc] := by kernel_rfl
@[simp] theorem zv102 : zeroV Tryd.prog 102 = some V.nilfunc := by kernel_rfl
@[simp] theorem by102 : bytesO Tryd.prog 102 = some 8 := by kernel_rfl
@[simp] theorem sz103 : szO Tryd.prog 103 = some 1 := by kernel_rfl
@[simp] theorem ag103 : isAggO Tryd.prog 103 = some false := by kernel_rfl
@[simp] theorem zc103 : zeroCs Tryd.prog 103 = some [V.nilfunc] := by kernel_rfl
@[simp] theorem zv103 : zeroV Tryd.prog 103 = some V.nilfunc := by kernel_rfl
@[simp] theorem by103 : bytesO Tryd.prog 103 = some 8 := by kernel_rfl
@[simp] theorem sz104 : szO Tryd.prog 104 = some 1 := by kernel_rfl
@[simp] theorem ag104 : isAggO Tryd.prog 104 = some false := by kernel_rfl
@[simp] theorem zc104 : zeroCs Tryd.prog 104 = some [V.nilfunc] := by kernel_rfl
@[simp] theorem zv104 : zeroV Tryd.prog 104 = some V.nilfunc := by kernel_rfl
@[simp] theorem by104 : bytesO Tryd.prog 104 = some 8 := by kernel_rfl
@[simp] theorem sz105 : szO Tryd.prog 105 = some 1 := by kernel_rfl
@[simp] theorem ag105 : isAggO Tryd.prog 105 = some false := by kernel_rfl
@[simp] theorem zc105 : zeroCs Tryd.prog 105 = some [V.nilfunc] := by kernel_rfl
@[simp] theorem zv105 : zeroV Tryd.prog 105 = some V.nilfunc := by kernel_rfl
@[simp] theorem by105 : bytesO Tryd.prog 105 = some 8 := by kernel_rfl
@[simp] theorem sz106 : szO Tryd.prog 106 = some 1 := by kernel_rfl
@[simp] theorem ag106 : isAggO Tryd.prog 106 = some false := by kernel_rfl
@[simp] theorem zc106 : zeroCs Tryd.prog 106 = some [V.nilfunc] := by kernel_rfl
@[simp] theorem zv106 : zeroV Tryd.prog 106 = some V.nilfunc := by kernel_rfl
@[simp] theorem by106 : bytesO Tryd.prog 106 = some 8 := by kernel_rfl
@[simp] theorem sz107 : szO Tryd.prog 107 = some 1 := by kernel_rfl
@[simp] theorem ag107 : isAggO Tryd.prog 107 = some false := by kernel_rfl
@[simp] theorem by107 : bytesO Tryd.prog 107 = some 0 := by kernel_rfl
@[simp] theorem sz108 : szO Tryd.prog 108 = some 1 := by kernel_rfl
@[simp] theorem ag108 : isAggO Tryd.prog 108 = some false := by kernel_rfl
@[simp] theorem zc108 : zeroCs Tryd.prog 108 = some [V.nilfunc] := by kernel_rfl
@[simp] theorem zv108 : zeroV Tryd.prog 108 = some V.nilfunc := by kernel_rfl
@[simp] theorem by108 : bytesO Tryd.prog 108 = some 8 := by kernel_rfl
@[simp] theorem sz109 : szO Tryd.prog 109 = some 1 := by kernel_rfl
@[simp] theorem ag109 : isAggO Tryd.prog 109 = some false := by kernel_rfl
@[simp] theorem zc109 : zeroCs Tryd.prog 109 = some [V.nilfunc] := by kernel_rfl
@[simp] theorem zv109 : zeroV Tryd.prog 109 = some V.nilfunc := by kernel_rfl
@[simp] theorem by109 : bytesO Tryd.prog 109 = some 8 := by kernel_rfl
@[simp] theorem sz110 : szO Tryd.prog 110 = some 1 := by kernel_rfl
@[simp] theorem ag110 : isAggO Tryd.prog 110 = some false := by kernel_rfl
@[simp] theorem zc110 : zeroCs Tryd.prog 110 = some [V.nilfunc] := by kernel_rfl
@[simp] theorem zv110 : zeroV Tryd.prog 110 = some V.nilfunc := by kernel_rfl
@[simp] theorem by110 : bytesO Tryd.prog 110 = some 8 := by kernel_rfl
@[simp] theorem sz111 : szO Tryd.prog 111 = some 1 := by kernel_rfl
@[simp] theorem ag111 : isAggO Tryd.prog 111 = some false := by kernel_rfl
@[simp] theorem zc111 : zeroCs Tryd.prog 111 = some [V.nilfunc] := by kernel_rfl
@[simp] theorem zv111 : zeroV Tryd.prog 111 = some V.nilfunc := by kernel_rfl
@[simp] theorem by111 : bytesO Tryd.prog 111 = some 8 := by kernel_rfl
@[simp] theorem sz112 : szO Tryd.prog 112 = some 0 := by kernel_rfl
@[simp] theorem ag112 : isAggO Tryd.prog 112 = some true := by kernel_rfl
@[simp] theorem zc112 : zeroCs Tryd.prog 112 = some [] := by kernel_rfl
@[simp] theorem pl112 : placesO Tryd.prog 112 = some [] := by kernel_rfl
@[simp] theorem zv112 : zeroV Tryd.prog 112 = some (V.agg []) := by kernel_rfl
@[simp] theorem by112 : bytesO Tryd.prog 112 = some 0 := by kernel_rfl
@[simp] theorem sz113 : szO Tryd.prog 113 = some 0 := by kernel_rfl
@[simp] theorem ag113 : isAggO Tryd.prog 113 = some true := by kernel_rfl
@[simp] theorem zc113 : zeroCs Tryd.prog 113 = some [] := by kernel_rfl
@[simp] theorem pl113 : placesO Tryd.prog 113 = some [] := by kernel_rfl
@[simp] theorem zv113 : zeroV Tryd.prog 113 = some (V.agg []) := by kernel_rfl
@[simp] theorem by113 : bytesO Tryd.prog 113 = some 0 := by kernel_rfl
@[simp] theorem sz114 : szO Tryd.prog 114 = some 1 := by kernel_rfl
@[simp] theorem ag114 : isAggO Tryd.prog 114 = some false := by kernel_rfl
@[simp] theorem by114 : bytesO Tryd.prog 114 = some 0 := by kernel_rfl
@[simp] theorem sz115 : szO Tryd.prog 115 = some 1 := by kernel_rfl
@[simp] theorem ag115 : isAggO Tryd.prog 115 = some false := by kernel_rfl
@[simp] theorem zc115 : zeroCs Tryd.prog 115 = some [V.nilfunc] := by kernel_rfl
@[simp] theorem zv115 : zeroV Tryd.prog 115 = some V.nilfunc := by kernel_rfl
@[simp] theorem by115 : bytesO Tryd.prog 115 = some 8 := by kernel_rfl
@[simp] theorem sz116 : szO Tryd.prog 116 = some 1 := by kernel_rfl
@[simp] theorem ag116 : isAggO Tryd.prog 116 = some false := by kernel_rfl
@[simp] theorem zc116 : zeroCs Tryd.prog 116 = some [V.nilfunc] := by kernel_rfl
@[simp] theorem zv116 : zeroV Tryd.prog 116 = some V.nilfunc := by kernel_rfl
@[simp] theorem by116 : bytesO Tryd.prog 116 = some 8 := by kernel_rfl
@[simp] theorem sz117 : szO Tryd.prog 117 = some 1 := by kernel_rfl
@[simp] theorem ag117 : isAggO Tryd.prog 117 = some false := by kernel_rfl
@[simp] theorem zc117 : zeroCs Tryd.prog 117 = some [V.nilfunc] := by kernel_rfl
@[simp] theorem zv117 : zeroV Tryd.prog 117 = some V.nilfunc := by kernel_rfl
@[simp] theorem by117 : bytesO Tryd.prog 117 = some 8 := by kernel_rfl
@[simp] theorem sz118 : szO Tryd.prog 118 = some 1 := by kernel_rfl
@[simp] theorem ag118 : isAggO Tryd.prog 118 = some false := by kernel_rfl
@[simp] theorem zc118 : zeroCs Tryd.prog 118 = some [V.nilfunc] := by kernel_rfl
@[simp] theorem zv118 : zeroV Tryd.prog 118 = some V.nilfunc := by kernel_rfl
@[simp] theorem by118 : bytesO Tryd.prog 118 = some 8 := by kernel_rfl
@[simp] theorem sz119 : szO Tryd.prog 119 = some 1 := by kernel_rfl
@[simp] theorem ag119 : isAggO Tryd.prog 119 = some false := by kernel_rfl
@[simp] theorem zc119 : zeroCs Tryd.prog 119 = some [V.nilfunc] := by kernel_rfl
@[simp] theorem zv119 : zeroV Tryd.prog 119 = some V.nilfunc := by kernel_rfl
@[simp] theorem by119 : bytesO Tryd.prog 119 = some 8 := by kernel_rfl
@[simp] theorem sz120 : szO Tryd.prog 120 = some 1 := by kernel_rfl
@[simp] theorem ag120 : isAggO Tryd.prog 120 = some false := by kernel_rfl
@[simp] theorem zc120 : zeroCs Tryd.prog 120 = some [V.nilfunc] := by kernel_rfl
@[simp] theorem zv120 : zeroV Tryd.prog 120 = some V.nilfunc := by kernel_rfl
@[simp] theorem by120 : bytesO Tryd.prog 120 = some 8 := by kernel_rfl
@[simp] theorem sz121 : szO Tryd.prog 121 = some 2 := by kernel_rfl
@[simp] theorem ag121 : isAggO Tryd.prog 121 = some true := by kernel_rfl
@[simp] theorem zc121 : zeroCs Tryd.prog 121 = some [V.int IntKind.i64 (0), V.int IntKind.i64 (0)] := by kernel_rfl
@[simp] theorem zv121 : zeroV Tryd.prog 121 = some (V.agg [V.int IntKind.i64 (0), V.int IntKind.i64 (0)]) := by kernel_rfl
@[simp] theorem by121 : bytesO Tryd.prog 121 = some 16 := by kernel_rfl
@[simp] theorem sz122 : szO Tryd.prog 122 = some 1 := by kernel_rfl
@[simp] theorem ag122 : isAggO Tryd.prog 122 = some false := by kernel_rfl
@[simp] theorem by122 : bytesO Tryd.prog 122 = some 0 := by kernel_rfl
@[simp] theorem sz123 : szO Tryd.prog 123 = some 1 := by kernel_rfl
@[simp] theorem ag123 : isAggO Tryd.prog 123 = some false := by kernel_rfl
@[simp] theorem zc123 : zeroCs Tryd.prog 123 = some [V.nilfunc] := by kernel_rfl
@[simp] theorem zv123 : zeroV Tryd.prog 123 = some V.nilfunc := by kernel_rfl
@[simp] theorem by123 : bytesO Tryd.prog 123 = some 8 := by kernel_rfl
@[simp] theorem sz124 : szO Tryd.prog 124 = some 1 := by kernel_rfl
@[simp] theorem ag124 : isAggO Tryd.prog 124 = some false := by kernel_rfl
@[simp] theorem by124 : bytesO Tryd.prog 124 = some 0 := by kernel_rfl
@[simp] theorem sz125 : szO Tryd.prog 125 = some 1 := by kernel_rfl
@[simp] theorem ag125 : isAggO Tryd.prog 125 = some false := by kernel_rfl
@[simp] theorem zc125 : zeroCs Tryd.prog 125 = some [V.nilfunc] := by kernel_rfl
@[simp] theorem zv125 : zeroV Tryd.prog 125 = some V.nilfunc := by kernel_rfl
@[simp] theorem by125 : bytesO Tryd.prog 125 = some 8 := by kernel_rfl
@[simp] theorem sz126 : szO Tryd.prog 126 = some 1 := by kernel_rfl
@[simp] theorem ag126 : isAggO Tryd.prog 126 = some false := by kernel_rfl
@[simp] theorem zc126 : zeroCs Tryd.prog 126 = some [V.nilfunc] := by kernel_rfl
@[simp] theorem zv126 : zeroV Tryd.prog 126 = some V.nilfunc := by kernel_rfl
@[simp] theorem by126 : bytesO Tryd.prog 126 = some 8 := by kernel_rfl
@[simp] theorem sz127 : szO Tryd.prog 127 = some 1 := by kernel_rfl
@[simp] theorem ag127 : isAggO Tryd.prog 127 = some false := by kernel_rfl
@[simp] theorem zc127 : zeroCs Tryd.prog 127 = some [V.nilfunc] := by kernel_rfl
@[simp] theorem zv127 : zeroV Tryd.prog 127 = some V.nilfunc := by kernel_rfl
@[simp] theorem by127 : bytesO Tryd.prog 127 = some 8 := by kernel_rfl
@[simp] theorem sz128 : szO Tryd.prog 128 = some 1 := by kernel_rfl
@[simp] theorem ag128 : isAggO Tryd.prog 128 = some false := by kernel_rfl
@[simp] theorem by128 : bytesO Tryd.prog 128 = some 0 := by kernel_rfl
@[simp] theorem sz129 : szO Tryd.prog 129 = some 1 := by kernel_rfl
@[simp] theorem ag129 : isAggO Tryd.prog 129 = some false := by kernel_rfl
@[simp] theorem zc129 : zeroCs Tryd.prog 129 = some [V.nilfunc] := by kernel_rfl
@[simp] theorem zv129 : zeroV Tryd.prog 129 = some V.nilfunc := by kernel_rfl
@[simp] theorem by129 : bytesO Tryd.prog 129 = some 8 := by kernel_rfl
@[simp] theorem sz130 : szO Tryd.prog 130 = some 1 := by kernel_rfl
@[simp] theorem ag130 : isAggO Tryd.prog 130 = some false := by kernel_rfl
@[simp] theorem zc130 : zeroCs Tryd.prog 130 = some [V.row true true [] 0 none] := by kernel_rfl
@[simp] theorem es130 : esz Tryd.prog 130 = some 2 := by kernel_rfl
@[simp] theorem el130 : elemOfSlice Tryd.prog 130 = some 121 := by kernel_rfl
@[simp] theorem zv130 : zeroV Tryd.prog 130 = some (V.row true true [] 0 none) := by kernel_rfl
@[simp] theorem by130 : bytesO Tryd.prog 130 = some 24 := by kernel_rfl
@[simp] theorem mz130 : mkz Tryd.prog 130 = some (2, 16, [V.int IntKind.i64 (0), V.int IntKind.i64 (0)]) := by kernel_rfl
@[simp] theorem sz131 : szO Tryd.prog 131 = some 1 := by kernel_rfl
@[simp] theorem ag131 : isAggO Tryd.prog 131 = some false := by kernel_rfl
@[simp] theorem zc131 : zeroCs Tryd.prog 131 = some [V.nilfunc] := by kernel_rfl
@[simp] theorem zv131 : zeroV Tryd.prog 131 = some V.nilfunc := by kernel_rfl
@[simp] theorem by131 : bytesO Tryd.prog 131 = some 8 := by kernel_rfl
@[simp] theorem sz132 : szO Tryd.prog 132 = some 1 := by kernel_rfl
@[simp] theorem ag132 : isAggO Tryd.prog 132 = some false := by kernel_rfl
@[simp] theorem zc132 : zeroCs Tryd.prog 132 = some [V.nilfunc] := by kernel_rfl
@[simp] theorem zv132 : zeroV Tryd.prog 132 = some V.nilfunc := by kernel_rfl
@[simp] theorem by132 : bytesO Tryd.prog 132 = some 8 := by kernel_rfl
@[simp] theorem sz133 : szO Tryd.prog 133 = some 1 := by kernel_rfl
@[simp] theorem ag133 : isAggO Tryd.prog 133 = some false := by kernel_rfl
@[simp] theorem zc133 : zeroCs Tryd.prog 133 = some [V.nilfunc] := by kernel_rfl
@[simp] theorem zv133 : zeroV Tryd.prog 133 = some V.nilfunc := by kernel_rfl
@[simp] theorem by133 : bytesO Tryd.prog 133 = some 8 := by kernel_rfl
@[simp] theorem sz134 : szO Tryd.prog 134 = some 1 := by kernel_rfl
@[simp] theorem ag134 : isAggO Tryd.prog 134 = some false := by kernel_rfl
@[simp] theorem zc134 : zeroCs Tryd.prog 134 = some [V.row true true [] 0 none] := by kernel_rfl
@[simp] theorem es134 : esz Tryd.prog 134 = some 1 := by kernel_rfl
@[simp] theorem el134 : elemOfSlice Tryd.prog 134 = some 5 := by kernel_rfl
@[simp] theorem zv134 : zeroV Tryd.prog 134 = some (V.row true true [] 0 none) := by kernel_rfl
@[simp] theorem by134 : bytesO Tryd.prog 134 = some 24 := by kernel_rfl
@[simp] theorem mz134 : mkz Tryd.prog 134 = some (1, 1, [V.int IntKind.u8 (0)]) := by kernel_rfl
@[simp] theorem sz135 : szO Tryd.prog 135 = some 1 := by kernel_rfl
@[simp] theorem ag135 : isAggO Tryd.prog 135 = some false := by kernel_rfl
@[simp] theorem zc135 : zeroCs Tryd.prog 135 = some [V.nilfunc] := by kernel_rfl
@[simp] theorem zv135 : zeroV Tryd.prog 135 = some V.nilfunc := by kernel_rfl
@[simp] theorem by135 : bytesO Tryd.prog 135 = some 8 := by kernel_rfl
@[simp] theorem sz136 : szO Tryd.prog 136 = some 1 := by kernel_rfl
@[simp] theorem ag136 : isAggO Tryd.prog 136 = some false := by kernel_rfl
@[simp] theorem zc136 : zeroCs Tryd.prog 136 = some [V.nilfunc] := by kernel_rfl
@[simp] theorem zv136 : zeroV Tryd.prog 136 = some V.nilfunc := by kernel_rfl
@[simp] theorem by136 : bytesO Tryd.prog 136 = some 8 := by kernel_rfl
@[simp] theorem sz137 : szO Tryd.prog 137 = some 256 := by kernel_rfl
@[simp] theorem ag137 : isAggO Tryd.prog 137 = some true := by kernel_rfl
@[simp] theorem zc137 : zeroCs Tryd.prog 137 = some (tab 256 (fun _ => V.int IntKind.u8 (0))) := by kernel_rfl
@[simp] theorem by137 : bytesO Tryd.prog 137 = some 256 := by kernel_rfl
@[simp] theorem sz138 : szO Tryd.prog 138 = some 1 := by kernel_rfl
@[simp] theorem ag138 : isAggO Tryd.prog 138 = some false := by kernel_rfl
@[simp] theorem zc138 : zeroCs Tryd.prog 138 = some [V.int IntKind.u64 (0)] := by kernel_rfl
@[simp] theorem zv138 : zeroV Tryd.prog 138 = some (V.int IntKind.u64 (0)) := by kernel_rfl
@[simp] theorem by138 : bytesO Tryd.prog 138 = some 8 := by kernel_rfl
@[simp] theorem sz139 : szO Tryd.prog 139 = some 2 := by kernel_rfl
@[simp] theorem ag139 : isAggO Tryd.prog 139 = some true := by kernel_rfl
@[simp] theorem zc139 : zeroCs Tryd.prog 139 = some [V.int IntKind.u8 (0), V.int IntKind.u8 (0)] := by kernel_rfl
@[simp] theorem pl139 : placesO Tryd.prog 139 = some [(0, 1), (1, 1)] := by kernel_rfl
@[simp] theorem zv139 : zeroV Tryd.prog 139 = some (V.agg [V.int IntKind.u8 (0), V.int IntKind.u8 (0)]) := by kernel_rfl
@[simp] theorem by139 : bytesO Tryd.prog 139 = some 2 := by kernel_rfl
@[simp] theorem fo139_0 : fieldO Tryd.prog 139 0 = some (0, 5, 1) := by kernel_rfl
@[simp] theorem fo139_1 : fieldO Tryd.prog 139 1 = some (1, 5, 1) := by kernel_rfl
@[simp] theorem sz140 : szO Tryd.prog 140 = some 2 := by kernel_rfl
@[simp] theorem ag140 : isAggO Tryd.prog 140 = some true := by kernel_rfl
@[simp] theorem zc140 : zeroCs Tryd.prog 140 = some [V.int IntKind.u8 (0), V.int IntKind.u8 (0)] := by kernel_rfl
@[simp] theorem pl140 : placesO Tryd.prog 140 = some [(0, 1), (1, 1)] := by kernel_rfl
@[simp] theorem zv140 : zeroV Tryd.prog 140 = some (V.agg [V.int IntKind.u8 (0), V.int IntKind.u8 (0)]) := by kernel_rfl
@[simp] theorem by140 : bytesO Tryd.prog 140 = some 2 := by kernel_rfl
@[simp] theorem fo140_0 : fieldO Tryd.prog 140 0 = some (0, 5, 1) := by kernel_rfl
@[simp] theorem fo140_1 : fieldO Tryd.prog 140 1 = some (1, 5, 1) := by kernel_rfl
@[simp] theorem sz141 : szO Tryd.prog 141 = some 32 := by kernel_rfl
@[simp] theorem ag141 : isAggO Tryd.prog 141 = some true := by kernel_rfl
@[simp] theorem zc141 : zeroCs Tryd.prog 141 = some (tab 32 (fun _ => V.int IntKind.u8 (0))) := by kernel_rfl
@[simp] theorem zv141 : zeroV Tryd.prog 141 = some (V.agg [V.int IntKind.u8 (0), V.int IntKind.u8 (0), V.int IntKind.u8 (0), V.int IntKind.u8 (0), V.int IntKind.u8 (0), V.int IntKind.u8 (0), V.int IntKind.u8 (0), V.int IntKind.u8 (0), V.int IntKind.u8 (0), V.int IntKind.u8 (0), V.int IntKind.u8 (0), V.int IntKind.u8 (0), V.int IntKind.u8 (0), V.int IntKind.u8 (0), V.int IntKind.u8 (0), V.int IntKind.u8 (0), V.int IntKind.u8 (0), V.int IntKind.u8 (0), V.int IntKind.u8 (0), V.int IntKind.u8 (0), V.int IntKind.u8 (0), V.int IntKind.u8 (0), V.int IntKind.u8 (0), V.int IntKind.u8 (0), V.int IntKind.u8 (0), V.int IntKind.u8 (0), V.int IntKind.u8 (0), V.int IntKind.u8 (0), V.int IntKind.u8 (0), V.int IntKind.u8 (0), V.int IntKind.u8 (0), V.int IntKind.u8 (0)]) := by kernel_rfl
@[simp] theorem by141 : bytesO Tryd.prog 141 = some 32 := by kernel_rfl
@[simp] theorem sz142 : szO Tryd.prog 142 = some 1 := by kernel_rfl
@[simp] theorem ag142 : isAggO Tryd.prog 142 = some false := by kernel_rfl
@[simp] theorem zc142 : zeroCs Tryd.prog 142 = some [V.nilfunc] := by kernel_rfl
@[simp] theorem zv142 : zeroV Tryd.prog 142 = some V.nilfunc := by kernel_rfl
@[simp] theorem by142 : bytesO Tryd.prog 142 = some 8 := by kernel_rfl
@[simp] theorem sz143 : szO Tryd.prog 143 = some 4 := by kernel_rfl
@[simp] theorem ag143 : isAggO Tryd.prog 143 = some true := by kernel_rfl
@[simp] theorem zc143 : zeroCs Tryd.prog 143 = some [V.nilptr, V.nilptr, V.nilptr, V.str []] := by kernel_rfl
@[simp] theorem pl143 : placesO Tryd.prog 143 = some [(0, 1), (1, 1), (2, 1), (3, 1)] := by kernel_rfl
@[simp] theorem zv143 : zeroV Tryd.prog 143 = some (V.agg [V.nilptr, V.nilptr, V.nilptr, V.str []]) := by kernel_rfl
@[simp] theorem by143 : bytesO Tryd.prog 143 = some 40 := by kernel_rfl
@[simp] theorem fo143_0 : fieldO Tryd.prog 143 0 = some (0, 17, 1) := by kernel_rfl
@[simp] theorem fo143_1 : fieldO Tryd.prog 143 1 = some (1, 17, 1) := by kernel_rfl
@[simp] theorem fo143_2 : fieldO Tryd.prog 143 2 = some (2, 17, 1) := by kernel_rfl
@[simp] theorem fo143_3 : fieldO Tryd.prog 143 3 = some (3, 9, 1) := by kernel_rfl
@[simp] theorem sz144 : szO Tryd.prog 144 = some 4 := by kernel_rfl
@[simp] theorem ag144 : isAggO Tryd.prog 144 = some true := by kernel_rfl
@[simp] theorem zc144 : zeroCs Tryd.prog 144 = some [V.nilptr, V.nilptr, V.nilptr, V.str []] := by kernel_rfl
@[simp] theorem pl144 : placesO Tryd.prog 144 = some [(0, 1), (1, 1), (2, 1), (3, 1)] := by kernel_rfl
@[simp] theorem zv144 : zeroV Tryd.prog 144 = some (V.agg [V.nilptr, V.nilptr, V.nilptr, V.str []]) := by kernel_rfl
@[simp] theorem by144 : bytesO Tryd.prog 144 = some 40 := by kernel_rfl
@[simp] theorem fo144_0 : fieldO Tryd.prog 144 0 = some (0, 17, 1) := by kernel_rfl
@[simp] theorem fo144_1 : fieldO Tryd.prog 144 1 = some (1, 17, 1) := by kernel_rfl
@[simp] theorem fo144_2 : fieldO Tryd.prog 144 2 = some (2, 17, 1) := by kernel_rfl
@[simp] theorem fo144_3 : fieldO Tryd.prog 144 3 = some (3, 9, 1) := by kernel_rfl
@[simp] theorem sz145 : szO Tryd.prog 145 = some 0 := by kernel_rfl
@[simp] theorem ag145 : isAggO Tryd.prog 145 = some true := by kernel_rfl
@[simp] theorem zc145 : zeroCs Tryd.prog 145 = some [] := by kernel_rfl
@[simp] theorem zv145 : zeroV Tryd.prog 145 = some (V.agg []) := by kernel_rfl
@[simp] theorem by145 : bytesO Tryd.prog 145 = some 0 := by kernel_rfl
@[simp] theorem sz146 : szO Tryd.prog 146 = some 0 := by kernel_rfl
@[simp] theorem ag146 : isAggO Tryd.prog 146 = some true := by kernel_rfl
@[simp] theorem zc146 : zeroCs Tryd.prog 146 = some [] := by kernel_rfl
@[simp] theorem pl146 : placesO Tryd.prog 146 = some [(0, 0)] := by kernel_rfl
@[simp] theorem zv146 : zeroV Tryd.prog 146 = some (V.agg []) := by kernel_rfl
@[simp] theorem by146 : bytesO Tryd.prog 146 = some 0 := by kernel_rfl
@[simp] theorem fo146_0 : fieldO Tryd.prog 146 0 = some (0, 145, 0) := by kernel_rfl
@[simp] theorem sz147 : szO Tryd.prog 147 = some 0 := by kernel_rfl
@[simp] theorem ag147 : isAggO Tryd.prog 147 = some true := by kernel_rfl
@[simp] theorem zc147 : zeroCs Tryd.prog 147 = some [] := by kernel_rfl
@[simp] theorem pl147 : placesO Tryd.prog 147 = some [(0, 0)] := by kernel_rfl
@[simp] theorem zv147 : zeroV Tryd.prog 147 = some (V.agg []) := by kernel_rfl
@[simp] theorem by147 : bytesO Tryd.prog 147 = some 0 := by kernel_rfl
@[simp] theorem fo147_0 : fieldO Tryd.prog 147 0 = some (0, 145, 0) := by kernel_rfl
@[simp] theorem sz148 : szO Tryd.prog 148 = some 1 := by kernel_rfl
@[simp] theorem ag148 : isAggO Tryd.prog 148 = some false := by kernel_rfl
@[simp] theorem zc148 : zeroCs Tryd.prog 148 = some [V.nilfunc] := by kernel_rfl
@[simp] theorem zv148 : zeroV Tryd.prog 148 = some V.nilfunc := by kernel_rfl
@[simp] theorem by148 : bytesO Tryd.prog 148 = some 8 := by kernel_rfl
@[simp] theorem sz149 : szO Tryd.prog 149 = some 1 := by kernel_rfl
@[simp] theorem ag149 : isAggO Tryd.prog 149 = some false := by kernel_rfl
@[simp] theorem zc149 : zeroCs Tryd.prog 149 = some [V.int IntKind.u32 (0)] := by kernel_rfl
@[simp] theorem zv149 : zeroV Tryd.prog 149 = some (V.int IntKind.u32 (0)) := by kernel_rfl
@[simp] theorem by149 : bytesO Tryd.prog 149 = some 4 := by kernel_rfl
@[simp] theorem sz150 : szO Tryd.prog 150 = some 1 := by kernel_rfl
@[simp] theorem ag150 : isAggO Tryd.prog 150 = some false := by kernel_rfl
@[simp] theorem zc150 : zeroCs Tryd.prog 150 = some [V.int IntKind.u8 (0)] := by kernel_rfl
@[simp] theorem zv150 : zeroV Tryd.prog 150 = some (V.int IntKind.u8 (0)) := by kernel_rfl
@[simp] theorem by150 : bytesO Tryd.prog 150 = some 1 := by kernel_rfl
@[simp] theorem sz151 : szO Tryd.prog 151 = some 1 := by kernel_rfl
@[simp] theorem ag151 : isAggO Tryd.prog 151 = some false := by kernel_rfl
@[simp] theorem zc151 : zeroCs Tryd.prog 151 = some [V.int IntKind.u8 (0)] := by kernel_rfl
@[simp] theorem zv151 : zeroV Tryd.prog 151 = some (V.int IntKind.u8 (0)) := by kernel_rfl
@[simp] theorem by151 : bytesO Tryd.prog 151 = some 1 := by kernel_rfl
@[simp] theorem sz152 : szO Tryd.prog 152 = some 1 := by kernel_rfl
@[simp] theorem ag152 : isAggO Tryd.prog 152 = some false := by kernel_rfl
@[simp] theorem zc152 : zeroCs Tryd.prog 152 = some [V.nilfunc] := by kernel_rfl
@[simp] theorem zv152 : zeroV Tryd.prog 152 = some V.nilfunc := by kernel_rfl
@[simp] theorem by152 : bytesO Tryd.prog 152 = some 8 := by kernel_rfl
@[simp] theorem sz153 : szO Tryd.prog 153 = some 1 := by kernel_rfl
@[simp] theorem ag153 : isAggO Tryd.prog 153 = some false := by kernel_rfl
@[simp] theorem zc153 : zeroCs Tryd.prog 153 = some [V.nilptr] := by kernel_rfl
@[simp] theorem zv153 : zeroV Tryd.prog 153 = some V.nilptr := by kernel_rfl
@[simp] theorem by153 : bytesO Tryd.prog 153 = some 8 := by kernel_rfl
@[simp] theorem sz154 : szO Tryd.prog 154 = some 1 := by kernel_rfl
@[simp] theorem ag154 : isAggO Tryd.prog 154 = some false := by kernel_rfl
@[simp] theorem zc154 : zeroCs Tryd.prog 154 = some [V.int IntKind.i32 (0)] := by kernel_rfl
@[simp] theorem zv154 : zeroV Tryd.prog 154 = some (V.int IntKind.i32 (0)) := by kernel_rfl
@[simp] theorem by154 : bytesO Tryd.prog 154 = some 4 := by kernel_rfl
@[simp] theorem sz155 : szO Tryd.prog 155 = some 1 := by kernel_rfl
@[simp] theorem ag155 : isAggO Tryd.prog 155 = some false := by kernel_rfl
@[simp] theorem zc155 : zeroCs Tryd.prog 155 = some [V.int IntKind.i32 (0)] := by kernel_rfl
@[simp] theorem zv155 : zeroV Tryd.prog 155 = some (V.int IntKind.i32 (0)) := by kernel_rfl
@[simp] theorem by155 : bytesO Tryd.prog 155 = some 4 := by kernel_rfl
@[simp] theorem sz156 : szO Tryd.prog 156 = some 11 := by kernel_rfl
@[simp] theorem ag156 : isAggO Tryd.prog 156 = some true := by kernel_rfl
@[simp] theorem zc156 : zeroCs Tryd.prog 156 = some [V.int IntKind.u64 (0), V.int IntKind.u64 (0), V.int IntKind.u32 (0), V.int IntKind.u8 (0), V.int IntKind.u8 (0), V.int IntKind.u8 (0), V.int IntKind.u8 (0), V.nilfunc, V.nilptr, V.int IntKind.i32 (0), V.int IntKind.i32 (0)] := by kernel_rfl
@[simp] theorem pl156 : placesO Tryd.prog 156 = some [(0, 1), (1, 1), (2, 1), (3, 1), (4, 1), (5, 1), (6, 1), (7, 1), (8, 1), (9, 1), (10, 1)] := by kernel_rfl
@[simp] theorem zv156 : zeroV Tryd.prog 156 = some (V.agg [V.int IntKind.u64 (0), V.int IntKind.u64 (0), V.int IntKind.u32 (0), V.int IntKind.u8 (0), V.int IntKind.u8 (0), V.int IntKind.u8 (0), V.int IntKind.u8 (0), V.nilfunc, V.nilptr, V.int IntKind.i32 (0), V.int IntKind.i32 (0)]) := by kernel_rfl
@[simp] theorem by156 : bytesO Tryd.prog 156 = some 48 := by kernel_rfl
@[simp] theorem fo156_0 : fieldO Tryd.prog 156 0 = some (0, 12, 1) := by kernel_rfl
@[simp] theorem fo156_1 : fieldO Tryd.prog 156 1 = some (1, 12, 1) := by kernel_rfl
@[simp] theorem fo156_2 : fieldO Tryd.prog 156 2 = some (2, 149, 1) := by kernel_rfl
@[simp] theorem fo156_3 : fieldO Tryd.prog 156 3 = some (3, 150, 1) := by kernel_rfl
@[simp] theorem fo156_4 : fieldO Tryd.prog 156 4 = some (4, 5, 1) := by kernel_rfl
@[simp] theorem fo156_5 : fieldO Tryd.prog 156 5 = some (5, 5, 1) := by kernel_rfl
@[simp] theorem fo156_6 : fieldO Tryd.prog 156 6 = some (6, 151, 1) := by kernel_rfl
@[simp] theorem fo156_7 : fieldO Tryd.prog 156 7 = some (7, 152, 1) := by kernel_rfl
@[simp] theorem fo156_8 : fieldO Tryd.prog 156 8 = some (8, 153, 1) := by kernel_rfl
@[simp] theorem fo156_9 : fieldO Tryd.prog 156 9 = some (9, 154, 1) := by kernel_rfl
@[simp] theorem fo156_10 : fieldO Tryd.prog 156 10 = some (10, 155, 1) := by kernel_rfl
@[simp] theorem sz157 : szO Tryd.prog 157 = some 11 := by kernel_rfl
@[simp] theorem ag157 : isAggO Tryd.prog 157 = some true := by kernel_rfl
@[simp] theorem zc157 : zeroCs Tryd.prog 157 = some [V.int IntKind.u64 (0), V.int IntKind.u64 (0), V.int IntKind.u32 (0), V.int IntKind.u8 (0), V.int IntKind.u8 (0), V.int IntKind.u8 (0), V.int IntKind.u8 (0), V.nilfunc, V.nilptr, V.int IntKind.i32 (0), V.int IntKind.i32 (0)] := by kernel_rfl
@[simp] theorem pl157 : placesO Tryd.prog 157 = some [(0, 1), (1, 1), (2, 1), (3, 1), (4, 1), (5, 1), (6, 1), (7, 1), (8, 1), (9, 1), (10, 1)] := by kernel_rfl
@[simp] theorem zv157 : zeroV Tryd.prog 157 = some (V.agg [V.int IntKind.u64 (0), V.int IntKind.u64 (0), V.int IntKind.u32 (0), V.int IntKind.u8 (0), V.int IntKind.u8 (0), V.int IntKind.u8 (0), V.int IntKind.u8 (0), V.nilfunc, V.nilptr, V.int IntKind.i32 (0), V.int IntKind.i32 (0)]) := by kernel_rfl
@[simp] theorem by157 : bytesO Tryd.prog 157 = some 48 := by kernel_rfl
@[simp] theorem fo157_0 : fieldO Tryd.prog 157 0 = some (0, 12, 1) := by kernel_rfl
@[simp] theorem fo157_1 : fieldO Tryd.prog 157 1 = some (1, 12, 1) := by kernel_rfl
@[simp] theorem fo157_2 : fieldO Tryd.prog 157 2 = some (2, 149, 1) := by kernel_rfl
@[simp] theorem fo157_3 : fieldO Tryd.prog 157 3 = some (3, 150, 1) := by kernel_rfl
@[simp] theorem fo157_4 : fieldO Tryd.prog 157 4 = some (4, 5, 1) := by kernel_rfl
@[simp] theorem fo157_5 : fieldO Tryd.prog 157 5 = some (5, 5, 1) := by kernel_rfl
@[simp] theorem fo157_6 : fieldO Tryd.prog 157 6 = some (6, 151, 1) := by kernel_rfl
@[simp] theorem fo157_7 : fieldO Tryd.prog 157 7 = some (7, 152, 1) := by kernel_rfl
@[simp] theorem fo157_8 : fieldO Tryd.prog 157 8 = some (8, 153, 1) := by kernel_rfl
@[simp] theorem fo157_9 : fieldO Tryd.prog 157 9 = some (9, 154, 1) := by kernel_rfl
@[simp] theorem fo157_10 : fieldO Tryd.prog 157 10 = some (10, 155, 1) := by kernel_rfl
@[simp] theorem sz158 : szO Tryd.prog 158 = some 1 := by kernel_rfl
@[simp] theorem ag158 : isAggO Tryd.prog 158 = some false := by kernel_rfl
@[simp] theorem zc158 : zeroCs Tryd.prog 158 = some [V.nilptr] := by kernel_rfl
@[simp] theorem zv158 : zeroV Tryd.prog 158 = some V.nilptr := by kernel_rfl
@[simp] theorem by158 : bytesO Tryd.prog 158 = some 8 := by kernel_rfl
@[simp] theorem ib134 : isBs Tryd.prog 134 = true := by kernel_rfl
@[simp] theorem ibb134 : isBb Tryd.prog 134 = true := by kernel_rfl
@[simp] theorem az121 : arrz Tryd.prog 121 = some (2, 1) := by kernel_rfl
@[simp] theorem az137 : arrz Tryd.prog 137 = some (256, 1) := by kernel_rfl
@[simp] theorem az141 : arrz Tryd.prog 141 = some (16, 2) := by kernel_rfl
@[simp] theorem az145 : arrz Tryd.prog 145 = some (0, 1) := by kernel_rfl
@[simp] theorem ap22 : apz Tryd.prog #[22, 22] = some (1, 24) := by kernel_rfl
@[simp] theorem ap29 : apz Tryd.prog #[29, 29] = some (1, 16) := by kernel_rfl
@[simp] theorem ap30 : apz Tryd.prog #[30, 30] = some (1, 8) := by kernel_rfl
@[simp] theorem ap37 : apz Tryd.prog #[37, 37] = some (2, 40) := by kernel_rfl
@[simp] theorem ap64 : apz Tryd.prog #[64, 64] = some (1, 24) := by kernel_rfl
@[simp] theorem ap66 : apz Tryd.prog #[66, 66] = some (1, 8) := by kernel_rfl
@[simp] theorem ap101 : apz Tryd.prog #[101, 101] = some (2, 16) := by kernel_rfl
@[simp] theorem ap130 : apz Tryd.prog #[130, 130] = some (2, 16) := by kernel_rfl
@[simp] theorem ap134 : apz Tryd.prog #[134, 134] = some (1, 1) := by kernel_rfl
attribute [simp] Tryd.underlying0 Tryd.underlying1 Tryd.underlying2 Tryd.underlying3 Tryd.underlying4 Tryd.underlying5 Tryd.underlying6 Tryd.underlying7 Tryd.underlying8 Tryd.underlying9 Tryd.underlying10 Tryd.underlying11 Tryd.underlying12 Tryd.underlying13 Tryd.underlying14 Tryd.underlying15 Tryd.underlying16 Tryd.underlying17 Tryd.underlying18 Tryd.underlying19 Tryd.underlying20 Tryd.underlying21 Tryd.underlying22 Tryd.underlying23 Tryd.underlying24 Tryd.underlying25 Tryd.underlying26 Tryd.underlying27 Tryd.underlying28 Tryd.underlying29 Tryd.underlying30 Tryd.underlying31 Tryd.underlying32 Tryd.underlying33 Tryd.underlying34 Tryd.underlying35 Tryd.underlying36 Tryd.underlying37 Tryd.underlying38 Tryd.underlying39 Tryd.underlying40 Tryd.underlying41 Tryd.underlying42 Tryd.underlying43 Tryd.underlying44 Tryd.underlying45 Tryd.underlying46 Tryd.underlying47 Tryd.underlying48 Tryd.underlying49 Tryd.underlying50 Tryd.underlying51 Tryd.underlying52 Tryd.underlying53 Tryd.underlying54 Tryd.underlying55 Tryd.underlying56 Tryd.underlying57 Tryd.underlying58 Tryd.underlying59 Tryd.underlying60 Tryd.underlying61 Tryd.underlying62 Tryd.underlying63 Tryd.underlying64 Tryd.underlying65 Tryd.underlying66 Tryd.underlying67 Tryd.underlying68 Tryd.underlying69 Tryd.underlying70 Tryd.underlying71 Tryd.underlying72 Tryd.underlying73 Tryd.underlying74 Tryd.underlying75 Tryd.underlying76 Tryd.underlying77 Tryd.underlying78 Tryd.underlying79 Tryd.underlying80 Tryd.underlying81 Tryd.underlying82 Tryd.underlying83 Tryd.underlying84 Tryd.underlying85 Tryd.underlying86 Tryd.underlying87 Tryd.underlying88 Tryd.underlying89 Tryd.underlying90 Tryd.underlying91 Tryd.underlying92 Tryd.underlying93 Tryd.underlying94 Tryd.underlying95 Tryd.underlying96 Tryd.underlying97 Tryd.underlying98 Tryd.underlying99 Tryd.underlying100 Tryd.underlying101 Tryd.underlying102 Tryd.underlying103 Tryd.underlying104 Tryd.underlying105 Tryd.underlying106 Tryd.underlying107 Tryd.underlying108 Tryd.underlying109 Tryd.underlying110 Tryd.underlying111 Tryd.underlying112 Tryd.underlying113 Tryd.underlying114 Tryd.underlying115 Tryd.underlying116 Tryd.underlying117 Tryd.underlying118 Tryd.underlying119 Tryd.underlying120 Tryd.underlying121 Tryd.underlying122 Tryd.underlying123 Tryd.underlying124 Tryd.underlying125 Tryd.underlying126 Tryd.underlying127 Tryd.underlying128 Tryd.underlying129 Tryd.underlying130 Tryd.underlying131 Tryd.underlying132 Tryd.underlying133 Tryd.underlying134 Tryd.underlying135 Tryd.underlying136 Tryd.underlying137 Tryd.underlying138 Tryd.underlying139 Tryd.underlying140 Tryd.underlying141 Tryd.underlying142 Tryd.underlying143 Tryd.underlying144 Tryd.underlying145 Tryd.underlying146 Tryd.underlying147 Tryd.underlying148 Tryd.underlying149 Tryd.underlying150 Tryd.underlying151 Tryd.underlying152 Tryd.underlying153 Tryd.underlying154 Tryd.underlying155 Tryd.underlying156 Tryd.underlying157 Tryd.underlying158
@[simp] theorem pu3 : cfg.pure 3 = true := rfl
@[simp] theorem pu4 : cfg.pure 4 = true := rfl
@[simp] theorem pu5 : cfg.pure 5 = true := rfl
@[simp] theorem pu6 : cfg.pure 6 = true := rfl
@[simp] theorem pu7 : cfg.pure 7 = true := rfl
@[simp] theorem pu8 : cfg.pure 8 = true := rfl
@[simp] theorem pu9 : cfg.pure 9 = true := rfl
@[simp] theorem pu10 : cfg.pure 10 = true := rfl
@[simp] theorem pu11 : cfg.pure 11 = true := rfl
@[simp] theorem pu12 : cfg.pure 12 = true := rfl
@[simp] theorem pu13 : cfg.pure 13 = true := rfl
@[simp] theorem pu14 : cfg.pure 14 = true := rfl
@[simp] theorem pu15 : cfg.pure 15 = true := rfl
@[simp] theorem pu16 : cfg.pure 16 = true := rfl
@[simp] theorem pu17 : cfg.pure 17 = true := rfl
@[simp] theorem pu18 : cfg.pure 18 = true := rfl
@[simp] theorem pu19 : cfg.pure 19 = true := rfl
@[simp] theorem pu20 : cfg.pure 20 = true := rfl
@[simp] theorem pu21 : cfg.pure 21 = true := rfl
@[simp] theorem pu22 : cfg.pure 22 = true := rfl
@[simp] theorem pu23 : cfg.pure 23 = true := rfl
@[simp] theorem pu24 : cfg.pure 24 = true := rfl
@[simp] theorem pu25 : cfg.pure 25 = true := rfl
@[simp] theorem pu27 : cfg.pure 27 = true := rfl
@[simp] theorem pu28 : cfg.pure 28 = true := rfl
@[simp] theorem pu30 : cfg.pure 30 = true := rfl
@[simp] theorem pu31 : cfg.pure 31 = true := rfl
@[simp] theorem pu32 : cfg.pure 32 = true := rfl
@[simp] theorem pu35 : cfg.pure 35 = true := rfl
@[simp] theorem pu36 : cfg.pure 36 = true := rfl
@[simp] theorem pu37 : cfg.pure 37 = true := rfl
@[simp] theorem pu38 : cfg.pure 38 = true := rfl
@[simp] theorem pu40 : cfg.pure 40 = true := rfl
@[simp] theorem pu41 : cfg.pure 41 = true := rfl
@[simp] theorem pu42 : cfg.pure 42 = true := rfl
@[simp] theorem pu43 : cfg.pure 43 = true := rfl
@[simp] theorem pu44 : cfg.pure 44 = true := rfl
@[simp] theorem pu46 : cfg.pure 46 = true := rfl
@[simp] theorem pu47 : cfg.pure 47 = true := rfl
@[simp] theorem pu54 : cfg.pure 54 = true := rfl
@[simp] theorem pu55 : cfg.pure 55 = true := rfl
@[simp] theorem pu56 : cfg.pure 56 = true := rfl
@[simp] theorem pu57 : cfg.pure 57 = true := rfl
@[simp] theorem pu58 : cfg.pure 58 = true := rfl
@[simp] theorem pu59 : cfg.pure 59 = true := rfl
@[simp] theorem pu61 : cfg.pure 61 = true := rfl
@[simp] theorem pu66 : cfg.pure 66 = true := rfl
@[simp] theorem pu67 : cfg.pure 67 = true := rfl
@[simp] theorem pu68 : cfg.pure 68 = true := rfl
@[simp] theorem pu69 : cfg.pure 69 = true := rfl
@[simp] theorem pu70 : cfg.pure 70 = true := rfl
@[simp] theorem pu73 : cfg.pure 73 = true := rfl
@[simp] theorem pu75 : cfg.pure 75 = true := rfl
@[simp] theorem pu76 : cfg.pure 76 = true := rfl
@[simp] theorem pu77 : cfg.pure 77 = true := rfl
@[simp] theorem pu78 : cfg.pure 78 = true := rfl
@[simp] theorem pu79 : cfg.pure 79 = true := rfl
@[simp] theorem pu81 : cfg.pure 81 = true := rfl
@[simp] theorem pu89 : cfg.pure 89 = true := rfl
@[simp] theorem pu90 : cfg.pure 90 = true := rfl
@[simp] theorem pu91 : cfg.pure 91 = true := rfl
@[simp] theorem pu94 : cfg.pure 94 = true := rfl
@[simp] theorem pu98 : cfg.pure 98 = true := rfl
@[simp] theorem pu99 : cfg.pure 99 = true := rfl
@[simp] theorem pu100 : cfg.pure 100 = true := rfl
@[simp] theorem pu101 : cfg.pure 101 = true := rfl
@[simp] theorem I26 {k : CC} {K : List Fr} {Q : Ax → St → Prop} {fi ca ar : List V} {h : Heap} (hl : (fi ++ ar ++ ca).length ≤ 6) : wk cfg k K Q (Ci cfg (.func (.func 26) fi ca) ar h) = wp cfg (codeOf Tryd.f26) ⟨tab 6 (lf (fi ++ ar ++ ca)), h, [], .no, none⟩ (.call ([ResultVar.tmp 2]) k :: K) Q := wk_fun cfg rfl Tryd.func26 rfl hl
@[simp] theorem I29 {k : CC} {K : List Fr} {Q : Ax → St → Prop} {fi ca ar : List V} {h : Heap} (hl : (fi ++ ar ++ ca).length ≤ 6) : wk cfg k K Q (Ci cfg (.func (.func 29) fi ca) ar h) = wp cfg (codeOf Tryd.f29) ⟨tab 6 (lf (fi ++ ar ++ ca)), h, [], .no, none⟩ (.call ([ResultVar.tmp 0]) k :: K) Q := wk_fun cfg rfl Tryd.func29 rfl hl
@[simp] theorem I33 {k : CC} {K : List Fr} {Q : Ax → St → Prop} {fi ca ar : List V} {h : Heap} (hl : (fi ++ ar ++ ca).length ≤ 6) : wk cfg k K Q (Ci cfg (.func (.func 33) fi ca) ar h) = wp cfg (codeOf Tryd.f33) ⟨tab 6 (lf (fi ++ ar ++ ca)), h, [], .no, none⟩ (.call ([ResultVar.tmp 2]) k :: K) Q := wk_fun cfg rfl Tryd.func33 rfl hl
@[simp] theorem I34 {k : CC} {K : List Fr} {Q : Ax → St → Prop} {fi ca ar : List V} {h : Heap} (hl : (fi ++ ar ++ ca).length ≤ 17) : wk cfg k K Q (Ci cfg (.func (.func 34) fi ca) ar h) = wp cfg (codeOf Tryd.f34) ⟨tab 17 (lf (fi ++ ar ++ ca)), h, [], .no, none⟩ (.call ([ResultVar.tmp 2]) k :: K) Q := wk_fun cfg rfl Tryd.func34 rfl hl
@[simp] theorem I39 {k : CC} {K : List Fr} {Q : Ax → St → Prop} {fi ca ar : List V} {h : Heap} (hl : (fi ++ ar ++ ca).length ≤ 19) : wk cfg k K Q (Ci cfg (.func (.func 39) fi ca) ar h) = wp cfg (codeOf Tryd.f39) ⟨tab 19 (lf (fi ++ ar ++ ca)), h, [], .no, none⟩ (.call ([]) k :: K) Q := wk_fun cfg rfl Tryd.func39 rfl hl
@[simp] theorem I45 {k : CC} {K : List Fr} {Q : Ax → St → Prop} {fi ca ar : List V} {h : Heap} (hl : (fi ++ ar ++ ca).length ≤ 6) : wk cfg k K Q (Ci cfg (.func (.func 45) fi ca) ar h) = wp cfg (codeOf Tryd.f45) ⟨tab 6 (lf (fi ++ ar ++ ca)), h, [], .no, none⟩ (.call ([ResultVar.tmp 2]) k :: K) Q := wk_fun cfg rfl Tryd.func45 rfl hl
@[simp] theorem I48 {k : CC} {K : List Fr} {Q : Ax → St → Prop} {fi ca ar : List V} {h : Heap} (hl : (fi ++ ar ++ ca).length ≤ 8) : wk cfg k K Q (Ci cfg (.func (.func 48) fi ca) ar h) = wp cfg (codeOf Tryd.f48) ⟨tab 8 (lf (fi ++ ar ++ ca)), h, [], .no, none⟩ (.call ([]) k :: K) Q := wk_fun cfg rfl Tryd.func48 rfl hl
@[simp] theorem I49 {k : CC} {K : List Fr} {Q : Ax → St → Prop} {fi ca ar : List V} {h : Heap} (hl : (fi ++ ar ++ ca).length ≤ 20) : wk cfg k K Q (Ci cfg (.func (.func 49) fi ca) ar h) = wp cfg (codeOf Tryd.f49) ⟨tab 20 (lf (fi ++ ar ++ ca)), h, [], .no, none⟩ (.call ([]) k :: K) Q := wk_fun cfg rfl Tryd.func49 rfl hl
@[simp] theorem I50 {k : CC} {K : List Fr} {Q : Ax → St → Prop} {fi ca ar : List V} {h : Heap} (hl : (fi ++ ar ++ ca).length ≤ 18) : wk cfg k K Q (Ci cfg (.func (.func 50) fi ca) ar h) = wp cfg (codeOf Tryd.f50) ⟨tab 18 (lf (fi ++ ar ++ ca)), h, [], .no, none⟩ (.call ([ResultVar.tmp 2]) k :: K) Q := wk_fun cfg rfl Tryd.func50 rfl hl
@[simp] theorem I51 {k : CC} {K : List Fr} {Q : Ax → St → Prop} {fi ca ar : List V} {h : Heap} (hl : (fi ++ ar ++ ca).length ≤ 18) : wk cfg k K Q (Ci cfg (.func (.func 51) fi ca) ar h) = wp cfg (codeOf Tryd.f51) ⟨tab 18 (lf (fi ++ ar ++ ca)), h, [], .no, none⟩ (.call ([ResultVar.cell 2 40]) k :: K) Q := wk_fun cfg rfl Tryd.func51 rfl hl
@[simp] theorem I52 {k : CC} {K : List Fr} {Q : Ax → St → Prop} {fi ca ar : List V} {h : Heap} (hl : (fi ++ ar ++ ca).length ≤ 7) : wk cfg k K Q (Ci cfg (.func (.func 52) fi ca) ar h) = wp cfg (codeOf Tryd.f52) ⟨tab 7 (lf (fi ++ ar ++ ca)), h, [], .no, none⟩ (.call ([]) k :: K) Q := wk_fun cfg rfl Tryd.func52 rfl hl
@[simp] theorem I53 {k : CC} {K : List Fr} {Q : Ax → St → Prop} {fi ca ar : List V} {h : Heap} (hl : (fi ++ ar ++ ca).length ≤ 11) : wk cfg k K Q (Ci cfg (.func (.func 53) fi ca) ar h) = wp cfg (codeOf Tryd.f53) ⟨tab 11 (lf (fi ++ ar ++ ca)), h, [], .no, none⟩ (.call ([]) k :: K) Q := wk_fun cfg rfl Tryd.func53 rfl hl
@[simp] theorem I60 {k : CC} {K : List Fr} {Q : Ax → St → Prop} {fi ca ar : List V} {h : Heap} (hl : (fi ++ ar ++ ca).length ≤ 4) : wk cfg k K Q (Ci cfg (.func (.func 60) fi ca) ar h) = wp cfg (codeOf Tryd.f60) ⟨tab 4 (lf (fi ++ ar ++ ca)), h, [], .no, none⟩ (.call ([ResultVar.tmp 2]) k :: K) Q := wk_fun cfg rfl Tryd.func60 rfl hl
@[simp] theorem I62 {k : CC} {K : List Fr} {Q : Ax → St → Prop} {fi ca ar : List V} {h : Heap} (hl : (fi ++ ar ++ ca).length ≤ 6) : wk cfg k K Q (Ci cfg (.func (.func 62) fi ca) ar h) = wp cfg (codeOf Tryd.f62) ⟨tab 6 (lf (fi ++ ar ++ ca)), h, [], .no, none⟩ (.call ([ResultVar.tmp 2]) k :: K) Q := wk_fun cfg rfl Tryd.func62 rfl hl
@[simp] theorem I63 {k : CC} {K : List Fr} {Q : Ax → St → Prop} {fi ca ar : List V} {h : Heap} (hl : (fi ++ ar ++ ca).length ≤ 25) : wk cfg k K Q (Ci cfg (.func (.func 63) fi ca) ar h) = wp cfg (codeOf Tryd.f63) ⟨tab 25 (lf (fi ++ ar ++ ca)), h, [], .no, none⟩ (.call ([ResultVar.tmp 2]) k :: K) Q := wk_fun cfg rfl Tryd.func63 rfl hl
@[simp] theorem I64 {k : CC} {K : List Fr} {Q : Ax → St → Prop} {fi ca ar : List V} {h : Heap} (hl : (fi ++ ar ++ ca).length ≤ 12) : wk cfg k K Q (Ci cfg (.func (.func 64) fi ca) ar h) = wp cfg (codeOf Tryd.f64) ⟨tab 12 (lf (fi ++ ar ++ ca)), h, [], .no, none⟩ (.call ([ResultVar.tmp 3]) k :: K) Q := wk_fun cfg rfl Tryd.func64 rfl hl
@[simp] theorem I65 {k : CC} {K : List Fr} {Q : Ax → St → Prop} {fi ca ar : List V} {h : Heap} (hl : (fi ++ ar ++ ca).length ≤ 4) : wk cfg k K Q (Ci cfg (.func (.func 65) fi ca) ar h) = wp cfg (codeOf Tryd.f65) ⟨tab 4 (lf (fi ++ ar ++ ca)), h, [], .no, none⟩ (.call ([ResultVar.tmp 2]) k :: K) Q := wk_fun cfg rfl Tryd.func65 rfl hl
@[simp] theorem I71 {k : CC} {K : List Fr} {Q : Ax → St → Prop} {fi ca ar : List V} {h : Heap} (hl : (fi ++ ar ++ ca).length ≤ 9) : wk cfg k K Q (Ci cfg (.func (.func 71) fi ca) ar h) = wp cfg (codeOf Tryd.f71) ⟨tab 9 (lf (fi ++ ar ++ ca)), h, [], .no, none⟩ (.call ([ResultVar.tmp 4]) k :: K) Q := wk_fun cfg rfl Tryd.func71 rfl hl
@[simp] theorem I72 {k : CC} {K : List Fr} {Q : Ax → St → Prop} {fi ca ar : List V} {h : Heap} (hl : (fi ++ ar ++ ca).length ≤ 20) : wk cfg k K Q (Ci cfg (.func (.func 72) fi ca) ar h) = wp cfg (codeOf Tryd.f72) ⟨tab 20 (lf (fi ++ ar ++ ca)), h, [], .no, none⟩ (.call ([ResultVar.tmp 0]) k :: K) Q := wk_fun cfg rfl Tryd.func72 rfl hl
@[simp] theorem I74 {k : CC} {K : List Fr} {Q : Ax → St → Prop} {fi ca ar : List V} {h : Heap} (hl : (fi ++ ar ++ ca).length ≤ 8) : wk cfg k K Q (Ci cfg (.func (.func 74) fi ca) ar h) = wp cfg (codeOf Tryd.f74) ⟨tab 8 (lf (fi ++ ar ++ ca)), h, [], .no, none⟩ (.call ([ResultVar.tmp 2]) k :: K) Q := wk_fun cfg rfl Tryd.func74 rfl hl
@[simp] theorem I80 {k : CC} {K : List Fr} {Q : Ax → St → Prop} {fi ca ar : List V} {h : Heap} (hl : (fi ++ ar ++ ca).length ≤ 47) : wk cfg k K Q (Ci cfg (.func (.func 80) fi ca) ar h) = wp cfg (codeOf Tryd.f80) ⟨tab 47 (lf (fi ++ ar ++ ca)), h, [], .no, none⟩ (.call ([]) k :: K) Q := wk_fun cfg rfl Tryd.func80 rfl hl
@[simp] theorem I82 {k : CC} {K : List Fr} {Q : Ax → St → Prop} {fi ca ar : List V} {h : Heap} (hl : (fi ++ ar ++ ca).length ≤ 25) : wk cfg k K Q (Ci cfg (.func (.func 82) fi ca) ar h) = wp cfg (codeOf Tryd.f82) ⟨tab 25 (lf (fi ++ ar ++ ca)), h, [], .no, none⟩ (.call ([]) k :: K) Q := wk_fun cfg rfl Tryd.func82 rfl hl
@[simp] theorem I83 {k : CC} {K : List Fr} {Q : Ax → St → Prop} {fi ca ar : List V} {h : Heap} (hl : (fi ++ ar ++ ca).length ≤ 16) : wk cfg k K Q (Ci cfg (.func (.func 83) fi ca) ar h) = wp cfg (codeOf Tryd.f83) ⟨tab 16 (lf (fi ++ ar ++ ca)), h, [], .no, none⟩ (.call ([]) k :: K) Q := wk_fun cfg rfl Tryd.func83 rfl hl
@[simp] theorem I84 {k : CC} {K : List Fr} {Q : Ax → St → Prop} {fi ca ar : List V} {h : Heap} (hl : (fi ++ ar ++ ca).length ≤ 5) : wk cfg k K Q (Ci cfg (.func (.func 84) fi ca) ar h) = wp cfg (codeOf Tryd.f84) ⟨tab 5 (lf (fi ++ ar ++ ca)), h, [], .no, none⟩ (.call ([ResultVar.tmp 2]) k :: K) Q := wk_fun cfg rfl Tryd.func84 rfl hl
@[simp] theorem I85 {k : CC} {K : List Fr} {Q : Ax → St → Prop} {fi ca ar : List V} {h : Heap} (hl : (fi ++ ar ++ ca).length ≤ 4) : wk cfg k K Q (Ci cfg (.func (.func 85) fi ca) ar h) = wp cfg (codeOf Tryd.f85) ⟨tab 4 (lf (fi ++ ar ++ ca)), h, [], .no, none⟩ (.call ([ResultVar.tmp 2]) k :: K) Q := wk_fun cfg rfl Tryd.func85 rfl hl
@[simp] theorem I86 {k : CC} {K : List Fr} {Q : Ax → St → Prop} {fi ca ar : List V} {h : Heap} (hl : (fi ++ ar ++ ca).length ≤ 19) : wk cfg k K Q (Ci cfg (.func (.func 86) fi ca) ar h) = wp cfg (codeOf Tryd.f86) ⟨tab 19 (lf (fi ++ ar ++ ca)), h, [], .no, none⟩ (.call ([ResultVar.tmp 4]) k :: K) Q := wk_fun cfg rfl Tryd.func86 rfl hl
@[simp] theorem I87 {k : CC} {K : List Fr} {Q : Ax → St → Prop} {fi ca ar : List V} {h : Heap} (hl : (fi ++ ar ++ ca).length ≤ 17) : wk cfg k K Q (Ci cfg (.func (.func 87) fi ca) ar h) = wp cfg (codeOf Tryd.f87) ⟨tab 17 (lf (fi ++ ar ++ ca)), h, [], .no, none⟩ (.call ([ResultVar.tmp 2]) k :: K) Q := wk_fun cfg rfl Tryd.func87 rfl hl
@[simp] theorem I88 {k : CC} {K : List Fr} {Q : Ax → St → Prop} {fi ca ar : List V} {h : Heap} (hl : (fi ++ ar ++ ca).length ≤ 4) : wk cfg k K Q (Ci cfg (.func (.func 88) fi ca) ar h) = wp cfg (codeOf Tryd.f88) ⟨tab 4 (lf (fi ++ ar ++ ca)), h, [], .no, none⟩ (.call ([ResultVar.tmp 2]) k :: K) Q := wk_fun cfg rfl Tryd.func88 rfl hl
@[simp] theorem I92 {k : CC} {K : List Fr} {Q : Ax → St → Prop} {fi ca ar : List V} {h : Heap} (hl : (fi ++ ar ++ ca).length ≤ 13) : wk cfg k K Q (Ci cfg (.func (.func 92) fi ca) ar h) = wp cfg (codeOf Tryd.f92) ⟨tab 13 (lf (fi ++ ar ++ ca)), h, [], .no, none⟩ (.call ([ResultVar.tmp 4]) k :: K) Q := wk_fun cfg rfl Tryd.func92 rfl hl
@[simp] theorem I93 {k : CC} {K : List Fr} {Q : Ax → St → Prop} {fi ca ar : List V} {h : Heap} (hl : (fi ++ ar ++ ca).length ≤ 29) : wk cfg k K Q (Ci cfg (.func (.func 93) fi ca) ar h) = wp cfg (codeOf Tryd.f93) ⟨tab 29 (lf (fi ++ ar ++ ca)), h, [], .no, none⟩ (.call ([]) k :: K) Q := wk_fun cfg rfl Tryd.func93 rfl hl
@[simp] theorem I95 {k : CC} {K : List Fr} {Q : Ax → St → Prop} {fi ca ar : List V} {h : Heap} (hl : (fi ++ ar ++ ca).length ≤ 7) : wk cfg k K Q (Ci cfg (.func (.func 95) fi ca) ar h) = wp cfg (codeOf Tryd.f95) ⟨tab 7 (lf (fi ++ ar ++ ca)), h, [], .no, none⟩ (.call ([ResultVar.tmp 3]) k :: K) Q := wk_fun cfg rfl Tryd.func95 rfl hl
@[simp] theorem I96 {k : CC} {K : List Fr} {Q : Ax → St → Prop} {fi ca ar : List V} {h : Heap} (hl : (fi ++ ar ++ ca).length ≤ 9) : wk cfg k K Q (Ci cfg (.func (.func 96) fi ca) ar h) = wp cfg (codeOf Tryd.f96) ⟨tab 9 (lf (fi ++ ar ++ ca)), h, [], .no, none⟩ (.call ([ResultVar.tmp 4]) k :: K) Q := wk_fun cfg rfl Tryd.func96 rfl hl
@[simp] theorem I97 {k : CC} {K : List Fr} {Q : Ax → St → Prop} {fi ca ar : List V} {h : Heap} (hl : (fi ++ ar ++ ca).length ≤ 14) : wk cfg k K Q (Ci cfg (.func (.func 97) fi ca) ar h) = wp cfg (codeOf Tryd.f97) ⟨tab 14 (lf (fi ++ ar ++ ca)), h, [], .no, none⟩ (.call ([ResultVar.tmp 3]) k :: K) Q := wk_fun cfg rfl Tryd.func97 rfl hl
@[simp] theorem I102 {k : CC} {K : List Fr} {Q : Ax → St → Prop} {fi ca ar : List V} {h : Heap} (hl : (fi ++ ar ++ ca).length ≤ 19) : wk cfg k K Q (Ci cfg (.func (.func 102) fi ca) ar h) = wp cfg (codeOf Tryd.f102) ⟨tab 19 (lf (fi ++ ar ++ ca)), h, [], .no, none⟩ (.call ([ResultVar.tmp 4]) k :: K) Q := wk_fun cfg rfl Tryd.func102 rfl hl
@[simp] theorem I123 {k : CC} {K : List Fr} {Q : Ax → St → Prop} {fi ca ar : List V} {h : Heap} (hl : (fi ++ ar ++ ca).length ≤ 6) : wk cfg k K Q (Ci cfg (.func (.func 123) fi ca) ar h) = wp cfg (codeOf Tryd.f123) ⟨tab 6 (lf (fi ++ ar ++ ca)), h, [], .no, none⟩ (.call ([]) k :: K) Q := wk_fun cfg rfl Tryd.func123 rfl hl
end Go.Ab
